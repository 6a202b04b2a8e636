/- Opening a law's argument of type []api.Backend. -/
import Derived.Test.YtaamflhleommlaaOpen
import Derived.Test.YtaamflhleommlaaBacks
import Derived.Deep.Slices
import Derived.Deep.Fields
import Derived.ChangeSame
namespace Go.Proofs.Ytaamflhleommlaa
set_option linter.unusedVariables false
set_option linter.unusedSimpArgs false
open Go.ChangeShapes Go.WideShapes Go.ChangeAt Go.RowKit Go.Deep

/-- after the guide's extra-structs: a slice of structs of fields of one cell -/
theorem open_slice_fields {H : Type} {enc : TypeId × Value → H} {P : Program} {w : World} {base : Nat} {spare : Nat → Bool} {held : Bool} {t e : TypeId} {fs : Array Field} {fuel : Nat} {cs : List Value} {x : DataW H × List MemPlace} (ht : P.underlying t = some (.slice e)) (he : P.underlying e = some (.struct fs))
    (hone : oneCellFields P fs = true) (hC : P.cellsOf e = fs.size) (h : DataW.trod enc P w base spare held fuel t cs = some x) :
    (cs = [.slice none 0 0] ∧ x = (.nil, [])) ∨
    ∃ (a : Addr) (len cap m : Nat) (D : Nat → DataW H) (Pl : Nat → List MemPlace), cs = [.slice (some a) len cap] ∧ base ≤ a.block ∧ len ≤ cap ∧ cap ≤ maxLen ∧ m = (if spare a.block then cap else len) ∧
      x = (.slice ((List.range len).map D) ((List.range (m - len)).map fun j => D (len + j)), MemPlace.row a (m * fs.size) ++ (List.range m).flatMap Pl) ∧
      ∀ i, i < m → ∃ (ys : List (DataW H × List MemPlace)) (n : Nat), D i = .agg (ys.map (·.1)) ∧ Pl i = ys.flatMap (·.2) ∧ ys.length = fs.size ∧
        ∀ (j : Nat) (f : Field), fs[j]? = some f → ∃ (v : Value) (y : DataW H × List MemPlace), w.cell? (a.add (i * fs.size + j)) = some v ∧ ys[j]? = some y ∧ DataW.trod enc P w base spare held n f.type [v] = some y := by
  rcases open_slice ht h with h0 | ⟨a, len, cap, m, n, D, Pl, hcs, hb, hl, hm, hmm, hx, hi⟩
  · exact .inl h0
  · refine .inr ⟨a, len, cap, m, D, Pl, hcs, hb, hl, hm, hmm, by rw [hC] at hx; exact hx, fun i him => ?_⟩
    obtain ⟨cs', hc, ht'⟩ := hi i him
    rw [hC] at hc
    obtain ⟨ys, n', hn', hy, hlen, hyl, hf⟩ := DataW.trod_struct he ht'
    obtain ⟨_, hcl, hat⟩ := World.cells?_some hc
    simp only [Prod.mk.injEq] at hy
    refine ⟨ys, n', hy.1, hy.2, hyl, fun j f hj => ?_⟩
    obtain ⟨ho, hk⟩ := hone_of hone j f hj
    have hjl : j < fs.size := (Array.getElem?_eq_some_iff.1 hj).1
    have hcell := hat j hjl
    have hv : cs'[j]? = some (cs'[j]'(by omega)) := List.getElem?_eq_getElem (by omega)
    have h1 := hf j f hj
    rw [ho, hk] at h1
    have hone' : (cs'.drop j).take 1 = [cs'[j]'(by omega)] := by
      rw [List.drop_eq_getElem_cons (by omega)]
      rfl
    rw [hone'] at h1
    have hys : ys[j]? = some (ys[j]'(by omega)) := List.getElem?_eq_getElem (by omega)
    refine ⟨_, _, ?_, hys, h1.trans hys⟩
    rw [← Go.Deep.add_add, hcell, hv]

structure BesIn (w : World) (a : Option Addr) (n c : Nat) (l : List Be) : Prop where
  ok : BesOk l
  le : n ≤ c
  reach : c * 24 ≤ 140737488351232
  reads : Reads w w.heap.size 3 a n (bks l)
  nil : a = none → c = 0

theorem bks_all {l : List Be} {w : World} {a : Addr} (h : ∀ i (hi : i < l.length), w.cell? (a.add (i * 3 + 0)) = some (.int .i64 l[i].id) ∧ w.cell? (a.add (i * 3 + 1)) = some (.int .u32 (l[i].addr : Int)) ∧ w.cell? (a.add (i * 3 + 2)) = some (.int .i64 l[i].weight)) :
    ∀ j u, (bks l)[j]? = some u → w.cell? (a.add j) = some u := by
  intro j u hu
  have hj : j < l.length * 3 := by
    have := (List.getElem?_eq_some_iff.1 hu).1
    rwa [bks_length] at this
  have hq : j / 3 < l.length := by omega
  obtain ⟨h0, h1, h2⟩ := h _ hq
  obtain ⟨g0, g1, g2⟩ := bks_get l _ hq
  have : j = j / 3 * 3 + 0 ∨ j = j / 3 * 3 + 1 ∨ j = j / 3 * 3 + 2 := by omega
  rcases this with e | e | e
  · rw [e] at hu ⊢
    rw [Nat.add_zero, g0] at hu
    rw [h0]; exact hu
  · rw [e] at hu ⊢
    rw [g1] at hu
    rw [h1]; exact hu
  · rw [e] at hu ⊢
    rw [g2] at hu
    rw [h2]; exact hu

theorem open_bes {H : Type} {enc : TypeId × Value → H} {W : World} {d : DataW H} {ps : List MemPlace} {a : Option Addr} {n c j : Nat} {ts : List TypeId} {ds : List (DataW H)}
    (hz : (DataW.weightsEach Try.prog ts ds).all (· ≤ reachBytes) = true) (ht : ts[j]? = some 23) (hd : ds[j]? = some d)
    (h : DataW.Trod enc Try.prog W 0 (fun _ => true) true 23 (.slice a n c) d ps) : ∃ l : List Be, BesIn W a n c l := by
  have U := Try.underlying23
  obtain ⟨fuel, hf⟩ := h
  rcases open_slice_fields U Try.underlying27 (by kernel_rfl) (by kernel_rfl) hf with ⟨hcs, _⟩ | ⟨x, l, c', m, D, Pl, hcs, _, hl, hm, hml, hx, hcell⟩
  · simp [Value.cells] at hcs
    obtain ⟨rfl, rfl, rfl⟩ := hcs
    exact ⟨[], (by intro x hx; cases hx), Nat.le_refl _, by decide, Reads.none_, fun _ => rfl⟩
  · simp [Value.cells] at hcs
    obtain ⟨rfl, rfl, rfl⟩ := hcs
    simp only [if_true] at hml
    have hml2 := hml.symm
    subst hml2
    have hreach : c * 24 ≤ reachBytes := by
      simp only [Prod.mk.injEq] at hx
      obtain ⟨rfl, _⟩ := hx
      have := sized_slice hz ht hd U
      rw [show Try.prog.bytesOf 27 = 24 from by kernel_rfl] at this
      simp at this
      have : n + (c - n) = c := by omega
      rename_i h2
      rw [this] at h2
      omega
    have hone : ∀ i, i < c → ∃ b : Be, ((-9223372036854775808 ≤ b.id ∧ b.id ≤ 9223372036854775807) ∧ b.addr < 4294967296 ∧ (-9223372036854775808 ≤ b.weight ∧ b.weight ≤ 9223372036854775807)) ∧
        W.cell? (x.add (i * 3 + 0)) = some (.int .i64 b.id) ∧ W.cell? (x.add (i * 3 + 1)) = some (.int .u32 (b.addr : Int)) ∧ W.cell? (x.add (i * 3 + 2)) = some (.int .i64 b.weight) := by
      intro i hi
      obtain ⟨ys, n', _, _, _, hg⟩ := hcell i hi
      obtain ⟨v0, y0, h0, _, t0⟩ := hg 0 _ rfl
      obtain ⟨v1, y1, h1, _, t1⟩ := hg 1 _ rfl
      obtain ⟨v2, y2, h2, _, t2⟩ := hg 2 _ rfl
      obtain ⟨z0, e0, _, w0⟩ := DataW.trod_int Try.underlying3 t0
      obtain ⟨z1, e1, _, w1⟩ := DataW.trod_int Try.underlying25 t1
      obtain ⟨z2, e2, _, w2⟩ := DataW.trod_int Try.underlying3 t2
      simp only [List.cons.injEq, and_true] at e0 e1 e2
      subst e0 e1 e2
      obtain ⟨q, rfl, hq⟩ := nat_u32 w1
      exact ⟨⟨z0, q, z2⟩, ⟨wf_i64 w0, hq, wf_i64 w2⟩, h0, h1, h2⟩
    have hch : ∃ F : Nat → Be, ∀ i, i < c → ((-9223372036854775808 ≤ (F i).id ∧ (F i).id ≤ 9223372036854775807) ∧ (F i).addr < 4294967296 ∧ (-9223372036854775808 ≤ (F i).weight ∧ (F i).weight ≤ 9223372036854775807)) ∧
        W.cell? (x.add (i * 3 + 0)) = some (.int .i64 (F i).id) ∧ W.cell? (x.add (i * 3 + 1)) = some (.int .u32 ((F i).addr : Int)) ∧ W.cell? (x.add (i * 3 + 2)) = some (.int .i64 (F i).weight) :=
      ⟨fun i => if hi : i < c then (hone i hi).choose else ⟨0, 0, 0⟩, fun i hi => by simp only [dif_pos hi]; exact (hone i hi).choose_spec⟩
    obtain ⟨F, hF⟩ := hch
    refine ⟨(List.range n).map F, ?_, hl, hreach, ⟨by rw [bks_length]; simp, fun hn => ⟨x, rfl, ?_, bks_all ?_⟩⟩, fun h => by cases h⟩
    · intro b hb
      obtain ⟨i, hi, rfl⟩ := List.mem_map.1 hb
      exact (hF i (by have := List.mem_range.1 hi; omega)).1
    · have := (hF 0 (by omega)).2.1
      rw [Nat.zero_mul, Addr.add_zero'] at this
      exact World.block_lt_of_cell? W x this
    · intro i hi
      have hi' : i < n := by simpa using hi
      simp only [List.getElem_map, List.getElem_range]
      exact (hF i (by omega)).2
end Go.Proofs.Ytaamflhleommlaa
