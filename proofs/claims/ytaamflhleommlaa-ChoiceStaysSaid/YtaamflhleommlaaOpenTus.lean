/- Opening a law's argument of type []api.Tuple. -/
import Derived.Test.YtaamflhleommlaaOpenBes
import Derived.Test.YtaamflhleommlaaOpenTuC
namespace Go.Proofs.Ytaamflhleommlaa
set_option linter.unusedVariables false
set_option linter.unusedSimpArgs false
open Go.ChangeShapes Go.WideShapes Go.ChangeAt Go.RowKit Go.Deep

def Tu.cells (k : Tu) : List Value := [.int .u32 (k.src : Int), .int .u32 (k.dst : Int), .int .i64 k.proto, .int .i64 k.sport, .int .i64 k.dport]
def tus (l : List Tu) : List Value := l.flatMap Tu.cells
theorem tus_length (l : List Tu) : (tus l).length = l.length * 5 := by
  induction l with
  | nil => rfl
  | cons b r ih => simp [tus, Tu.cells] at *; omega
theorem tus_get : ∀ (l : List Tu) (j : Nat) (h : j < l.length), (tus l)[j * 5]? = some (.int .u32 (l[j].src : Int)) ∧ (tus l)[j * 5 + 1]? = some (.int .u32 (l[j].dst : Int)) ∧ (tus l)[j * 5 + 2]? = some (.int .i64 l[j].proto) ∧ (tus l)[j * 5 + 3]? = some (.int .i64 l[j].sport) ∧ (tus l)[j * 5 + 4]? = some (.int .i64 l[j].dport)
  | [], _, h => by simp at h
  | b :: r, 0, _ => ⟨rfl, rfl, rfl, rfl, rfl⟩
  | b :: r, j + 1, h => by
    have ih := tus_get r j (by simpa using h)
    have e : ∀ k, (tus (b :: r))[(j + 1) * 5 + k]? = (tus r)[j * 5 + k]? := by
      intro k
      rw [show (j + 1) * 5 + k = j * 5 + k + 1 + 1 + 1 + 1 + 1 from by omega]
      rfl
    have e0 := e 0
    simp only [Nat.add_zero] at e0
    rw [e0, e 1, e 2, e 3, e 4]
    exact ih
theorem Reads.tu_length {w : World} {B : Nat} {A : Option Addr} {n : Nat} {l : List Tu} (h : Reads w B 5 A n (tus l)) : l.length = n := by have := h.1; rw [tus_length] at this; omega
theorem Reads.tu {w : World} {B : Nat} {A : Option Addr} {n : Nat} {l : List Tu} (h : Reads w B 5 A n (tus l)) {j : Nat} (hj : j < n) :
    ∃ (b off : Nat) (hl : j < l.length), A = some ⟨b, off, none⟩ ∧ w.cell? ⟨b, off + j * 5, none⟩ = some (.int .u32 (l[j].src : Int)) ∧ w.cell? ⟨b, off + j * 5 + 1, none⟩ = some (.int .u32 (l[j].dst : Int)) ∧ w.cell? ⟨b, off + j * 5 + 2, none⟩ = some (.int .i64 l[j].proto) ∧ w.cell? ⟨b, off + j * 5 + 3, none⟩ = some (.int .i64 l[j].sport) ∧ w.cell? ⟨b, off + j * 5 + 4, none⟩ = some (.int .i64 l[j].dport) := by
  obtain ⟨b, off, ha, _, hc⟩ := h.plain (by omega) (by omega)
  have hl : j < l.length := by have := h.tu_length; omega
  obtain ⟨h0, h1, h2, h3, h4⟩ := tus_get l j hl
  exact ⟨b, off, hl, ha, hc _ _ h0, hc _ _ h1, hc _ _ h2, hc _ _ h3, hc _ _ h4⟩

structure TusIn (w : World) (a : Option Addr) (n c : Nat) (l : List Tu) : Prop where
  ok : ∀ k ∈ l, TuOk k
  le : n ≤ c
  reach : c * 32 ≤ 140737488351232
  reads : Reads w w.heap.size 5 a n (tus l)

theorem tus_all {l : List Tu} {w : World} {a : Addr} (h : ∀ i (hi : i < l.length), w.cell? (a.add (i * 5 + 0)) = some (.int .u32 (l[i].src : Int)) ∧ w.cell? (a.add (i * 5 + 1)) = some (.int .u32 (l[i].dst : Int)) ∧ w.cell? (a.add (i * 5 + 2)) = some (.int .i64 l[i].proto) ∧ w.cell? (a.add (i * 5 + 3)) = some (.int .i64 l[i].sport) ∧ w.cell? (a.add (i * 5 + 4)) = some (.int .i64 l[i].dport)) :
    ∀ j u, (tus l)[j]? = some u → w.cell? (a.add j) = some u := by
  intro j u hu
  have hj : j < l.length * 5 := by
    have := (List.getElem?_eq_some_iff.1 hu).1
    rwa [tus_length] at this
  have hq : j / 5 < l.length := by omega
  obtain ⟨h0, h1, h2, h3, h4⟩ := h _ hq
  obtain ⟨g0, g1, g2, g3, g4⟩ := tus_get l _ hq
  have : j = j / 5 * 5 + 0 ∨ j = j / 5 * 5 + 1 ∨ j = j / 5 * 5 + 2 ∨ j = j / 5 * 5 + 3 ∨ j = j / 5 * 5 + 4 := by omega
  rcases this with e | e | e | e | e
  · rw [e] at hu ⊢
    rw [Nat.add_zero, g0] at hu
    rw [h0]; exact hu
  · rw [e] at hu ⊢
    rw [g1] at hu
    rw [h1]; exact hu
  · rw [e] at hu ⊢
    rw [g2] at hu
    rw [h2]; exact hu
  · rw [e] at hu ⊢
    rw [g3] at hu
    rw [h3]; exact hu
  · rw [e] at hu ⊢
    rw [g4] at hu
    rw [h4]; exact hu

theorem open_tus {H : Type} {enc : TypeId × Value → H} {W : World} {d : DataW H} {ps : List MemPlace} {a : Option Addr} {n c j : Nat} {ts : List TypeId} {ds : List (DataW H)}
    (hz : (DataW.weightsEach Try.prog ts ds).all (· ≤ reachBytes) = true) (ht : ts[j]? = some 45) (hd : ds[j]? = some d)
    (h : DataW.Trod enc Try.prog W 0 (fun _ => true) true 45 (.slice a n c) d ps) : ∃ l : List Tu, TusIn W a n c l := by
  have U := Try.underlying45
  obtain ⟨fuel, hf⟩ := h
  rcases open_slice_fields U Try.underlying54 (by kernel_rfl) (by kernel_rfl) hf with ⟨hcs, _⟩ | ⟨x, l, c', m, D, Pl, hcs, _, hl, hm, hml, hx, hcell⟩
  · simp [Value.cells] at hcs
    obtain ⟨rfl, rfl, rfl⟩ := hcs
    exact ⟨[], (by intro x hx; cases hx), Nat.le_refl _, by decide, Reads.none_⟩
  · simp [Value.cells] at hcs
    obtain ⟨rfl, rfl, rfl⟩ := hcs
    simp only [if_true] at hml
    have hml2 := hml.symm
    subst hml2
    have hreach : c * 32 ≤ reachBytes := by
      simp only [Prod.mk.injEq] at hx
      obtain ⟨rfl, _⟩ := hx
      have := sized_slice hz ht hd U
      rw [show Try.prog.bytesOf 54 = 32 from by kernel_rfl] at this
      simp at this
      have : n + (c - n) = c := by omega
      rename_i h2
      rw [this] at h2
      omega
    have hone : ∀ i, i < c → ∃ k : Tu, TuOk k ∧
        W.cell? (x.add (i * 5 + 0)) = some (.int .u32 (k.src : Int)) ∧ W.cell? (x.add (i * 5 + 1)) = some (.int .u32 (k.dst : Int)) ∧ W.cell? (x.add (i * 5 + 2)) = some (.int .i64 k.proto) ∧ W.cell? (x.add (i * 5 + 3)) = some (.int .i64 k.sport) ∧ W.cell? (x.add (i * 5 + 4)) = some (.int .i64 k.dport) := by
      intro i hi
      obtain ⟨ys, n', _, _, _, hg⟩ := hcell i hi
      obtain ⟨v0, y0, h0, _, t0⟩ := hg 0 _ rfl
      obtain ⟨v1, y1, h1, _, t1⟩ := hg 1 _ rfl
      obtain ⟨v2, y2, h2, _, t2⟩ := hg 2 _ rfl
      obtain ⟨v3, y3, h3, _, t3⟩ := hg 3 _ rfl
      obtain ⟨v4, y4, h4, _, t4⟩ := hg 4 _ rfl
      obtain ⟨z0, e0, _, w0⟩ := DataW.trod_int Try.underlying25 t0
      obtain ⟨z1, e1, _, w1⟩ := DataW.trod_int Try.underlying25 t1
      obtain ⟨z2, e2, _, w2⟩ := DataW.trod_int Try.underlying3 t2
      obtain ⟨z3, e3, _, w3⟩ := DataW.trod_int Try.underlying3 t3
      obtain ⟨z4, e4, _, w4⟩ := DataW.trod_int Try.underlying3 t4
      simp only [List.cons.injEq, and_true] at e0 e1 e2 e3 e4
      subst e0 e1 e2 e3 e4
      obtain ⟨q0, rfl, u0⟩ := nat_u32 w0
      obtain ⟨q1, rfl, u1⟩ := nat_u32 w1
      exact ⟨⟨q0, q1, z2, z3, z4⟩, ⟨u0, u1, wf_i64 w2, wf_i64 w3, wf_i64 w4⟩, h0, h1, h2, h3, h4⟩
    have hch : ∃ F : Nat → Tu, ∀ i, i < c → TuOk (F i) ∧
        W.cell? (x.add (i * 5 + 0)) = some (.int .u32 ((F i).src : Int)) ∧ W.cell? (x.add (i * 5 + 1)) = some (.int .u32 ((F i).dst : Int)) ∧ W.cell? (x.add (i * 5 + 2)) = some (.int .i64 (F i).proto) ∧ W.cell? (x.add (i * 5 + 3)) = some (.int .i64 (F i).sport) ∧ W.cell? (x.add (i * 5 + 4)) = some (.int .i64 (F i).dport) :=
      ⟨fun i => if hi : i < c then (hone i hi).choose else ⟨0, 0, 0, 0, 0⟩, fun i hi => by simp only [dif_pos hi]; exact (hone i hi).choose_spec⟩
    obtain ⟨F, hF⟩ := hch
    refine ⟨(List.range n).map F, ?_, hl, hreach, ⟨by rw [tus_length]; simp, fun hn => ⟨x, rfl, ?_, tus_all ?_⟩⟩⟩
    · intro b hb
      obtain ⟨i, hi, rfl⟩ := List.mem_map.1 hb
      exact (hF i (by have := List.mem_range.1 hi; omega)).1
    · have := (hF 0 (by omega)).2.1
      rw [Nat.zero_mul, Addr.add_zero'] at this
      exact World.block_lt_of_cell? W x this
    · intro i hi
      have hi' : i < n := by simpa using hi
      simp only [List.getElem_map, List.getElem_range]
      exact (hF i (by omega)).2
end Go.Proofs.Ytaamflhleommlaa
