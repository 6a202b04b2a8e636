/- The rows of all backends in memory. -/
import Derived.Test.YtaamflhleommlaaTablePlain
import Derived.Test.YtaamflhleommlaaNext
namespace Go.Proofs.Ytaamflhleommlaa
set_option linter.unusedVariables false
set_option linter.unusedSimpArgs false
open Go.RowKit

/-- a backend's turn as a function value -/
def fv (p : Nat) : Value := .func (.func 31) #[.pointer (some ⟨p, 0, none⟩)] #[]
def fvs (ps T : List Nat) : List Value := T.map fun b => fv (ps[b]?.getD 0)
theorem fvs_length (ps T : List Nat) : (fvs ps T).length = T.length := by simp [fvs]
theorem fvs_one (ps T : List Nat) : ∀ u ∈ fvs ps T, u.oneCell' = true := by
  intro u hu
  obtain ⟨_, _, rfl⟩ := List.mem_map.1 hu
  rfl

theorem fvs_append (ps : List Nat) (p : Nat) (T : List Nat) (h : ∀ b ∈ T, b < ps.length) : fvs (ps ++ [p]) T = fvs ps T := by
  unfold fvs
  apply List.map_congr_left
  intro b hb
  rw [List.getElem?_append_left (h b hb)]
theorem fvs_snoc (ps : List Nat) (p k j : Nat) (T : List Nat) (h : ps.length = k) : fvs (ps ++ [p]) (T ++ List.replicate (j + 1) k) = fvs (ps ++ [p]) (T ++ List.replicate j k) ++ [fv p] := by
  rw [List.replicate_succ', ← List.append_assoc]
  simp [fvs, ← h]

theorem own_own_ne {w : World} {b1 b2 s1 s2 n1 n2 : Nat} {e1 e2 : TypeId} {v1 v2 : Value} {x1 x2 : List Value} (h : w.ownsRow b1 e1 s1 v1 n1 x1) (h' : w.ownsRow b2 e2 s2 v2 n2 x2) (hne : e1 ≠ e2) : v1.ownBlock = none ∨ v1.ownBlock ≠ v2.ownBlock := by
  rcases h.2 with ⟨rfl, _⟩ | ⟨g, cap, cur, rfl, _, hh, _⟩
  · exact .inl rfl
  · right
    have := own_blk_ne h' hh (fun e => hne e.symm)
    simpa [Value.ownBlock] using fun e => this e.symm

structure RowsIn (w : World) (base : Nat) (bs : List Bk) (ps ats : List Nat) : Prop where
  plen : ps.length = bs.length
  alen : ats.length = bs.length
  lo : ∀ p ∈ ps, base ≤ p ∧ p < w.heap.size
  inc : ps.Pairwise (· < ·)
  blk : ∀ (j : Nat) (b : Bk) (p a : Nat), bs[j]? = some b → ps[j]? = some p → ats[j]? = some a → Blk w p 67 #[.int .i64 b.id, .int .i64 (a : Int), .int .i64 (b.skip : Int)]

section
variable {w w' : World} {base : Nat} {bs : List Bk} {ps ats : List Nat}
theorem RowsIn.at_ (h : RowsIn w base bs ps ats) {p : Nat} (hp : p ∈ ps) : ∃ cs, Blk w p 67 cs := by
  obtain ⟨j, hj, rfl⟩ := List.getElem_of_mem hp
  have h1 : j < bs.length := by rw [← h.plen]; exact hj
  have h2 : j < ats.length := by rw [h.alen]; exact h1
  exact ⟨_, h.blk j _ _ _ (List.getElem?_eq_getElem h1) (List.getElem?_eq_getElem hj) (List.getElem?_eq_getElem h2)⟩
theorem RowsIn.keep (h : RowsIn w base bs ps ats) (hk : ∀ p ∈ ps, w'.heap[p]? = w.heap[p]?) (hs : w.heap.size ≤ w'.heap.size) : RowsIn w' base bs ps ats :=
  ⟨h.plen, h.alen, fun p hp => ⟨(h.lo p hp).1, Nat.lt_of_lt_of_le (h.lo p hp).2 hs⟩, h.inc, fun j b p a hb hp ha => (hk p (List.mem_of_getElem? hp)).trans (h.blk j b p a hb hp ha)⟩
theorem RowsIn.below (h : RowsIn w base bs ps ats) (hb : Below w.heap.size w w') : RowsIn w' base bs ps ats := h.keep (fun p hp => hb.block p (h.lo p hp).2) hb.size
theorem RowsIn.grown (h : RowsIn w base bs ps ats) {b n s : Nat} {e : TypeId} {v : Value} {xs : List Value} (ho : w.ownsRow b e s v n xs) (hne : e ≠ 67) (hg : w.grownBy w' v.ownBlock) : RowsIn w' base bs ps ats :=
  h.keep (fun p hp => by
    obtain ⟨cs, hc⟩ := h.at_ hp
    exact hg.block p (h.lo p hp).2 (fun e => own_blk_ne ho hc hne e.symm)) hg.size
theorem RowsIn.snoc (h : RowsIn w base bs ps ats) (b : Bk) (p a : Nat) (hp : Blk w p 67 #[.int .i64 b.id, .int .i64 (a : Int), .int .i64 (b.skip : Int)]) (hb : base ≤ p) (hlt : ∀ q ∈ ps, q < p) :
    RowsIn w base (bs ++ [b]) (ps ++ [p]) (ats ++ [a]) := by
  refine ⟨by simp [h.plen], by simp [h.alen], ?_, ?_, ?_⟩
  · intro q hq
    rcases List.mem_append.1 hq with hq | hq
    · exact h.lo q hq
    · rw [List.mem_singleton.1 hq]; exact ⟨hb, hp.lt⟩
  · rw [List.pairwise_append]
    refine ⟨h.inc, by simp, ?_⟩
    intro q hq r hr
    rw [List.mem_singleton.1 hr]
    exact hlt q hq
  · intro j b' p' a' hb' hp' ha'
    have hl1 := h.plen
    have hl2 := h.alen
    by_cases hj : j < bs.length
    · rw [List.getElem?_append_left hj] at hb'
      rw [List.getElem?_append_left (by omega)] at hp' ha'
      exact h.blk j b' p' a' hb' hp' ha'
    · have hj' : j = bs.length := by
        have := (List.getElem?_eq_some_iff.1 hb').1
        simp at this
        omega
      rw [List.getElem?_append_right (by omega)] at hb' hp' ha'
      rw [hj', Nat.sub_self] at hb'
      rw [show j - ps.length = 0 from by omega] at hp'
      rw [show j - ats.length = 0 from by omega] at ha'
      simp at hb' hp' ha'
      subst hb' hp' ha'
      exact hp
/-- one row, and another block that is none of the rows, have turned -/
theorem RowsIn.two (h : RowsIn w base bs ps ats) {j p g v : Nat} {b : Bk} (hb : bs[j]? = some b) (hp : ps[j]? = some p) (ht : Two w w' p g) (hg : g ∉ ps)
    (hn : Blk w' p 67 #[.int .i64 b.id, .int .i64 (v : Int), .int .i64 (b.skip : Int)]) : RowsIn w' base bs ps (ats.set j v) := by
  refine ⟨h.plen, by simpa using h.alen, fun q hq => ⟨(h.lo q hq).1, by rw [ht.size]; exact (h.lo q hq).2⟩, h.inc, ?_⟩
  intro i b' p' a' hb' hp' ha'
  by_cases hij : i = j
  · subst hij
    rw [hb] at hb'
    rw [hp] at hp'
    cases hb'
    cases hp'
    have hi : i < ats.length := by
      have := (List.getElem?_eq_some_iff.1 ha').1
      simpa using this
    rw [List.getElem?_set_self hi] at ha'
    cases ha'
    exact hn
  · rw [List.getElem?_set_ne (by omega)] at ha'
    have hb0 := h.blk i b' p' a' hb' hp' ha'
    have hne : p' ≠ p := by
      have hi := (List.getElem?_eq_some_iff.1 hp')
      have hj := (List.getElem?_eq_some_iff.1 hp)
      obtain ⟨hi1, rfl⟩ := hi
      obtain ⟨hj1, rfl⟩ := hj
      have hpw := List.pairwise_iff_getElem.1 h.inc
      rcases Nat.lt_or_ge i j with hlt | hge
      · have := hpw i j hi1 hj1 hlt; omega
      · have := hpw j i hj1 hi1 (by omega); omega
    exact ht.blk hb0 hne (fun e => hg (by rw [← e]; exact List.mem_of_getElem? hp'))
end
end Go.Proofs.Ytaamflhleommlaa
