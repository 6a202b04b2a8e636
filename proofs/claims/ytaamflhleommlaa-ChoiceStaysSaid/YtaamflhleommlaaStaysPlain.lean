/- ChoiceStays: the plain law: what Pick answers, among those that are left. -/
import Derived.Test.YtaamflhleommlaaAwake19
import Derived.Test.YtaamflhleommlaaRefWoW
import Derived.Test.YtaamflhleommlaaFair
namespace Go.Proofs.Ytaamflhleommlaa
set_option linter.unusedVariables false
set_option linter.unusedSimpArgs false
open Go.RowKit

theorem left_keep (l : List Be) (out : List Int) : keepBe (fun b => decide (b.id ∈ out)) l = leftBe l out := by
  unfold keepBe leftBe
  congr 1
  funext b
  by_cases h : b.id ∈ out <;> simp [h]

/-- ids grow -/
theorem ids_lt {l : List Be} {n : Nat} (h : MayBs n l) (hl : l.length = n) : l.Pairwise (fun a b => a.id < b.id) := by
  rw [List.pairwise_iff_getElem]
  intro i j hi hj hij
  induction j with
  | zero => omega
  | succ j ih =>
    obtain ⟨_, _, _, _, _, h5⟩ := h.2 (j + 1) (by omega)
    have hlt := h5 (by omega)
    simp only [Nat.add_sub_cancel] at hlt
    by_cases e : i = j
    · subst e; exact hlt
    · exact Int.lt_trans (ih (by omega) (by omega)) hlt
theorem find_of_mem {l : List Be} (h : l.Pairwise (fun a b => a.id < b.id)) {b : Be} (hb : b ∈ l) : findBe l b.id = (b, true) := by
  obtain ⟨k, hk, rfl⟩ := List.getElem_of_mem hb
  refine findBe_yes hk rfl fun j hj hjk => ?_
  have := List.pairwise_iff_getElem.1 h j k hj hk hjk
  omega
theorem okB_mem {l : List Be} {n : Nat} (h : MayBs n l) (hl : l.length = n) {b : Be} (hb : b ∈ l) : okB b = true := by
  obtain ⟨k, hk, rfl⟩ := List.getElem_of_mem hb
  obtain ⟨_, h1, h2, h3, h4, _⟩ := h.2 k (by omega)
  exact okB_iff.2 ⟨h1, h2, h3, h4⟩
theorem mayB_of {l : List Be} (h0 : 0 < l.length) (h16 : l.length ≤ 16) (hp : l.Pairwise (fun a b => a.id < b.id)) (ho : ∀ b ∈ l, okB b = true) : MayB l.length l := by
  refine ⟨h0, h16, fun j hj => ⟨hj, ?_⟩⟩
  obtain ⟨h1, h2, h3, h4⟩ := okB_iff.1 (ho _ (List.getElem_mem hj))
  refine ⟨h1, h2, h3, h4, fun h => ?_⟩
  exact List.pairwise_iff_getElem.1 hp (j - 1) j (by omega) hj (by omega)

theorem pick_left {l : List Be} {n : Nat} {out : List Int} {s : Nat} {k : Tu} (h : MayBs n l) (hl : l.length = n) (hm : mayN s = true) :
    (pickBe l (tableF (leftBe l out) s) s k).2 = (decide (0 < (leftBe l out).length) && mayTu k) ∧
    ((pickBe l (tableF (leftBe l out) s) s k).2 = true → findBe (leftBe l out) (pickBe l (tableF (leftBe l out) s) s k).1.id = ((pickBe l (tableF (leftBe l out) s) s k).1, true)) := by
  have hp := ids_lt h hl
  have hs : 0 < s := by have := (may_bounds hm).1; omega
  have hsub : (leftBe l out).Sublist l := List.filter_sublist
  have hpL := hp.sublist hsub
  have hle : (leftBe l out).length ≤ 16 := Nat.le_trans hsub.length_le (by have := h.1; omega)
  have hoL : ∀ b ∈ leftBe l out, okB b = true := fun b hb => okB_mem h hl (hsub.subset hb)
  unfold pickBe
  cases ht : mayTu k
  · simp
  · rw [if_pos rfl]
    have hj : hashT k % s < s := Nat.mod_lt _ hs
    generalize hashT k % s = j at hj
    by_cases h0 : 0 < (leftBe l out).length
    · have hmB := mayB_of h0 hle hpL hoL
      have hg := good_of hm hmB
      have hlen := tableB_length hg
      have hjl : j < (tableB ((leftBe l out).map (bkOf s)) s).length := by omega
      obtain ⟨bk, hbk, hid⟩ := tableB_full hg _ (List.getElem_mem hjl)
      obtain ⟨b, hb, rfl⟩ := List.mem_map.1 hbk
      have hy : (tableF (leftBe l out) s).getD j 0 = b.id := by
        rw [tableF_yes hmB, List.getD_eq_getElem?_getD, List.getElem?_eq_getElem hjl]
        exact hid
      rw [hy, find_of_mem hp (hsub.subset hb)]
      refine ⟨by simp [h0], fun _ => find_of_mem hpL hb⟩
    · have hnil : leftBe l out = [] := List.eq_nil_of_length_eq_zero (by omega)
      have hy : (tableF (leftBe l out) s).getD j 0 = -1 := by
        rw [hnil, tableF_no mayB_nil, List.getD_eq_getElem?_getD, List.getElem?_eq_getElem (by simpa using hj)]
        simp
      have hno : findBe l (-1) = (⟨0, 0, 0⟩, false) := findBe_no fun i hi => by
        have := (okB_iff.1 (okB_mem h hl (List.getElem_mem hi))).1
        omega
      rw [hy, hno]
      simp [h0]
end Go.Proofs.Ytaamflhleommlaa
