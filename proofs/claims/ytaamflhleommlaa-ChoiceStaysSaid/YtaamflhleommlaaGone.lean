/- The walk of goitlaw19's gone, its closure: is a number among those that are out? -/
import Derived.Test.YtaamflhleommlaaFindB
import Derived.Test.YtaamflhleommlaaNext
namespace Go.Proofs.Ytaamflhleommlaa
set_option linter.unusedVariables false
set_option linter.unusedSimpArgs false
open Go.RowKit

theorem ints_at {w : World} {B : Nat} {A : Option Addr} {n : Nat} {l : List Int} (h : Reads w B 1 A n (iv l)) {j : Nat} (hj : j < n) :
    ∃ ad, ∃ hl : j < l.length, A = some ad ∧ w.cell? (ad.add j) = some (.int .i64 l[j]) := by
  obtain ⟨ad, u, e, _, hu, hc⟩ := h.at_ hj
  have hl : j < l.length := by
    have := (List.getElem?_eq_some_iff.1 hu).1
    simpa [iv] using this
  refine ⟨ad, hl, e, ?_⟩
  rw [hc, ← hu]
  simp [iv, hl]

set_option maxHeartbeats 4000000 in
set_option maxRecDepth 100000 in
theorem gone1_any (gb : Nat) (A : Option Addr) (n c B : Nat) (l : List Int) (id : Int) (w : World) (hg : w.cell? ⟨gb, 0, none⟩ = some (.slice A n c)) (hr : Reads w B 1 A n (iv l)) (hB : B ≤ w.heap.size) (hn : n ≤ 140737488355328) :
    Calls Try.prog 39 #[.int .i64 id, .pointer (some ⟨gb, 0, none⟩)] w fun e w' => e = .returned (.bool (decide (id ∈ l))) ∧ Below w.heap.size w w' := by
  have hlen : l.length = n := by have := hr.1; rw [iv_length] at this; omega
  go_enter Try.func39, Try.ntmps39
  go_wp2_with fail
  go_loopw [8] (fun i wr => ∃ k : Nat, k ≤ n ∧ i = .int .i64 (k : Int) ∧ Hid (∀ j (hj : j < l.length), j < k → l[j] ≠ id) ∧ wr = w) (fun i _ => n - (intOf i).toNat)
  case atStart => exact ⟨0, by omega, rfl, (fun j _ h => by omega), rfl⟩
  case round =>
    obtain ⟨k, hk, rfl, hall, rfl⟩ := hrel
    by_cases hkn : k < n
    · obtain ⟨ad, hl, rfl, hc⟩ := ints_at hr hkn
      have HYES : Hid (l[k] = id → decide (id ∈ l) = true) := fun h => decide_eq_true (by rw [← h]; exact List.getElem_mem hl)
      have HNO : Hid (l[k] ≠ id → ∀ j (hj : j < l.length), j < k + 1 → l[j] ≠ id) := by
        intro h j hj hjk
        by_cases e : j = k
        · subst e; exact h
        · exact hall.out j hj (by omega)
      generalize l[k] = x at *
      by_cases hid : x = id
      · have bx : (x == id) = true := by simp [hid]
        have HR := Lib.hid (HYES.out hid)
        clear hid HYES HNO hall
        go_wp2_with fail
        go_ret
        exact ⟨by rw [HR.out]; rfl, Below.refl _ _⟩
      · have bx : (x == id) = false := by simp [hid]
        have HN := Lib.hid (HNO.out hid)
        clear hid HYES HNO hall
        go_wp2_with fail
        go_roundw
        case rel => exact ⟨k + 1, by omega, by go_num, HN, by trivial⟩
        case measure => simp [intOf]; omega
    · have hkk : k = n := by omega
      have HR : Hid (decide (id ∈ l) = false) := decide_eq_false (fun h => by
        obtain ⟨j, hj, e⟩ := List.getElem_of_mem h
        exact hall.out j hj (by omega) e)
      subst hkk
      clear hall hkn hk
      go_wp2_with fail
      go_ret
      exact ⟨by rw [HR.out]; rfl, Below.refl _ _⟩
end Go.Proofs.Ytaamflhleommlaa
