/- The walk of 'awake' of goitlaw1. -/
import Derived.Test.YtbimdogiollgkaaSumCrc
import Derived.Lib.SlBytesConst
namespace Go.Proofs.Ytbimdogiollgkaa
set_option linter.unusedVariables false
set_option linter.unusedSimpArgs false
open Go.RowKit

theorem awake_any (w : World) : Calls Try.prog 13 #[] w fun e w' => e = .returned (.bool true) ∧ Below w.heap.size w w' := by
  have kc := fun (w : World) (C : Array Value) (n c : Nat) => Lib.run_convert_bytes_const (P := Try.prog) w 22 5 C n c Try.underlying22 Try.underlying5
  have H1 := Lib.hid crc_known
  have H2 := Lib.hid net_known
  go_enter Try.func13, Try.ntmps13
  go_wp2_with fail
  refine (crc_any _ (w.heap.size + 1) _ _ _ [49, 50, 51, 52, 53, 54, 55, 56, 57] (reads_new _ _ _ _ 9 _ _ (by rfl) (by rfl) (by rfl) _ (by rfl)) (by omega) (by unfold AllB; decide)).mono ?_
  rintro e w' ⟨rfl, rfl⟩
  rw [H1.out]
  go_wp2_with fail
  refine (net_any _ (w.heap.size + 2) _ _ _ [0, 1] (reads_new _ _ _ _ 2 _ _ (by rfl) (by simp) (by simp) _ (by rfl)) (by omega) (by unfold AllB; decide)).mono ?_
  rintro e w' ⟨rfl, rfl⟩
  rw [H2.out]
  go_wp2_with fail
  go_ret
  exact ⟨rfl, ((Below.refl _ _).alloc (by simp) _).alloc (by simp) _⟩
end Go.Proofs.Ytbimdogiollgkaa
