/- The walk of gens.weighed. -/
import Derived.Test.YtaamflhleommlaaWo1
namespace Go.Proofs.Ytaamflhleommlaa
set_option linter.unusedVariables false
set_option linter.unusedSimpArgs false
open Go.RowKit

theorem weighed_any (x : Int) (w : World) :
    Calls Try.prog 46 #[.int .i64 x] w fun e w' => e = .returned (.bool (decide (1 ≤ x ∧ x ≤ 10))) ∧ Below w.heap.size w w' := by
  obtain ⟨r, hr⟩ : ∃ r, r = decide (1 ≤ x ∧ x ≤ 10) := ⟨_, rfl⟩
  rw [← hr]
  by_cases h1 : 1 ≤ x
  · by_cases h2 : x ≤ 10
    · have HR : Hid (r = true) := hr.trans (decide_eq_true ⟨h1, h2⟩)
      clear hr
      go_enter Try.func46, Try.ntmps46
      go_wp2_with fail
      go_ret
      exact ⟨by rw [HR.out]; rfl, Below.refl _ _⟩
    · have HR : Hid (r = false) := hr.trans (decide_eq_false (fun h => h2 h.2))
      clear hr
      go_enter Try.func46, Try.ntmps46
      go_wp2_with fail
      go_ret
      exact ⟨by rw [HR.out]; rfl, Below.refl _ _⟩
  · have HR : Hid (r = false) := hr.trans (decide_eq_false (fun h => h1 h.1))
    clear hr
    go_enter Try.func46, Try.ntmps46
    go_wp2_with fail
    go_ret
    exact ⟨by rw [HR.out]; rfl, Below.refl _ _⟩
end Go.Proofs.Ytaamflhleommlaa
