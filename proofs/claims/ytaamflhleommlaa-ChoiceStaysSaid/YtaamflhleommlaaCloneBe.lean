/- Append of backends onto a row of one's own; slices.Clone at backends. -/
import Derived.Test.YtaamflhleommlaaGWeigh
namespace Go.Proofs.Ytaamflhleommlaa
set_option linter.unusedVariables false
set_option linter.unusedSimpArgs false
open Go.RowKit

theorem infoBe : (Try.prog.info? 27).map (fun i => (i.zero, i.size, i.bytes)) = some (some (.agg #[.int .i64 0, .int .u32 0, .int .i64 0]), 3, 24) := by kernel_rfl
theorem bks_one (l : List Be) : ∀ u ∈ bks l, u.oneCell' = true := by
  intro u hu
  unfold bks at hu
  rw [List.mem_flatMap] at hu
  obtain ⟨b, _, hb⟩ := hu
  simp [Be.cells] at hb
  rcases hb with rfl | rfl | rfl <;> rfl

set_option maxHeartbeats 4000000 in
theorem clonebe_any (A : Option Addr) (n c B : Nat) (l : List Be) (w : World) (hr : Reads w B 3 A n (bks l)) (hB : B ≤ w.heap.size) (hn : n * 24 ≤ 140737488355328) (hnil : A = none → c = 0) :
    Calls Try.prog 37 #[.slice A n c] w fun e w' => ∃ A' c', e = .returned (.slice A' n c') ∧ w'.ownsRow w.heap.size 27 3 (.slice A' n c') n (bks l) ∧ Below w.heap.size w w' := by
  rcases A with _ | ad
  · obtain rfl := hnil rfl
    have h0 : n = 0 := by
      rcases Nat.eq_zero_or_pos n with h | h
      · exact h
      · obtain ⟨_, h', _⟩ := hr.2 h
        cases h'
    subst h0
    have hl : l = [] := List.eq_nil_of_length_eq_zero hr.be_length
    subst hl
    go_enter Try.func37, Try.ntmps37
    have heq := fun w : World => Lib.run_eql_slice_nil (P := Try.prog) w 23 27 none 0 0 0 0 Try.underlying23
    go_wp2_with fail
    go_ret
    exact ⟨none, 0, rfl, World.ownsRow_nil _ _ _ _, Below.refl _ _⟩
  · obtain ⟨i0, hi0, hz0, hz1, hz2⟩ := info_parts infoBe
    go_enter Try.func37, Try.ntmps37
    have heq := fun w : World => Lib.run_eql_slice_nil (P := Try.prog) w 23 27 (some ad) n c 0 0 Try.underlying23
    go_wp2_with (at_builtin; refine stop_ ?_)
    refine on_ ?_
    refine wpList_append_want _ rfl (.tmp 5) (.tmp 6) _ rfl w.heap.size 27 i0 _ 3 24 Try.underlying23 hi0 hz0 hz1 hz2 rfl (by omega) (.slice (some ⟨w.heap.size, 0, none⟩) 0 0) 0 [] rfl
      ?hown B (some ad) n c (bks l) rfl (hr.alloc hB _) (bks_one l) (by unfold maxLen; omega) (by omega) (by simp) ?_
    case hown => exact ⟨by simp, .inr ⟨w.heap.size, _, #[], rfl, Nat.le_refl _, Blk.new_ rfl, Nat.le_refl _, by decide, by simp, by simp⟩⟩
    intro v' w1 hown1 hgr _
    obtain ⟨A1, c1, rfl⟩ := own_slice hown1
    rw [List.nil_append, Nat.zero_add] at hown1
    have hb0 := (Below.refl w.heap.size w).alloc (Nat.le_refl _) (.cells #[] 27)
    have hbw1 := hb0.grown hgr (by simp) (fun k hk => by cases hk; exact Nat.le_refl _)
    rw [Nat.zero_add]
    go_wp2_with fail
    go_ret
    exact ⟨A1, c1, rfl, hown1, hbw1⟩
end Go.Proofs.Ytaamflhleommlaa
