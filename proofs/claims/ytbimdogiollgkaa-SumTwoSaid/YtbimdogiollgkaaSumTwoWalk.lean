/- The walk of SumTwo. -/
import Derived.Test.YtbimdogiollgkaaSumAwake
import Derived.Test.YtbimdogiollgkaaOpen
namespace Go.Proofs.Ytbimdogiollgkaa.sumTwo
set_option linter.unusedVariables false
set_option linter.unusedSimpArgs false
open Go.RowKit

theorem net_two (x : Nat) (hx : x < 65536) : netN [x / 256, x % 256] = 65535 - x := by
  unfold netN
  rw [show wsum [x / 256, x % 256] = x from by simp [wsum]; omega, fo_small (by omega)]
theorem net_four (x y : Nat) (hx : x < 65536) (hy : y < 65536) : netN [x / 256, x % 256, y / 256, y % 256] = 65535 - fo (x + y) := by
  unfold netN
  rw [show wsum [x / 256, x % 256, y / 256, y % 256] = x + y from by simp [wsum]; omega]
theorem info5 : (Try.prog.info? 5).map (fun i => (i.zero, i.size, i.bytes)) = some (some (.int .u8 0), 1, 1) := by kernel_rfl

set_option maxRecDepth 100000 in
theorem lawWalk (x y : Nat) (w : World) (hx : x < 65536) (hy : y < 65536) :
    Calls Try.prog 7 #[.int .u16 x, .int .u16 y] w fun e w' => e = .returned (.bool true) ∧ Below w.heap.size w w' := by
  obtain ⟨i0, hi, hz0, hz1, hz2⟩ := info_parts info5
  have hsg : IntKind.u16.signed = false := rfl
  have h2 := net_two x hx
  have hf : foldN x = 65535 - x := by unfold foldN; rw [fo_small (by omega)]
  have n1 := not_u16 x (by omega)
  obtain ⟨c, hc⟩ : ∃ c, c = 65535 - x := ⟨_, rfl⟩
  rw [← hc] at n1 h2 hf
  have H2 := Lib.hid h2
  have HF := Lib.hid hf
  have h4 := net_four x y hx hy
  obtain ⟨s, hs, hs'⟩ : ∃ s : Nat, s = fo (x + y) ∧ ((65535 < x + y ∧ s + 65535 = x + y) ∨ (x + y ≤ 65535 ∧ s = x + y)) := by
    refine ⟨_, rfl, ?_⟩
    unfold fo
    split <;> omega
  rw [← hs] at h4
  have n2 := not_u16 s (by have := fo_le (x + y); omega)
  have hsl : s ≤ 65535 := by have := fo_le (x + y); omega
  obtain ⟨d, hd⟩ : ∃ d, d = 65535 - s := ⟨_, rfl⟩
  rw [← hd] at n2 h4
  have H4 := Lib.hid h4
  clear hc hd hs h2 h4 hf
  have hs3 : (65535 < x + y ∧ Hid ((x : Int) + (y : Int) - 65535 = (s : Int))) ∨ (x + y ≤ 65535 ∧ Hid ((x : Int) + (y : Int) = (s : Int))) := by
    rcases hs' with ⟨a, b⟩ | ⟨a, b⟩
    · exact .inl ⟨a, by show _ = _; omega⟩
    · exact .inr ⟨a, by show _ = _; omega⟩
  clear hs'
  rcases hs3 with ⟨hgt, HE⟩ | ⟨hgt, HE⟩
  all_goals
    go_enter Try.func7, Try.ntmps7
    go_wp2_with fail
    rw [HE.out]
    refine (net_any _ (w.heap.size + 1) _ _ _ [x / 256, x % 256] (reads_new _ _ _ _ 2 _ _ (by rfl) (by rfl) (by rfl) _ (by simp [bv])) (by omega) (by intro z hz; simp at hz; omega)).mono ?_
    rintro e w' ⟨rfl, rfl⟩
    rw [H2.out]
    go_wp2_with (at_builtin; refine stop_ ?_)
    refine on_ ?_
    refine wpList_append_b rfl (.tmp 28) (.tmp 34) _ rfl 5 info5 Try.underlying22 w.heap.size (.slice (some ⟨w.heap.size, 0, none⟩) 2 2) _ [x / 256, x % 256] rfl
      (lit_own ((Blk.new _ _ _).alloc _) (by omega) (by decide) rfl (by simp [bv])) (w.heap.size + 2) _ _ _ [y / 256, y % 256] rfl (reads_new _ _ _ _ 2 _ _ (by rfl) (by simp) (by simp) _ (by simp [bv])) 4 rfl (by decide) (by simp; omega) ?_
    intro A1 c1 w1 hown hbw _ _
    have hr1 := Reads.of_own hown
    have hb1 : Below w.heap.size w w1 := (((Below.refl _ _).alloc (Nat.le_refl _) _).alloc (by simp) _).trans hbw
    have hs1 := hb1.size
    go_wp2_with fail
    refine (net_any _ _ _ _ _ _ hr1 (by omega) (by intro z hz; simp at hz; omega)).mono ?_
    rintro e w' ⟨rfl, rfl⟩
    have H4' : Hid (netN ([x / 256, x % 256] ++ [y / 256, y % 256]) = d) := H4.out
    rw [H4'.out]
    clear hown hbw hr1
    go_wp2_with fail
    refine (fold_any x (by omega) _).mono ?_
    rintro e w' ⟨rfl, rfl⟩
    rw [HF.out]
    go_wp2_with fail
    refine (awake_any _).mono ?_
    rintro e w' ⟨rfl, hb2⟩
    go_wp2_with fail
    go_ret
    exact ⟨rfl, hb1.trans (hb2.mono hs1)⟩
end Go.Proofs.Ytbimdogiollgkaa.sumTwo
