/- The walk of goitlaw19.awake. -/
import Derived.Test.YtaamflhleommlaaChPick
import Derived.Test.YtaamflhleommlaaBeMay
namespace Go.Proofs.Ytaamflhleommlaa
set_option linter.unusedVariables false
set_option linter.unusedSimpArgs false
open Go.RowKit

theorem without_nil (A : Option Addr) (n c B : Nat) (l : List Be) (w : World) (hr : Reads w B 3 A n (bks l)) (hB : B ≤ w.heap.size) (hn : n ≤ 1000000) (hnil : A = none → c = 0) :
    ∀ W, Below B w W → Calls Try.prog 38 #[.slice A n c, .nilFunc] W fun e w' => ∃ A' m c', e = .returned (.slice A' m c') ∧ m = (keepBe (fun _ => false) l).length ∧ m ≤ c' ∧ Reads w' w'.heap.size 3 A' m (bks (keepBe (fun _ => false) l)) ∧ Below W.heap.size W w' := by
  intro W hW
  have hk : keepBe (fun _ => false) l = l := by unfold keepBe; simp
  have hl := hr.be_length
  refine (gwo_nil A n c B l W (hr.below hW) (Nat.le_trans hB hW.size) hn hnil).mono ?_
  rintro e w' ⟨A', c', rfl, h0, h1, h2⟩
  exact ⟨A', n, c', rfl, by rw [hk]; exact hl.symm, h0, by rw [hk]; exact h1, h2⟩

def one5 : List Be := [⟨5, 0, 1⟩]
theorem one5_ok : okB ⟨5, 0, 1⟩ = true := by decide
theorem one5_may : MayBs 1 one5 := ⟨by omega, fun j hj => (may_one one5_ok).2.2 j hj⟩
theorem may8 : mayN 8 = false := by decide +kernel
theorem one5_pick : pickBe one5 (tableF (keepBe (fun _ => false) one5) 7) 7 ⟨0, 0, 6, 0, 0⟩ = (⟨5, 0, 1⟩, true) := by
  have hk : keepBe (fun _ => false) one5 = one5 := by unfold keepBe; simp
  have hm : mayTu ⟨0, 0, 6, 0, 0⟩ = true := by decide
  obtain ⟨h1, h2⟩ := table_one may7 one5_ok
  rw [hk]
  unfold pickBe
  rw [if_pos hm]
  have hj : hashT ⟨0, 0, 6, 0, 0⟩ % 7 < 7 := Nat.mod_lt _ (by omega)
  generalize hashT ⟨0, 0, 6, 0, 0⟩ % 7 = j at hj
  have : (tableF one5 7).getD j 0 = 5 := by
    rw [List.getD_eq_getElem?_getD, List.getElem?_eq_getElem (by show j < (tableF [⟨5, 0, 1⟩] 7).length; omega)]
    exact h2 _ (List.getElem_mem _)
  rw [this]
  rfl

set_option maxHeartbeats 4000000 in
set_option maxRecDepth 100000 in
theorem awake19_any (w : World) : Calls Try.prog 18 #[] w fun e w' => e = .returned (.bool true) ∧ Below w.heap.size w w' := by
  go_enter Try.func18, Try.ntmps18
  go_wp2_with fail
  refine (new_yes 7 (by omega) may7 w).mono ?_
  rintro e w1 ⟨p, rfl, hp, hc1, hb1⟩
  go_wp2_with fail
  have hr2 := reads_news w1 27 (0, 0) #[.int .i64 5, .int .u32 0, .int .i64 1] 1 3 (w1.heap.size + 1) w1.heap.size (by rfl) (by rfl) (by rfl) (bks one5) (by rfl)
  have hc2 := hc1.below ((Below.refl w1.heap.size w1).alloc (Nat.le_refl _) (.cells #[.int .i64 5, .int .u32 0, .int .i64 1] 27))
  have hb2 := hb1.alloc hb1.size (.cells #[.int .i64 5, .int .u32 0, .int .i64 1] 27)
  refine (set_yes p 7 [] _ 0 .nilFunc (fun _ => false) (some ⟨w1.heap.size, 0, none⟩) 1 1 (w1.heap.size + 1) one5 _ hc2 may7 hr2 (by simp) (by unfold one5; intro b hb; simp at hb; subst hb; simp) (by omega) (by intro h; cases h) one5_may (by omega)
    (without_nil _ 1 1 _ one5 _ hr2 (by simp) (by omega) (by intro h; cases h))).mono ?_
  rintro e w3 ⟨rfl, hc3, hB3⟩
  have hb3 := hb2.trans (hB3.below (B := w.heap.size) hp hb2.size)
  have HP := Lib.hid one5_pick
  have CP := Lib.hid (chpick_yes p 7 one5 _ _ ⟨0, 0, 6, 0, 0⟩ ⟨by decide, by decide, by decide, by decide, by decide⟩ w3 hc3 may7)
  rw [HP.out] at CP
  dsimp only [Be.cells] at CP
  clear hc3 hb2 hB3 hc2 hr2 hb1 hc1
  go_wp2_with fail
  refine CP.out.mono ?_
  rintro e w4 ⟨rfl, hb4⟩
  have hB4 := hb3.trans (hb4.mono hb3.size)
  clear hb3 hb4 CP
  go_wp2_with fail
  have hB5 := hB4.alloc hB4.size (.cells #[.int .i64 5, .int .u32 0, .int .i64 1] 27)
  refine (new_no 8 (by omega) may8 _).mono ?_
  rintro e w' ⟨rfl, rfl⟩
  go_wp2_with fail
  go_ret
  exact ⟨rfl, hB5⟩
end Go.Proofs.Ytaamflhleommlaa
