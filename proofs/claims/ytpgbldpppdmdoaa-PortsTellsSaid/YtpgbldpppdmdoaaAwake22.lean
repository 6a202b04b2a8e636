/- goitlaw22's awake is true (wip/genawake22.py). -/
import Derived.Test.YtpgbldpppdmdoaaUnwrap
import Derived.Test.YtpgbldpppdmdoaaEncapLaws
import Derived.Test.YtpgbldpppdmdoaaAwake21
namespace Go.Proofs.Ytpgbldpppdmdoaa
set_option linter.unusedVariables false
set_option linter.unusedSimpArgs false
open Go.RowKit

theorem WrapRet.yes {l : List Nat} {s d : Nat} {m : Int} {w w' : World} {e : Ending} (h : WrapRet l s d m w e w') (h0 : whyW l m = 0) :
    ∃ A c, e = .returned (.tuple #[.slice A (20 + lenP l) c, .int .i64 0]) ∧ w'.ownsRow w.heap.size 5 1 (.slice A (20 + lenP l) c) (20 + lenP l) (bv (wrapB l s d)) := by
  rcases h with ⟨_, h⟩ | ⟨h, _⟩
  · exact h
  · exact absurd h0 h
theorem WrapRet.no {l : List Nat} {s d : Nat} {m : Int} {w w' : World} {e : Ending} (h : WrapRet l s d m w e w') (h0 : whyW l m ≠ 0) : e = .returned (.tuple #[.slice none 0 0, .int .i64 (whyW l m : Nat)]) := by
  rcases h with ⟨h, _⟩ | ⟨_, h⟩
  · exact absurd h h0
  · exact h
theorem UnwrapRet.yes {l : List Nat} {w w' : World} {e : Ending} (h : UnwrapRet l w e w') (h0 : whyU l = 0) :
    ∃ A c, e = .returned (.tuple #[.slice A (lenP (bodyP l)) c, .int .u32 (four' l 12 : Nat), .int .u32 (four' l 16 : Nat), .int .i64 0]) ∧ lenP (bodyP l) ≤ c ∧ Reads w' w'.heap.size 1 A (lenP (bodyP l)) (bv (innerU l)) := by
  rcases h with ⟨_, h⟩ | ⟨h, _⟩
  · exact h
  · exact absurd h0 h
theorem whyW_yes {p : List Nat} {mtu : Int} (h : whyP p = 0) (h8 : 2 ≤ at' p 8) (h1 : ((lenP p : Nat) : Int) + 20 ≤ mtu) (h2 : lenP p + 20 ≤ 2000) : whyW p mtu = 0 := by
  unfold whyW
  rw [if_neg (by omega), if_neg (by omega), if_neg (by omega)]
theorem whyW_ttl {p : List Nat} {mtu : Int} (h : whyP p = 0) (h8 : at' p 8 ≤ 1) : whyW p mtu = 7 := by
  unfold whyW
  rw [if_neg (by omega), if_pos h8]
theorem whyW_mtu {p : List Nat} {mtu : Int} (h : whyP p = 0) (h8 : 2 ≤ at' p 8) (h1 : ((lenP p : Nat) : Int) + 20 > mtu ∨ lenP p + 20 > 2000) : whyW p mtu = 11 := by
  unfold whyW
  rw [if_neg (by omega), if_neg (by omega), if_pos (by omega)]

def kB : Tu := ⟨1, 2, 17, 3, 4⟩
theorem kB_ok : TuOk kB := ⟨by decide, by decide, by decide, by decide, by decide⟩

set_option maxHeartbeats 4000000 in
set_option maxRecDepth 100000 in
theorem awake22_any (w : World) : Calls Try.prog 29 #[] w fun e w' => e = .returned (.bool true) ∧ Below w.heap.size w w' := by
  have p1 := madeB_why kB 9 0 [] (by decide)
  have p2 := madeB_why kB 1 0 [] (by decide)
  have l1 : (madeB kB 9 0 []).length = 28 := by rw [madeB_length]; rfl
  have l2 : (madeB kB 1 0 []).length = 28 := by rw [madeB_length]; rfl
  have n1 : lenP (madeB kB 9 0 []) = 28 := by rw [madeB_lenP kB 9 0 [] (by decide), l1]
  have n2 : lenP (madeB kB 1 0 []) = 28 := by rw [madeB_lenP kB 1 0 [] (by decide), l2]
  have t1 : at' (madeB kB 9 0 []) 8 = 9 := by rw [madeB_ttl]; rfl
  have t2 : at' (madeB kB 1 0 []) 8 = 1 := by rw [madeB_ttl]; rfl
  have a1 := madeB_all kB 9 0 [] allB_nil
  have a2 := madeB_all kB 1 0 [] allB_nil
  have w1 : whyW (madeB kB 9 0 []) 1500 = 0 := whyW_yes p1 (by omega) (by omega) (by omega)
  have w2 : whyW (madeB kB 1 0 []) 1500 = 7 := whyW_ttl p2 (by omega)
  obtain ⟨u1, u2, u3⟩ := unwrapped a1 p1 (by omega) (by omega) 7 8 (by omega) (by omega)
  obtain ⟨v1, v2, v3, v4, v5, v6, v7, v8, v9, v10⟩ := wrapped a1 p1 (by omega) (by omega) 7 8 (by omega) (by omega)
  have va := wrapB_all a1 7 8
  have CM1 : Hid (∀ w', Calls Try.prog 23 #[.agg #[.int .u32 1, .int .u32 2, .int .i64 17, .int .i64 3, .int .i64 4], .int .i64 9, .int .i64 0, .slice none 0 0] w' fun e w'' => MadeRet kB 9 0 [] w' e w'') :=
    fun w' => made_any kB 9 0 none 0 0 w'.heap.size [] w' kB_ok (by omega) Reads.none_ (Nat.le_refl _) (by omega)
  have CM2 : Hid (∀ w', Calls Try.prog 23 #[.agg #[.int .u32 1, .int .u32 2, .int .i64 17, .int .i64 3, .int .i64 4], .int .i64 1, .int .i64 0, .slice none 0 0] w' fun e w'' => MadeRet kB 1 0 [] w' e w'') :=
    fun w' => made_any kB 1 0 none 0 0 w'.heap.size [] w' kB_ok (by omega) Reads.none_ (Nat.le_refl _) (by omega)
  unfold MadeRet at CM1 CM2
  rw [l1] at CM1
  rw [l2] at CM2
  have HW1 := Lib.hid (And.intro w1 (And.intro n1 a1))
  have HW2 := Lib.hid (And.intro w2 a2)
  have HU := Lib.hid (And.intro u1 (And.intro u3 (And.intro v6 (And.intro v7 va))))
  rw [n1] at HU
  clear p1 p2 l1 l2 n1 n2 t1 t2 a1 a2 w1 w2 u1 u2 u3 v1 v2 v3 v4 v5 v6 v7 v8 v9 v10 va
  generalize hg1 : madeB kB 9 0 [] = D1 at *
  generalize hg2 : madeB kB 1 0 [] = D2 at *
  clear hg1 hg2
  go_enter Try.func29, Try.ntmps29
  go_wp2_with fail
  refine (CM1.out _).mono ?_
  rintro e w1 ⟨A1, N1, c1, rfl, rfl, hown1, hb1⟩
  have hk1 := (Blk.new w 43 #[.int .u32 1, .int .u32 2, .int .i64 17, .int .i64 3, .int .i64 4]).below hb1 (by simp)
  have hB1 := ((Below.refl w.heap.size w).alloc (Nat.le_refl _) (.cells #[.int .u32 1, .int .u32 2, .int .i64 17, .int .i64 3, .int .i64 4] 43)).trans (hb1.mono (by simp))
  have hs1 := hB1.size
  have CW1 := Lib.hid (wrap_any A1 28 c1 w1.heap.size D1 7 8 1500 w1 (Reads.of_own hown1) (Nat.le_refl _) (by omega) (own_cap hown1) HW1.out.2.2 (by omega) (by omega))
  clear hown1 hb1 CM1
  go_wp2_with fail
  refine CW1.out.mono ?_
  rintro e w2 ⟨hret, hb2⟩
  obtain ⟨A2, c2, rfl, hown2⟩ := hret.yes HW1.out.1
  rw [HW1.out.2.1] at hown2 ⊢
  have hk2 := hk1.below hb2 hk1.lt
  have hB2 := hB1.trans (hb2.mono hs1)
  have CU := Lib.hid (unwrap_any A2 (20 + 28) c2 w2.heap.size (wrapB D1 7 8) w2 (Reads.of_own hown2) (Nat.le_refl _) (by omega) (own_cap hown2) HU.out.2.2.2.2)
  clear hret hb2 CW1 hk1 hB1 hs1 hown2
  go_wp2_with fail
  refine CU.out.mono ?_
  rintro e w3 ⟨hret, hb3⟩
  obtain ⟨A3, c3, rfl, _, _⟩ := hret.yes HU.out.1
  rw [HU.out.2.1, HU.out.2.2.1, HU.out.2.2.2.1]
  have hk3 := hk2.below hb3 hk2.lt
  have hB3 := hB2.trans (hb3.mono hB2.size)
  have k0 := hk3.cell 0
  have k1 := hk3.cell 1
  have k2 := hk3.cell 2
  have k3 := hk3.cell 3
  have k4 := hk3.cell 4
  simp only [List.getElem?_toArray, List.getElem?_cons_zero, List.getElem?_cons_succ] at k0 k1 k2 k3 k4
  clear hret hb3 CU hk2 hB2 hk3
  go_wp2_with fail
  refine (CM2.out _).mono ?_
  rintro e w4 ⟨A4, N4, c4, rfl, rfl, hown4, hb4⟩
  have hB4 := hB3.trans (hb4.mono hB3.size)
  have CW2 := Lib.hid (wrap_any A4 28 c4 w4.heap.size D2 7 8 1500 w4 (Reads.of_own hown4) (Nat.le_refl _) (by omega) (own_cap hown4) HW2.out.2 (by omega) (by omega))
  clear hown4 hb4 CM2 k0 k1 k2 k3 k4 hB3
  go_wp2_with fail
  refine CW2.out.mono ?_
  rintro e w5 ⟨hret, hb5⟩
  obtain rfl := hret.no (by rw [HW2.out.1]; omega)
  rw [HW2.out.1]
  have hB5 := hB4.trans (hb5.mono hB4.size)
  clear hret hb5 CW2 hB4
  go_wp2_with fail
  go_ret
  exact ⟨rfl, hB5⟩
end Go.Proofs.Ytpgbldpppdmdoaa
