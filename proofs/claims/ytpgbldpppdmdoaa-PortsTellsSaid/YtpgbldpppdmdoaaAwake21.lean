/- goitlaw21's awake is true (wip/genawake21.py). -/
import Derived.Test.YtpgbldpppdmdoaaPEnds
import Derived.Test.YtpgbldpppdmdoaaIpAwake
namespace Go.Proofs.Ytpgbldpppdmdoaa
set_option linter.unusedVariables false
set_option linter.unusedSimpArgs false
open Go.RowKit

def kA : Tu := ⟨1, 2, 6, 3, 4⟩
theorem kA_ok : TuOk kA := ⟨by decide, by decide, by decide, by decide, by decide⟩
theorem kA_may : mayTu kA = true := by decide
theorem allB_nil : AllB [] := fun x hx => by cases hx

set_option maxHeartbeats 4000000 in
set_option maxRecDepth 100000 in
theorem awake21_any (w : World) : Calls Try.prog 22 #[] w fun e w' => e = .returned (.bool true) ∧ Below w.heap.size w w' := by
  obtain ⟨hy, ht⟩ := made_tells kA 9 1 [] kA_ok kA_may (by decide)
  have he : endsL kA (madeB kA 9 1 []) = true := by rw [ends_made kA kA 9 1 [] kA_ok kA_may (by decide)]; decide +kernel
  have hall := madeB_all kA 9 1 [] allB_nil
  have hlen : (madeB kA 9 1 []).length = 40 := by rw [madeB_length]; rfl
  have CM : Hid (∀ w', Calls Try.prog 23 #[.agg #[.int .u32 1, .int .u32 2, .int .i64 6, .int .i64 3, .int .i64 4], .int .i64 9, .int .i64 1, .slice none 0 0] w' fun e w'' => MadeRet kA 9 1 [] w' e w'') :=
    fun w' => made_any kA 9 1 none 0 0 w'.heap.size [] w' kA_ok (by omega) Reads.none_ (Nat.le_refl _) (by omega)
  have HTVV : Hid ((tuT (madeB kA 9 1 [])).vals = #[.int .u32 1, .int .u32 2, .int .i64 6, .int .i64 3, .int .i64 4]) := by show _ = _; rw [tuT_yes hy, ht]; rfl
  have httl : (hdT (madeB kA 9 1 [])).ttl = 9 := by
    rw [hdT_yes hy]
    show ((at' (madeB kA 9 1 []) 8 : Nat) : Int) = 9
    rw [madeB_ttl]; rfl
  obtain ⟨y0, y1, y2, y3, y4, y5, y6, y7, y8, y9, y10, hv, h2, h6⟩ := hdT_names (madeB kA 9 1 [])
  obtain rfl : y6 = 9 := h6.trans httl
  have HVX := Lib.hid hv
  have HE := Lib.hid he
  have HY := Lib.hid hy
  have CE0 := Lib.hid (fun A n c B w' => ends_any kA A n c B (madeB kA 9 1 []) w')
  have CP0 := Lib.hid (fun A n c B w' => ptuple_any A n c B (madeB kA 9 1 []) w')
  rw [HE.out] at CE0
  rw [HTVV.out, HVX.out, HY.out] at CP0
  have HA := Lib.hid hall
  unfold MadeRet at CM
  rw [hlen] at CM
  clear hy ht he hlen httl hv h2 h6 hall
  generalize madeB kA 9 1 [] = D at *
  unfold kA Tu.vals at CE0
  go_enter Try.func22, Try.ntmps22
  go_wp2_with fail
  refine (CM.out _).mono ?_
  rintro e w1 ⟨A1, N, c1, rfl, rfl, hown1, hb1⟩
  have hk := (Blk.new w 43 #[.int .u32 1, .int .u32 2, .int .i64 6, .int .i64 3, .int .i64 4]).below hb1 (by simp)
  have hB1 := ((Below.refl w.heap.size w).alloc (Nat.le_refl _) (.cells #[.int .u32 1, .int .u32 2, .int .i64 6, .int .i64 3, .int .i64 4] 43)).trans (hb1.mono (by simp))
  have hs1 := hB1.size
  have CP := Lib.hid (CP0.out A1 40 c1 w1.heap.size w1 (Reads.of_own hown1) (Nat.le_refl _) (by omega) (own_cap hown1) HA.out)
  have CE := Lib.hid (fun w' (hb : Below w1.heap.size w1 w') => CE0.out A1 40 c1 w'.heap.size w' (((Reads.of_own hown1).below hb).more hb.size) (Nat.le_refl _) (by omega) (own_cap hown1) HA.out)
  clear hown1 hb1 CM
  go_wp2_with fail
  refine CP.out.mono ?_
  rintro e w2 ⟨rfl, hb2⟩
  have hk2 := ((hk.below hb2 hk.lt).alloc (.cells #[.int .u32 1, .int .u32 2, .int .i64 6, .int .i64 3, .int .i64 4] 43)).alloc (.cells #[.int .i64 y0, .int .i64 y1, .int .i64 y2, .int .i64 y3, .int .i64 y4, .int .i64 y5, .int .i64 9, .int .i64 y7, .int .i64 y8, .int .u32 (y9 : Int), .int .u32 (y10 : Int)] 24)
  have hb3 := (hb2.alloc hb2.size (.cells #[.int .u32 1, .int .u32 2, .int .i64 6, .int .i64 3, .int .i64 4] 43)).alloc (by have := hb2.size; simp; omega) (.cells #[.int .i64 y0, .int .i64 y1, .int .i64 y2, .int .i64 y3, .int .i64 y4, .int .i64 y5, .int .i64 9, .int .i64 y7, .int .i64 y8, .int .u32 (y9 : Int), .int .u32 (y10 : Int)] 24)
  have hB3 := hB1.trans (hb3.mono hs1)
  have k0 := hk2.cell 0
  have k1 := hk2.cell 1
  have k2 := hk2.cell 2
  have k3 := hk2.cell 3
  have k4 := hk2.cell 4
  simp only [List.getElem?_toArray, List.getElem?_cons_zero, List.getElem?_cons_succ] at k0 k1 k2 k3 k4
  have CE2 := Lib.hid (CE.out _ hb3)
  clear hk hk2 hb2 hb3 CP CE CE0 CP0 hB1
  go_wp2_with fail
  refine CE2.out.mono ?_
  rintro e w4 ⟨rfl, hb4⟩
  have hB4 := hB3.trans (hb4.mono hB3.size)
  clear k0 k1 k2 k3 k4
  go_wp2_with fail
  go_ret
  exact ⟨rfl, hB4⟩
end Go.Proofs.Ytpgbldpppdmdoaa
