/- The walk of 'awake' of goitlaw20; words for what Parse hands back. -/
import Derived.Test.YtpgbldpppdmdoaaIpBuild
namespace Go.Proofs.Ytpgbldpppdmdoaa
set_option linter.unusedVariables false
set_option linter.unusedSimpArgs false
open Go.RowKit

theorem ParseRet.yes {l : List Nat} {w w' : World} {e : Ending} (h : ParseRet l w e w') (h0 : whyP l = 0) : ∃ A c, e = .returned (.tuple #[.agg (hdP l).vals, .slice A (lenP l - 4 * ihlP l) c, .int .i64 0]) ∧ w'.ownsRow w.heap.size 5 1 (.slice A (lenP l - 4 * ihlP l) c) (lenP l - 4 * ihlP l) (bv (bodyP l)) := by
  rcases h with ⟨_, h⟩ | ⟨h, _⟩
  · exact h
  · exact absurd h0 h
theorem ParseRet.no {l : List Nat} {w w' : World} {e : Ending} (h : ParseRet l w e w') (h0 : whyP l ≠ 0) : e = .returned (.tuple #[.agg hd0.vals, .slice none 0 0, .int .i64 (whyP l : Nat)]) := by
  rcases h with ⟨h, _⟩ | ⟨_, h⟩
  · exact absurd h h0
  · exact h

/-- what Parse hands back, its header's cells under short names -/
theorem ParseRet.names {l : List Nat} {w w' : World} {e : Ending} (h : ParseRet l w e w') (ha : AllB l) : ∃ (y0 y1 y2 y3 y4 y5 y6 y7 y8 y9 y10 m c : Nat) (P : Option Addr),
    e = .returned (.tuple #[.agg #[.int .i64 (y0 : Int), .int .i64 (y1 : Int), .int .i64 (y2 : Int), .int .i64 (y3 : Int), .int .i64 (y4 : Int), .int .i64 (y5 : Int), .int .i64 (y6 : Int), .int .i64 (y7 : Int), .int .i64 (y8 : Int), .int .u32 (y9 : Int), .int .u32 (y10 : Int)], .slice P m c, .int .i64 (whyP l : Nat)]) ∧ (whyP l ≠ 0 → y0 = 0 ∧ y1 = 0 ∧ y2 = 0 ∧ y3 = 0 ∧ y4 = 0 ∧ y5 = 0 ∧ y6 = 0 ∧ y7 = 0 ∧ y8 = 0 ∧ y9 = 0 ∧ y10 = 0 ∧ m = 0) := by
  by_cases h0 : whyP l = 0
  · obtain ⟨A, c, he, _⟩ := h.yes h0
    refine ⟨ihlP l, at' l 1, lenP l, two' l 4, two' l 6 / 8192, two' l 6 % 8192, at' l 8, at' l 9, two' l 10, four' l 12, four' l 16, lenP l - 4 * ihlP l, c, A, ?_, fun hh => absurd h0 hh⟩
    · exact he.trans (by rw [h0]; rfl)
  · exact ⟨0, 0, 0, 0, 0, 0, 0, 0, 0, 0, 0, 0, 0, none, (h.no h0).trans rfl, fun _ => ⟨rfl, rfl, rfl, rfl, rfl, rfl, rfl, rfl, rfl, rfl, rfl, rfl⟩⟩

theorem own_cap {w : World} {base m c : Nat} {e : TypeId} {A : Option Addr} {xs : List Value} {size : Nat} (h : w.ownsRow base e size (.slice A m c) m xs) : m ≤ c := by
  rcases h.2 with ⟨h, _⟩ | ⟨g, cap, cur, h, _, _, hc, _⟩
  · cases h; exact Nat.le_refl _
  · cases h; exact hc

def hdA : Hd := ⟨0, 0, 20, 0, 0, 0, 5, 6, 0, 1, 2⟩
theorem hdA_ok : HdOk hdA := ⟨by decide, by decide, by decide, by decide, by decide, by decide, by decide, by decide, by decide, by decide, by decide⟩
theorem hdA_why : whyP (buildB hdA) = 0 := by decide +kernel
theorem hdA_len : lenP (buildB hdA) = 20 := by decide +kernel
theorem hdA_ihl : ihlP (buildB hdA) = 5 := by decide +kernel
theorem hdA_ttl : at' (buildB hdA) 8 = 5 := by decide +kernel

set_option maxHeartbeats 1000000 in
set_option maxRecDepth 100000 in
theorem awake20_any (w : World) : Calls Try.prog 13 #[] w fun e w' => e = .returned (.bool true) ∧ Below w.heap.size w w' := by
  obtain ⟨i0, hi, hz0, hz1, hz2⟩ := info_parts infoB
  have CB := Lib.hid (build_any hdA w hdA_ok)
  have hal := Lib.hid (buildB_all hdA)
  have HY := Lib.hid hdA_why
  have HLl := Lib.hid hdA_len
  have HI := Lib.hid hdA_ihl
  have HT := Lib.hid hdA_ttl
  obtain ⟨v, s, x1, L, x4, x6, x7, x8, x9, x10, x12, x16, _, _, _, hvals, _, _, _⟩ := hd_names (buildB hdA) (buildB_all hdA)
  have hvs : s = 5 := by
    have h1 : (hdP (buildB hdA)).vals[0]? = some (.int .i64 ((ihlP (buildB hdA) : Nat) : Int)) := rfl
    rw [hvals] at h1
    simp at h1
    have := HI.out
    omega
  have hvt : x8 = 5 := by
    have h1 : (hdP (buildB hdA)).vals[6]? = some (.int .i64 ((at' (buildB hdA) 8 : Nat) : Int)) := rfl
    rw [hvals] at h1
    simp at h1
    have := HT.out
    omega
  subst hvs hvt
  have HV := Lib.hid hvals
  clear hvals
  unfold hdA Hd.vals at CB
  go_enter Try.func13, Try.ntmps13
  go_wp2_with fail
  refine CB.out.mono ?_
  rintro e w1 ⟨A1, c1, rfl, hown1, hB1⟩
  have hr1 := Reads.of_own hown1
  have hc1 := own_cap hown1
  clear hown1 CB
  go_wp2_with fail
  refine (parse_any A1 20 c1 _ (buildB hdA) w1 hr1 (Nat.le_refl _) (by omega) hc1 hal.out).mono ?_
  rintro e w2 ⟨hret, hb2⟩
  obtain ⟨A2, c2, rfl, hown2⟩ := hret.yes HY.out
  rw [HV.out, HLl.out, HI.out]
  have hB2 := hB1.trans (hb2.mono hB1.size)
  clear hret hb2 hr1 hown2
  go_wp2_with (at_make; refine stop_ ?_)
  refine on_ ?_
  refine wpList_make_full _ rfl _ _ 25 rfl w.heap.size 5 i0 _ 1 Try.underlying25 hi hz0 hz1 _ _ _ _ 19 rfl rfl rfl rfl (by rw [hz2]; omega) (by unfold maxLen; omega) (by have := hB2.size; simp; omega) ?_
  intro w3 hown3 hg3
  have e3 : (madeCells (Value.int IntKind.u8 0).cells (19 * 1)).toList = bv (List.replicate 19 0) := by
    rw [Nat.mul_one]
    show (madeCells #[Value.int .u8 0] 19).toList = _
    rw [toList_madeCells_one]
    simp [bv]
  rw [e3] at hown3
  clear e3
  have hs2 := hB2.size
  have hB3 : Below w.heap.size w w3 := (hB2.alloc hs2 _).grown hg3 (by simp; omega) (by simp)
  have hbh := (Blk.new w2 24 #[.int .i64 ((5 : Nat) : Int), .int .i64 (x1 : Int), .int .i64 (L : Int), .int .i64 (x4 : Int), .int .i64 (x6 : Int), .int .i64 (x7 : Int), .int .i64 ((5 : Nat) : Int), .int .i64 (x9 : Int), .int .i64 (x10 : Int), .int .u32 (x12 : Int), .int .u32 (x16 : Int)]).grown hg3 (by simp)
  obtain ⟨ph, hph⟩ : ∃ ph, ph = w2.heap.size := ⟨_, rfl⟩
  have CP := Lib.hid (parse_short (some ⟨w2.heap.size + 1, 0, none⟩) 19 19 w3.heap.size (List.replicate 19 0) w3 (Reads.of_own (by simpa using hown3)) (by omega))
  have hW1 : Hid (whyP (List.replicate 19 0) = 1) := by show _ = _; decide +kernel
  rw [← hph] at hbh ⊢
  clear hg3 hown3 hph
  go_wp2_with fail
  refine CP.out.mono ?_
  rintro e w4 ⟨hret, hb4⟩
  obtain rfl := hret.no (by rw [hW1.out]; omega)
  rw [hW1.out]
  have hB4 := hB3.trans (hb4.mono hB3.size)
  have hbh4 := hbh.below hb4 hbh.lt
  have hbh5 := hbh4.alloc (.cells #[.int .i64 0, .int .i64 0, .int .i64 0, .int .i64 0, .int .i64 0, .int .i64 0, .int .i64 0, .int .i64 0, .int .i64 0, .int .u32 0, .int .u32 0] 24)
  have he0 := hbh5.cell 0
  have he6 := hbh5.cell 6
  simp only [List.getElem?_toArray, List.getElem?_cons_zero, List.getElem?_cons_succ] at he0 he6
  clear hret hb4 CP hbh hbh4 hbh5
  unfold hd0 Hd.vals
  go_wp2_with fail
  go_ret
  exact ⟨rfl, hB4.alloc hB4.size _⟩
end Go.Proofs.Ytpgbldpppdmdoaa
