/- The walk of ip.Parse (wip/genparse.py). -/
import Derived.Test.YtpgbldpppdmdoaaIpRead
import Derived.Deep.CutBlock
import Derived.Deep.DeepCutAuto
import Derived.StillTailTactics
namespace Go.Proofs.Ytpgbldpppdmdoaa
set_option linter.unusedVariables false
set_option linter.unusedSimpArgs false
open Go.RowKit

/-- what Parse hands back -/
def ParseRet (l : List Nat) (w : World) (e : Ending) (w' : World) : Prop :=
  (whyP l = 0 ∧ ∃ A c, e = .returned (.tuple #[.agg (hdP l).vals, .slice A (lenP l - 4 * ihlP l) c, .int .i64 0]) ∧ w'.ownsRow w.heap.size 5 1 (.slice A (lenP l - 4 * ihlP l) c) (lenP l - 4 * ihlP l) (bv (bodyP l))) ∨
  (whyP l ≠ 0 ∧ e = .returned (.tuple #[.agg hd0.vals, .slice none 0 0, .int .i64 (whyP l : Nat)]))

theorem why_short {l : List Nat} (h : l.length < 20) : whyP l = 1 := by unfold whyP; rw [if_pos h]
theorem why_cases {l : List Nat} {n v s L z : Nat} (h20 : 20 ≤ n) (hn : l.length = n) (hv : at' l 0 / 16 = v) (hs : ihlP l = s) (hL : lenP l = L) (hz : netN (l.take (4 * s)) = z) :
    (v ≠ 4 ∧ whyP l = 2) ∨ (v = 4 ∧ s < 5 ∧ whyP l = 3) ∨ (v = 4 ∧ 5 ≤ s ∧ n < 4 * s ∧ whyP l = 1) ∨ (v = 4 ∧ 5 ≤ s ∧ 4 * s ≤ n ∧ z ≠ 0 ∧ whyP l = 4) ∨
    (v = 4 ∧ 5 ≤ s ∧ 4 * s ≤ n ∧ z = 0 ∧ L < 4 * s ∧ whyP l = 3) ∨ (v = 4 ∧ 5 ≤ s ∧ 4 * s ≤ n ∧ z = 0 ∧ 4 * s ≤ L ∧ n < L ∧ whyP l = 5) ∨ (v = 4 ∧ 5 ≤ s ∧ 4 * s ≤ n ∧ z = 0 ∧ 4 * s ≤ L ∧ L ≤ n ∧ whyP l = 0) := by
  unfold whyP
  rw [hn, hv, hs, hL, hz, if_neg (by omega)]
  by_cases h1 : v ≠ 4
  · rw [if_pos h1]; exact .inl ⟨h1, rfl⟩
  · rw [if_neg h1]
    by_cases h2 : s < 5
    · rw [if_pos h2]; exact .inr (.inl ⟨by omega, h2, rfl⟩)
    · rw [if_neg h2]
      by_cases h3 : n < 4 * s
      · rw [if_pos h3]; exact .inr (.inr (.inl ⟨by omega, by omega, h3, rfl⟩))
      · rw [if_neg h3]
        by_cases h4 : z ≠ 0
        · rw [if_pos h4]; exact .inr (.inr (.inr (.inl ⟨by omega, by omega, by omega, h4, rfl⟩)))
        · rw [if_neg h4]
          by_cases h5 : L < 4 * s
          · rw [if_pos h5]; exact .inr (.inr (.inr (.inr (.inl ⟨by omega, by omega, by omega, by omega, h5, rfl⟩))))
          · rw [if_neg h5]
            by_cases h6 : n < L
            · rw [if_pos h6]; exact .inr (.inr (.inr (.inr (.inr (.inl ⟨by omega, by omega, by omega, by omega, by omega, h6, rfl⟩)))))
            · rw [if_neg h6]; exact .inr (.inr (.inr (.inr (.inr (.inr ⟨by omega, by omega, by omega, by omega, by omega, by omega, rfl⟩)))))

/-- the header's cells under short names -/
theorem hd_names (l : List Nat) (ha : AllB l) : ∃ v s x1 L x4 x6 x7 x8 x9 x10 x12 x16 : Nat, at' l 0 / 16 = v ∧ ihlP l = s ∧ lenP l = L ∧ (hdP l).vals = #[.int .i64 (s : Int), .int .i64 (x1 : Int), .int .i64 (L : Int), .int .i64 (x4 : Int), .int .i64 (x6 : Int), .int .i64 (x7 : Int), .int .i64 (x8 : Int), .int .i64 (x9 : Int), .int .i64 (x10 : Int), .int .u32 (x12 : Int), .int .u32 (x16 : Int)] ∧ v < 16 ∧ s < 16 ∧ L < 65536 :=
  ⟨_, _, _, _, _, _, _, _, _, _, _, _, rfl, rfl, rfl, rfl, by have := at_lt ha 0; omega, by unfold ihlP; omega, two_lt ha 2⟩

set_option maxHeartbeats 1000000 in
set_option maxRecDepth 100000 in
theorem parse_short (A : Option Addr) (n c B : Nat) (l : List Nat) (w : World) (hr : Reads w B 1 A n (bv l)) (h20 : n < 20) :
    Calls Try.prog 16 #[.slice A n c] w fun e w' => ParseRet l w e w' ∧ Below w.heap.size w w' := by
  have hwhy := why_short (l := l) (by have := hr.length; omega)
  have HR : Hid (∀ w', ParseRet l w (.returned (.tuple #[.agg #[.int .i64 0, .int .i64 0, .int .i64 0, .int .i64 0, .int .i64 0, .int .i64 0, .int .i64 0, .int .i64 0, .int .i64 0, .int .u32 0, .int .u32 0], .slice none 0 0, .int .i64 1])) w') := fun w' => .inr ⟨by omega, by rw [hwhy]; rfl⟩
  clear hr hwhy
  go_enter Try.func16, Try.ntmps16
  go_wp2_with fail
  exact bodyPost_ret (v := .tuple #[.agg #[.int .i64 0, .int .i64 0, .int .i64 0, .int .i64 0, .int .i64 0, .int .i64 0, .int .i64 0, .int .i64 0, .int .i64 0, .int .u32 0, .int .u32 0], .slice none 0 0, .int .i64 1]) (by simp [results, Try.results16, go_sem]) rfl ⟨HR.out _, (Below.refl _ _).alloc (Nat.le_refl _) _⟩

set_option maxHeartbeats 2000000 in
set_option maxRecDepth 100000 in
theorem parse_no (A : Option Addr) (n c B : Nat) (l : List Nat) (w : World) (hr : Reads w B 1 A n (bv l)) (hB : B ≤ w.heap.size) (hn : n ≤ 140737488355328) (hnc : n ≤ c) (h20 : 20 ≤ n) (ha : AllB l) (hno : whyP l ≠ 0) :
    Calls Try.prog 16 #[.slice A n c] w fun e w' => ParseRet l w e w' ∧ Below w.heap.size w w' := by
  have hlen := hr.length
  obtain ⟨v, s, x1, L, x4, x6, x7, x8, x9, x10, x12, x16, hv, hs, hL, hvals, v16, s16, L16⟩ := hd_names l ha
  obtain ⟨z, hz⟩ : ∃ z, netN (l.take (4 * s)) = z := ⟨_, rfl⟩
  have hcases := why_cases h20 hlen hv hs hL hz
  have HV := Lib.hid (And.intro hv hvals)
  have HZ := Lib.hid hz
  have C1 := Lib.hid (fun w' (hb : Below w.heap.size w w') => read_any A n c w'.heap.size l w' ((hr.below (hb.mono hB)).more (Nat.le_trans hB hb.size)) (Nat.le_refl _) hn h20 ha)
  have CN := Lib.hid (fun w' (hb : Below w.heap.size w w') (h4 : 4 * s ≤ n) => net_any w' w'.heap.size A (4 * s) c (l.take (4 * s)) (((hr.below (hb.mono hB)).more (Nat.le_trans hB hb.size)).takeb h4) (by omega) (ha.take _))
  rw [hz] at CN
  obtain ⟨r, hwr, hr0⟩ : ∃ r, whyP l = r ∧ r ≠ 0 := ⟨_, rfl, hno⟩
  rw [hwr] at hcases
  have HC := Lib.hid hcases
  have HR : Hid (∀ w', ParseRet l w (.returned (.tuple #[.agg #[.int .i64 0, .int .i64 0, .int .i64 0, .int .i64 0, .int .i64 0, .int .i64 0, .int .i64 0, .int .i64 0, .int .i64 0, .int .u32 0, .int .u32 0], .slice none 0 0, .int .i64 (r : Int)])) w') := fun w' => .inr ⟨by rw [hwr]; exact hr0, by rw [hwr]; rfl⟩
  clear hr hlen hv hs hL hvals hz hcases hwr hno ha
  go_enter Try.func16, Try.ntmps16
  go_wp2_with fail
  refine (C1.out _ ((Below.refl _ _).alloc (Nat.le_refl _) _)).mono ?_
  rintro e w1 ⟨he, hb1⟩
  rw [HV.out.1, HV.out.2] at he
  subst he
  have hB1 : Below w.heap.size w w1 := ((Below.refl _ _).alloc (Nat.le_refl _) _).trans (hb1.mono (by simp))
  have hres := (Blk.new w 24 #[.int .i64 0, .int .i64 0, .int .i64 0, .int .i64 0, .int .i64 0, .int .i64 0, .int .i64 0, .int .i64 0, .int .i64 0, .int .u32 0, .int .u32 0]).below hb1 (by simp)
  clear hb1 C1
  obtain ⟨q, hq⟩ : ∃ q, q = w.heap.size := ⟨_, rfl⟩
  rw [← hq] at hres ⊢
  have HQ := Lib.hid hq
  clear hq
  go_upto_block 0 with fail
  go_cut [8] (fun v8 wx => v8 = .int .i64 (r : Int) ∧ wx = w1.alloc (.cells #[.int .i64 (s : Int), .int .i64 (x1 : Int), .int .i64 (L : Int), .int .i64 (x4 : Int), .int .i64 (x6 : Int), .int .i64 (x7 : Int), .int .i64 (x8 : Int), .int .i64 (x9 : Int), .int .i64 (x10 : Int), .int .u32 (x12 : Int), .int .u32 (x16 : Int)] 24))
  case first =>
    rcases HC.out with ⟨a1, h⟩ | ⟨a1, a2, h⟩ | ⟨a1, a2, a3, h⟩ | ⟨a1, a2, a3, a4, h⟩ | ⟨a1, a2, a3, a4, a5, h⟩ | ⟨a1, a2, a3, a4, a5, a6, h⟩ | ⟨a1, a2, a3, a4, a5, a6, h⟩
    · have hb : ((v : Int) != 4) = true := by simp; omega
      have HH := Lib.hid h
      clear a1 h hr0
      go_wp2_with fail
      go_meet
      exact ⟨by rw [HH.out]; rfl, rfl⟩
    · have hb : ((v : Int) != 4) = false := by simp; omega
      have HH := Lib.hid h
      clear a1 h hr0
      go_wp2_with fail
      go_meet
      exact ⟨by rw [HH.out]; rfl, rfl⟩
    · have hb : ((v : Int) != 4) = false := by simp; omega
      have HH := Lib.hid h
      clear a1 h hr0
      go_wp2_with fail
      go_meet
      exact ⟨by rw [HH.out]; rfl, rfl⟩
    · have hb : ((v : Int) != 4) = false := by simp; omega
      have hb2 : ((z : Int) != 0) = true := by simp; omega
      have HH := Lib.hid h
      have HN := Lib.hid (fun w' hb => CN.out w' hb a3)
      clear a1 h hr0 a4
      go_wp2_with fail
      refine (HN.out _ (hB1.alloc hB1.size _)).mono ?_
      rintro e w' ⟨rfl, rfl⟩
      go_wp2_with fail
      go_meet
      exact ⟨by rw [HH.out]; rfl, rfl⟩
    · have hb : ((v : Int) != 4) = false := by simp; omega
      have hb2 : ((z : Int) != 0) = false := by simp; omega
      have HH := Lib.hid h
      have HN := Lib.hid (fun w' hb => CN.out w' hb a3)
      clear a1 h hr0 a4
      go_wp2_with fail
      refine (HN.out _ (hB1.alloc hB1.size _)).mono ?_
      rintro e w' ⟨rfl, rfl⟩
      go_wp2_with fail
      go_meet
      exact ⟨by rw [HH.out]; rfl, rfl⟩
    · have hb : ((v : Int) != 4) = false := by simp; omega
      have hb2 : ((z : Int) != 0) = false := by simp; omega
      have HH := Lib.hid h
      have HN := Lib.hid (fun w' hb => CN.out w' hb a3)
      clear a1 h hr0 a4
      go_wp2_with fail
      refine (HN.out _ (hB1.alloc hB1.size _)).mono ?_
      rintro e w' ⟨rfl, rfl⟩
      go_wp2_with fail
      go_meet
      exact ⟨by rw [HH.out]; rfl, rfl⟩
    · exact absurd h hr0
  case rest =>
    obtain ⟨rfl, hwc⟩ := hcut
    have hb2 : Below w.heap.size w wc := by rw [hwc]; exact hB1.alloc hB1.size _
    have hres2 : Blk wc q 24 #[.int .i64 0, .int .i64 0, .int .i64 0, .int .i64 0, .int .i64 0, .int .i64 0, .int .i64 0, .int .i64 0, .int .i64 0, .int .u32 0, .int .u32 0] := by rw [hwc]; exact hres.alloc _
    clear hwc hres hB1 CN HC HV HZ
    have he0 := hres2.cell 0
    have he1 := hres2.cell 1
    have he2 := hres2.cell 2
    have he3 := hres2.cell 3
    have he4 := hres2.cell 4
    have he5 := hres2.cell 5
    have he6 := hres2.cell 6
    have he7 := hres2.cell 7
    have he8 := hres2.cell 8
    have he9 := hres2.cell 9
    have he10 := hres2.cell 10
    simp only [List.getElem?_toArray, List.getElem?_cons_zero, List.getElem?_cons_succ] at he0 he1 he2 he3 he4 he5 he6 he7 he8 he9 he10
    have hf0 := hres2.frozen 0
    have hf1 := hres2.frozen 1
    have hf2 := hres2.frozen 2
    have hf3 := hres2.frozen 3
    have hf4 := hres2.frozen 4
    have hf5 := hres2.frozen 5
    have hf6 := hres2.frozen 6
    have hf7 := hres2.frozen 7
    have hf8 := hres2.frozen 8
    have hf9 := hres2.frozen 9
    have hf10 := hres2.frozen 10
    go_wp2_with fail
    obtain ⟨w3, hw3⟩ : ∃ w3, w3 = (((((((((((wc).setCell ⟨q, 0, none⟩ (.int .i64 0)).setCell ⟨q, 1, none⟩ (.int .i64 0)).setCell ⟨q, 2, none⟩ (.int .i64 0)).setCell ⟨q, 3, none⟩ (.int .i64 0)).setCell ⟨q, 4, none⟩ (.int .i64 0)).setCell ⟨q, 5, none⟩ (.int .i64 0)).setCell ⟨q, 6, none⟩ (.int .i64 0)).setCell ⟨q, 7, none⟩ (.int .i64 0)).setCell ⟨q, 8, none⟩ (.int .i64 0)).setCell ⟨q, 9, none⟩ (.int .u32 0)).setCell ⟨q, 10, none⟩ (.int .u32 0) := ⟨_, rfl⟩
    have hres3 : Blk w3 q 24 #[.int .i64 0, .int .i64 0, .int .i64 0, .int .i64 0, .int .i64 0, .int .i64 0, .int .i64 0, .int .i64 0, .int .i64 0, .int .u32 0, .int .u32 0] := by
      rw [hw3]
      have hset := (((((((((((hres2).set_ 0 (.int .i64 0)).set_ 1 (.int .i64 0)).set_ 2 (.int .i64 0)).set_ 3 (.int .i64 0)).set_ 4 (.int .i64 0)).set_ 5 (.int .i64 0)).set_ 6 (.int .i64 0)).set_ 7 (.int .i64 0)).set_ 8 (.int .i64 0)).set_ 9 (.int .u32 0)).set_ 10 (.int .u32 0)
      simp only [List.setIfInBounds_toArray, List.set_cons_zero, List.set_cons_succ] at hset
      exact hset
    have hB3 : Below w.heap.size w w3 := by
      rw [hw3]
      exact hb2.trans (((((((((((((Below.refl q wc).setCell (p := ⟨q, 0, none⟩) (Nat.le_refl _) _).setCell (p := ⟨q, 1, none⟩) (Nat.le_refl _) _).setCell (p := ⟨q, 2, none⟩) (Nat.le_refl _) _).setCell (p := ⟨q, 3, none⟩) (Nat.le_refl _) _).setCell (p := ⟨q, 4, none⟩) (Nat.le_refl _) _).setCell (p := ⟨q, 5, none⟩) (Nat.le_refl _) _).setCell (p := ⟨q, 6, none⟩) (Nat.le_refl _) _).setCell (p := ⟨q, 7, none⟩) (Nat.le_refl _) _).setCell (p := ⟨q, 8, none⟩) (Nat.le_refl _) _).setCell (p := ⟨q, 9, none⟩) (Nat.le_refl _) _).setCell (p := ⟨q, 10, none⟩) (Nat.le_refl _) _ : Below q wc _).mono (by rw [HQ.out]; exact Nat.le_refl _))
    rw [← hw3]
    clear hw3
    have hr0' := hres3.cell 0
    have hr1' := hres3.cell 1
    have hr2' := hres3.cell 2
    have hr3' := hres3.cell 3
    have hr4' := hres3.cell 4
    have hr5' := hres3.cell 5
    have hr6' := hres3.cell 6
    have hr7' := hres3.cell 7
    have hr8' := hres3.cell 8
    have hr9' := hres3.cell 9
    have hr10' := hres3.cell 10
    simp only [List.getElem?_toArray, List.getElem?_cons_zero, List.getElem?_cons_succ] at hr0' hr1' hr2' hr3' hr4' hr5' hr6' hr7' hr8' hr9' hr10'
    exact bodyPost_ret (v := .tuple #[.agg #[.int .i64 0, .int .i64 0, .int .i64 0, .int .i64 0, .int .i64 0, .int .i64 0, .int .i64 0, .int .i64 0, .int .i64 0, .int .u32 0, .int .u32 0], .slice none 0 0, .int .i64 (r : Int)]) (by simp [results, Try.results16, go_sem, hr0', hr1', hr2', hr3', hr4', hr5', hr6', hr7', hr8', hr9', hr10']) rfl ⟨HR.out _, hB3⟩
end Go.Proofs.Ytpgbldpppdmdoaa
