/- The walk of ports' within where a packet tells no tuple (wip/genwithin.py). -/
import Derived.Test.YtpgbldpppdmdoaaWithinNo
namespace Go.Proofs.Ytpgbldpppdmdoaa
set_option linter.unusedVariables false
set_option linter.unusedSimpArgs false
open Go.RowKit

set_option maxHeartbeats 4000000 in
set_option maxRecDepth 100000 in
theorem within_no6 (A : Option Addr) (n c B : Nat) (l : List Nat) (w : World) (hr : Reads w B 1 A n (bv l)) (hB0 : B ≤ w.heap.size) (hn : n ≤ 140737488355328) (hnc : n ≤ c) (ha : AllB l) (hyes : whyP l = 0) (hwh : wholeL l = false) :
    Calls Try.prog 48 #[.slice A n c] w fun e w' => WithinRet l w e w' ∧ Below w.heap.size w w' := by
  have CP := Lib.hid (fun w' (hb : Below w.heap.size w w') => parse_any A n c w'.heap.size l w' ((hr.below (hb.mono hB0)).more (Nat.le_trans hB0 hb.size)) (Nat.le_refl _) hn hnc ha)
  have HR : Hid (∀ w', WithinRet l w (.returned (.tuple #[.agg #[.int .u32 0, .int .u32 0, .int .i64 0, .int .i64 0, .int .i64 0], .agg #[.int .i64 0, .int .i64 0, .int .i64 0, .int .i64 0, .int .i64 0, .int .i64 0, .int .i64 0, .int .i64 0, .int .i64 0, .int .u32 0, .int .u32 0], .slice none 0 0, .int .i64 6])) w') := fun w' => .inr (by
    have hT : whyT l = 6 := by
      unfold whyT
      rw [if_neg (fun h => h hyes), if_pos hwh]
    rw [hT]
    exact ⟨by decide, rfl⟩)
  have HP7 : Hid (at' l 9 = at' l 9) := rfl
  obtain ⟨y0, y1, y2, y3, f, o, y6, y7, y8, y9, y10, hvals, hf, ho, h7⟩ : ∃ y0 y1 y2 y3 f o y6 y7 y8 y9 y10 : Nat, (hdP l).vals = #[.int .i64 (y0 : Int), .int .i64 (y1 : Int), .int .i64 (y2 : Int), .int .i64 (y3 : Int), .int .i64 (f : Int), .int .i64 (o : Int), .int .i64 (y6 : Int), .int .i64 (y7 : Int), .int .i64 (y8 : Int), .int .u32 (y9 : Int), .int .u32 (y10 : Int)] ∧ f = two' l 6 / 8192 ∧ o = two' l 6 % 8192 ∧ y7 = at' l 9 := ⟨_, _, _, _, _, _, _, _, _, _, _, rfl, rfl, rfl, rfl⟩
  have hfl : f < 65536 := by have := two_lt ha 6; omega
  have hol : o < 65536 := by omega
  have CW := Lib.hid (fun w' => whole_any y0 y1 y2 y3 f o y6 y7 y8 y9 y10 w' hfl hol)
  have hw1 : wholeN f o = wholeL l := by rw [hf, ho]; rfl
  rw [hw1, hwh] at CW
  have HY := Lib.hid (And.intro hyes hvals)
  have hbz : (((0 : Nat) : Int) != 0) = false := by decide
  rw [← h7] at HP7
  have HBA : Hid (AllB (bodyP l)) := (ha.take _).drop _
  have hbl : lenP l - 4 * ihlP l ≤ 140737488355328 := by have := two_lt ha 2; unfold lenP; omega
  obtain ⟨m, hm⟩ : ∃ m, m = lenP l - 4 * ihlP l := ⟨_, rfl⟩
  rw [← hm] at hbl
  have HM := Lib.hid hm
  clear hr hyes hvals hf ho h7 hw1 hfl hol hm hwh
  go_enter Try.func48, Try.ntmps48
  go_wp2_with fail
  have hq2 := (Blk.new w 43 #[.int .u32 0, .int .u32 0, .int .i64 0, .int .i64 0, .int .i64 0]).alloc (.cells #[.int .i64 0, .int .i64 0, .int .i64 0, .int .i64 0, .int .i64 0, .int .i64 0, .int .i64 0, .int .i64 0, .int .i64 0, .int .u32 0, .int .u32 0] 24)
  have hq3 : Blk ((w.alloc (.cells #[.int .u32 0, .int .u32 0, .int .i64 0, .int .i64 0, .int .i64 0] 43)).alloc (.cells #[.int .i64 0, .int .i64 0, .int .i64 0, .int .i64 0, .int .i64 0, .int .i64 0, .int .i64 0, .int .i64 0, .int .i64 0, .int .u32 0, .int .u32 0] 24)) (w.heap.size + 1) 24 #[.int .i64 0, .int .i64 0, .int .i64 0, .int .i64 0, .int .i64 0, .int .i64 0, .int .i64 0, .int .i64 0, .int .i64 0, .int .u32 0, .int .u32 0] := Blk.new_ (by simp)
  have hB := ((Below.refl w.heap.size w).alloc (Nat.le_refl _) (.cells #[.int .u32 0, .int .u32 0, .int .i64 0, .int .i64 0, .int .i64 0] 43)).alloc (by simp) (.cells #[.int .i64 0, .int .i64 0, .int .i64 0, .int .i64 0, .int .i64 0, .int .i64 0, .int .i64 0, .int .i64 0, .int .i64 0, .int .u32 0, .int .u32 0] 24)
  refine (CP.out _ hB).mono ?_
  rintro e w1 ⟨hret, hb1⟩
  obtain ⟨A1, c1, rfl, hown⟩ := hret.yes HY.out.1
  rw [HY.out.2, ← HM.out]
  rw [← HM.out] at hown
  have hq2 := hq2.below hb1 hq2.lt
  have hq3 := hq3.below hb1 hq3.lt
  have hB := hB.trans (hb1.mono hB.size)
  have hq2 := hq2.alloc (.cells #[.int .i64 (y0 : Int), .int .i64 (y1 : Int), .int .i64 (y2 : Int), .int .i64 (y3 : Int), .int .i64 (f : Int), .int .i64 (o : Int), .int .i64 (y6 : Int), .int .i64 (y7 : Int), .int .i64 (y8 : Int), .int .u32 (y9 : Int), .int .u32 (y10 : Int)] 24)
  have hq3 := hq3.alloc (.cells #[.int .i64 (y0 : Int), .int .i64 (y1 : Int), .int .i64 (y2 : Int), .int .i64 (y3 : Int), .int .i64 (f : Int), .int .i64 (o : Int), .int .i64 (y6 : Int), .int .i64 (y7 : Int), .int .i64 (y8 : Int), .int .u32 (y9 : Int), .int .u32 (y10 : Int)] 24)
  have hB := hB.alloc hB.size (.cells #[.int .i64 (y0 : Int), .int .i64 (y1 : Int), .int .i64 (y2 : Int), .int .i64 (y3 : Int), .int .i64 (f : Int), .int .i64 (o : Int), .int .i64 (y6 : Int), .int .i64 (y7 : Int), .int .i64 (y8 : Int), .int .u32 (y9 : Int), .int .u32 (y10 : Int)] 24)
  have hq6 := Blk.new w1 24 #[.int .i64 (y0 : Int), .int .i64 (y1 : Int), .int .i64 (y2 : Int), .int .i64 (y3 : Int), .int .i64 (f : Int), .int .i64 (o : Int), .int .i64 (y6 : Int), .int .i64 (y7 : Int), .int .i64 (y8 : Int), .int .u32 (y9 : Int), .int .u32 (y10 : Int)]
  have hown := hown.alloc (.cells #[.int .i64 (y0 : Int), .int .i64 (y1 : Int), .int .i64 (y2 : Int), .int .i64 (y3 : Int), .int .i64 (f : Int), .int .i64 (o : Int), .int .i64 (y6 : Int), .int .i64 (y7 : Int), .int .i64 (y8 : Int), .int .u32 (y9 : Int), .int .u32 (y10 : Int)] 24)
  clear hret hb1 CP
  obtain ⟨q, hq⟩ : ∃ q, q = w.heap.size := ⟨_, rfl⟩
  rw [← hq] at hq2 hq3 ⊢
  have HQ := Lib.hid hq
  clear hq
  go_wp2_with fail
  refine (CW.out _).mono ?_
  rintro e w2 ⟨rfl, hb2⟩
  have hq2 := hq2.below hb2 hq2.lt
  have hq3 := hq3.below hb2 hq3.lt
  have hq6 := hq6.below hb2 hq6.lt
  have hown := own_below hown hb2
  have hB := hB.trans (hb2.mono hB.size)
  clear hb2 CW
  clear hq6 hown HP7 hbl HBA
  have ta0 := hq2.cell 0
  have ta1 := hq2.cell 1
  have ta2 := hq2.cell 2
  have ta3 := hq2.cell 3
  have ta4 := hq2.cell 4
  simp only [List.getElem?_toArray, List.getElem?_cons_zero, List.getElem?_cons_succ] at ta0 ta1 ta2 ta3 ta4
  have tf0 := hq2.frozen 0
  have tf1 := hq2.frozen 1
  have tf2 := hq2.frozen 2
  have tf3 := hq2.frozen 3
  have tf4 := hq2.frozen 4
  have ha0 := hq3.cell 0
  have ha1 := hq3.cell 1
  have ha2 := hq3.cell 2
  have ha3 := hq3.cell 3
  have ha4 := hq3.cell 4
  have ha5 := hq3.cell 5
  have ha6 := hq3.cell 6
  have ha7 := hq3.cell 7
  have ha8 := hq3.cell 8
  have ha9 := hq3.cell 9
  have ha10 := hq3.cell 10
  simp only [List.getElem?_toArray, List.getElem?_cons_zero, List.getElem?_cons_succ] at ha0 ha1 ha2 ha3 ha4 ha5 ha6 ha7 ha8 ha9 ha10
  have hf0 := hq3.frozen 0
  have hf1 := hq3.frozen 1
  have hf2 := hq3.frozen 2
  have hf3 := hq3.frozen 3
  have hf4 := hq3.frozen 4
  have hf5 := hq3.frozen 5
  have hf6 := hq3.frozen 6
  have hf7 := hq3.frozen 7
  have hf8 := hq3.frozen 8
  have hf9 := hq3.frozen 9
  have hf10 := hq3.frozen 10
  go_wp2_with fail
  obtain ⟨wz, hwz⟩ : ∃ wz, wz = ((((((((((((((((w2).setCell ⟨q, 0, none⟩ (.int .u32 0)).setCell ⟨q, 1, none⟩ (.int .u32 0)).setCell ⟨q, 2, none⟩ (.int .i64 0)).setCell ⟨q, 3, none⟩ (.int .i64 0)).setCell ⟨q, 4, none⟩ (.int .i64 0)).setCell ⟨q + 1, 0, none⟩ (.int .i64 0)).setCell ⟨q + 1, 1, none⟩ (.int .i64 0)).setCell ⟨q + 1, 2, none⟩ (.int .i64 0)).setCell ⟨q + 1, 3, none⟩ (.int .i64 0)).setCell ⟨q + 1, 4, none⟩ (.int .i64 0)).setCell ⟨q + 1, 5, none⟩ (.int .i64 0)).setCell ⟨q + 1, 6, none⟩ (.int .i64 0)).setCell ⟨q + 1, 7, none⟩ (.int .i64 0)).setCell ⟨q + 1, 8, none⟩ (.int .i64 0)).setCell ⟨q + 1, 9, none⟩ (.int .u32 0)).setCell ⟨q + 1, 10, none⟩ (.int .u32 0) := ⟨_, rfl⟩
  have hz2 : Blk wz q 43 #[.int .u32 0, .int .u32 0, .int .i64 0, .int .i64 0, .int .i64 0] := by
    rw [hwz]
    have hset := ((((((((((((((((hq2).set_ 0 (.int .u32 0)).set_ 1 (.int .u32 0)).set_ 2 (.int .i64 0)).set_ 3 (.int .i64 0)).set_ 4 (.int .i64 0)).far (p := ⟨q + 1, 0, none⟩) (by show q ≠ q + 1; omega) (.int .i64 0)).far (p := ⟨q + 1, 1, none⟩) (by show q ≠ q + 1; omega) (.int .i64 0)).far (p := ⟨q + 1, 2, none⟩) (by show q ≠ q + 1; omega) (.int .i64 0)).far (p := ⟨q + 1, 3, none⟩) (by show q ≠ q + 1; omega) (.int .i64 0)).far (p := ⟨q + 1, 4, none⟩) (by show q ≠ q + 1; omega) (.int .i64 0)).far (p := ⟨q + 1, 5, none⟩) (by show q ≠ q + 1; omega) (.int .i64 0)).far (p := ⟨q + 1, 6, none⟩) (by show q ≠ q + 1; omega) (.int .i64 0)).far (p := ⟨q + 1, 7, none⟩) (by show q ≠ q + 1; omega) (.int .i64 0)).far (p := ⟨q + 1, 8, none⟩) (by show q ≠ q + 1; omega) (.int .i64 0)).far (p := ⟨q + 1, 9, none⟩) (by show q ≠ q + 1; omega) (.int .u32 0)).far (p := ⟨q + 1, 10, none⟩) (by show q ≠ q + 1; omega) (.int .u32 0)
    simp only [List.setIfInBounds_toArray, List.set_cons_zero, List.set_cons_succ] at hset
    exact hset
  have hz3 : Blk wz (q + 1) 24 #[.int .i64 0, .int .i64 0, .int .i64 0, .int .i64 0, .int .i64 0, .int .i64 0, .int .i64 0, .int .i64 0, .int .i64 0, .int .u32 0, .int .u32 0] := by
    rw [hwz]
    have hset := ((((((((((((((((hq3).far (p := ⟨q, 0, none⟩) (by show q + 1 ≠ q; omega) (.int .u32 0)).far (p := ⟨q, 1, none⟩) (by show q + 1 ≠ q; omega) (.int .u32 0)).far (p := ⟨q, 2, none⟩) (by show q + 1 ≠ q; omega) (.int .i64 0)).far (p := ⟨q, 3, none⟩) (by show q + 1 ≠ q; omega) (.int .i64 0)).far (p := ⟨q, 4, none⟩) (by show q + 1 ≠ q; omega) (.int .i64 0)).set_ 0 (.int .i64 0)).set_ 1 (.int .i64 0)).set_ 2 (.int .i64 0)).set_ 3 (.int .i64 0)).set_ 4 (.int .i64 0)).set_ 5 (.int .i64 0)).set_ 6 (.int .i64 0)).set_ 7 (.int .i64 0)).set_ 8 (.int .i64 0)).set_ 9 (.int .u32 0)).set_ 10 (.int .u32 0)
    simp only [List.setIfInBounds_toArray, List.set_cons_zero, List.set_cons_succ] at hset
    exact hset
  have hBz : Below w.heap.size w wz := by
    rw [hwz]
    exact ((((((((((((((((hB).setCell (p := ⟨q, 0, none⟩) (by rw [HQ.out]; exact Nat.le_refl _) _).setCell (p := ⟨q, 1, none⟩) (by rw [HQ.out]; exact Nat.le_refl _) _).setCell (p := ⟨q, 2, none⟩) (by rw [HQ.out]; exact Nat.le_refl _) _).setCell (p := ⟨q, 3, none⟩) (by rw [HQ.out]; exact Nat.le_refl _) _).setCell (p := ⟨q, 4, none⟩) (by rw [HQ.out]; exact Nat.le_refl _) _).setCell (p := ⟨q + 1, 0, none⟩) (by rw [HQ.out]; exact Nat.le_succ _) _).setCell (p := ⟨q + 1, 1, none⟩) (by rw [HQ.out]; exact Nat.le_succ _) _).setCell (p := ⟨q + 1, 2, none⟩) (by rw [HQ.out]; exact Nat.le_succ _) _).setCell (p := ⟨q + 1, 3, none⟩) (by rw [HQ.out]; exact Nat.le_succ _) _).setCell (p := ⟨q + 1, 4, none⟩) (by rw [HQ.out]; exact Nat.le_succ _) _).setCell (p := ⟨q + 1, 5, none⟩) (by rw [HQ.out]; exact Nat.le_succ _) _).setCell (p := ⟨q + 1, 6, none⟩) (by rw [HQ.out]; exact Nat.le_succ _) _).setCell (p := ⟨q + 1, 7, none⟩) (by rw [HQ.out]; exact Nat.le_succ _) _).setCell (p := ⟨q + 1, 8, none⟩) (by rw [HQ.out]; exact Nat.le_succ _) _).setCell (p := ⟨q + 1, 9, none⟩) (by rw [HQ.out]; exact Nat.le_succ _) _).setCell (p := ⟨q + 1, 10, none⟩) (by rw [HQ.out]; exact Nat.le_succ _) _
  rw [← hwz]
  clear hwz
  have ra0 := hz2.cell 0
  have ra1 := hz2.cell 1
  have ra2 := hz2.cell 2
  have ra3 := hz2.cell 3
  have ra4 := hz2.cell 4
  simp only [List.getElem?_toArray, List.getElem?_cons_zero, List.getElem?_cons_succ] at ra0 ra1 ra2 ra3 ra4
  have rb0 := hz3.cell 0
  have rb1 := hz3.cell 1
  have rb2 := hz3.cell 2
  have rb3 := hz3.cell 3
  have rb4 := hz3.cell 4
  have rb5 := hz3.cell 5
  have rb6 := hz3.cell 6
  have rb7 := hz3.cell 7
  have rb8 := hz3.cell 8
  have rb9 := hz3.cell 9
  have rb10 := hz3.cell 10
  simp only [List.getElem?_toArray, List.getElem?_cons_zero, List.getElem?_cons_succ] at rb0 rb1 rb2 rb3 rb4 rb5 rb6 rb7 rb8 rb9 rb10
  exact bodyPost_ret (v := .tuple #[.agg #[.int .u32 0, .int .u32 0, .int .i64 0, .int .i64 0, .int .i64 0], .agg #[.int .i64 0, .int .i64 0, .int .i64 0, .int .i64 0, .int .i64 0, .int .i64 0, .int .i64 0, .int .i64 0, .int .i64 0, .int .u32 0, .int .u32 0], .slice none 0 0, .int .i64 6]) (by simp [results, Try.results48, go_sem, ra0, ra1, ra2, ra3, ra4, rb0, rb1, rb2, rb3, rb4, rb5, rb6, rb7, rb8, rb9, rb10]) rfl ⟨HR.out _, hBz⟩

set_option maxHeartbeats 4000000 in
set_option maxRecDepth 100000 in
theorem within_no8 (A : Option Addr) (n c B : Nat) (l : List Nat) (w : World) (hr : Reads w B 1 A n (bv l)) (hB0 : B ≤ w.heap.size) (hn : n ≤ 140737488355328) (hnc : n ≤ c) (ha : AllB l) (hyes : whyP l = 0) (hwh : wholeL l = true) (hp6 : at' l 9 ≠ 6) (hp17 : at' l 9 ≠ 17) :
    Calls Try.prog 48 #[.slice A n c] w fun e w' => WithinRet l w e w' ∧ Below w.heap.size w w' := by
  have CP := Lib.hid (fun w' (hb : Below w.heap.size w w') => parse_any A n c w'.heap.size l w' ((hr.below (hb.mono hB0)).more (Nat.le_trans hB0 hb.size)) (Nat.le_refl _) hn hnc ha)
  have HR : Hid (∀ w', WithinRet l w (.returned (.tuple #[.agg #[.int .u32 0, .int .u32 0, .int .i64 0, .int .i64 0, .int .i64 0], .agg #[.int .i64 0, .int .i64 0, .int .i64 0, .int .i64 0, .int .i64 0, .int .i64 0, .int .i64 0, .int .i64 0, .int .i64 0, .int .u32 0, .int .u32 0], .slice none 0 0, .int .i64 8])) w') := fun w' => .inr (by
    have hT : whyT l = 8 := by
      unfold whyT
      rw [if_neg (fun h => h hyes), if_neg (by rw [hwh]; decide), if_neg hp6, if_neg hp17]
    rw [hT]
    exact ⟨by decide, rfl⟩)
  have HP7 := Lib.hid (And.intro hp6 hp17)
  clear hp6 hp17
  obtain ⟨y0, y1, y2, y3, f, o, y6, y7, y8, y9, y10, hvals, hf, ho, h7⟩ : ∃ y0 y1 y2 y3 f o y6 y7 y8 y9 y10 : Nat, (hdP l).vals = #[.int .i64 (y0 : Int), .int .i64 (y1 : Int), .int .i64 (y2 : Int), .int .i64 (y3 : Int), .int .i64 (f : Int), .int .i64 (o : Int), .int .i64 (y6 : Int), .int .i64 (y7 : Int), .int .i64 (y8 : Int), .int .u32 (y9 : Int), .int .u32 (y10 : Int)] ∧ f = two' l 6 / 8192 ∧ o = two' l 6 % 8192 ∧ y7 = at' l 9 := ⟨_, _, _, _, _, _, _, _, _, _, _, rfl, rfl, rfl, rfl⟩
  have hfl : f < 65536 := by have := two_lt ha 6; omega
  have hol : o < 65536 := by omega
  have CW := Lib.hid (fun w' => whole_any y0 y1 y2 y3 f o y6 y7 y8 y9 y10 w' hfl hol)
  have hw1 : wholeN f o = wholeL l := by rw [hf, ho]; rfl
  rw [hw1, hwh] at CW
  have HY := Lib.hid (And.intro hyes hvals)
  have hbz : (((0 : Nat) : Int) != 0) = false := by decide
  rw [← h7] at HP7
  have HBA : Hid (AllB (bodyP l)) := (ha.take _).drop _
  have hbl : lenP l - 4 * ihlP l ≤ 140737488355328 := by have := two_lt ha 2; unfold lenP; omega
  obtain ⟨m, hm⟩ : ∃ m, m = lenP l - 4 * ihlP l := ⟨_, rfl⟩
  rw [← hm] at hbl
  have HM := Lib.hid hm
  clear hr hyes hvals hf ho h7 hw1 hfl hol hm hwh
  go_enter Try.func48, Try.ntmps48
  go_wp2_with fail
  have hq2 := (Blk.new w 43 #[.int .u32 0, .int .u32 0, .int .i64 0, .int .i64 0, .int .i64 0]).alloc (.cells #[.int .i64 0, .int .i64 0, .int .i64 0, .int .i64 0, .int .i64 0, .int .i64 0, .int .i64 0, .int .i64 0, .int .i64 0, .int .u32 0, .int .u32 0] 24)
  have hq3 : Blk ((w.alloc (.cells #[.int .u32 0, .int .u32 0, .int .i64 0, .int .i64 0, .int .i64 0] 43)).alloc (.cells #[.int .i64 0, .int .i64 0, .int .i64 0, .int .i64 0, .int .i64 0, .int .i64 0, .int .i64 0, .int .i64 0, .int .i64 0, .int .u32 0, .int .u32 0] 24)) (w.heap.size + 1) 24 #[.int .i64 0, .int .i64 0, .int .i64 0, .int .i64 0, .int .i64 0, .int .i64 0, .int .i64 0, .int .i64 0, .int .i64 0, .int .u32 0, .int .u32 0] := Blk.new_ (by simp)
  have hB := ((Below.refl w.heap.size w).alloc (Nat.le_refl _) (.cells #[.int .u32 0, .int .u32 0, .int .i64 0, .int .i64 0, .int .i64 0] 43)).alloc (by simp) (.cells #[.int .i64 0, .int .i64 0, .int .i64 0, .int .i64 0, .int .i64 0, .int .i64 0, .int .i64 0, .int .i64 0, .int .i64 0, .int .u32 0, .int .u32 0] 24)
  refine (CP.out _ hB).mono ?_
  rintro e w1 ⟨hret, hb1⟩
  obtain ⟨A1, c1, rfl, hown⟩ := hret.yes HY.out.1
  rw [HY.out.2, ← HM.out]
  rw [← HM.out] at hown
  have hq2 := hq2.below hb1 hq2.lt
  have hq3 := hq3.below hb1 hq3.lt
  have hB := hB.trans (hb1.mono hB.size)
  have hq2 := hq2.alloc (.cells #[.int .i64 (y0 : Int), .int .i64 (y1 : Int), .int .i64 (y2 : Int), .int .i64 (y3 : Int), .int .i64 (f : Int), .int .i64 (o : Int), .int .i64 (y6 : Int), .int .i64 (y7 : Int), .int .i64 (y8 : Int), .int .u32 (y9 : Int), .int .u32 (y10 : Int)] 24)
  have hq3 := hq3.alloc (.cells #[.int .i64 (y0 : Int), .int .i64 (y1 : Int), .int .i64 (y2 : Int), .int .i64 (y3 : Int), .int .i64 (f : Int), .int .i64 (o : Int), .int .i64 (y6 : Int), .int .i64 (y7 : Int), .int .i64 (y8 : Int), .int .u32 (y9 : Int), .int .u32 (y10 : Int)] 24)
  have hB := hB.alloc hB.size (.cells #[.int .i64 (y0 : Int), .int .i64 (y1 : Int), .int .i64 (y2 : Int), .int .i64 (y3 : Int), .int .i64 (f : Int), .int .i64 (o : Int), .int .i64 (y6 : Int), .int .i64 (y7 : Int), .int .i64 (y8 : Int), .int .u32 (y9 : Int), .int .u32 (y10 : Int)] 24)
  have hq6 := Blk.new w1 24 #[.int .i64 (y0 : Int), .int .i64 (y1 : Int), .int .i64 (y2 : Int), .int .i64 (y3 : Int), .int .i64 (f : Int), .int .i64 (o : Int), .int .i64 (y6 : Int), .int .i64 (y7 : Int), .int .i64 (y8 : Int), .int .u32 (y9 : Int), .int .u32 (y10 : Int)]
  have hown := hown.alloc (.cells #[.int .i64 (y0 : Int), .int .i64 (y1 : Int), .int .i64 (y2 : Int), .int .i64 (y3 : Int), .int .i64 (f : Int), .int .i64 (o : Int), .int .i64 (y6 : Int), .int .i64 (y7 : Int), .int .i64 (y8 : Int), .int .u32 (y9 : Int), .int .u32 (y10 : Int)] 24)
  clear hret hb1 CP
  obtain ⟨q, hq⟩ : ∃ q, q = w.heap.size := ⟨_, rfl⟩
  rw [← hq] at hq2 hq3 ⊢
  have HQ := Lib.hid hq
  clear hq
  go_wp2_with fail
  refine (CW.out _).mono ?_
  rintro e w2 ⟨rfl, hb2⟩
  have hq2 := hq2.below hb2 hq2.lt
  have hq3 := hq3.below hb2 hq3.lt
  have hq6 := hq6.below hb2 hq6.lt
  have hown := own_below hown hb2
  have hB := hB.trans (hb2.mono hB.size)
  clear hb2 CW
  have hc7 := hq6.cell 7
  simp only [List.getElem?_toArray, List.getElem?_cons_zero, List.getElem?_cons_succ] at hc7
  have hb6 : ((y7 : Int) == 6) = false := by have := HP7.out.1; simp; omega
  have hb17 : ((y7 : Int) == 17) = false := by have := HP7.out.2; simp; omega
  clear hq6 hown hbl HBA HP7
  have ta0 := hq2.cell 0
  have ta1 := hq2.cell 1
  have ta2 := hq2.cell 2
  have ta3 := hq2.cell 3
  have ta4 := hq2.cell 4
  simp only [List.getElem?_toArray, List.getElem?_cons_zero, List.getElem?_cons_succ] at ta0 ta1 ta2 ta3 ta4
  have tf0 := hq2.frozen 0
  have tf1 := hq2.frozen 1
  have tf2 := hq2.frozen 2
  have tf3 := hq2.frozen 3
  have tf4 := hq2.frozen 4
  have ha0 := hq3.cell 0
  have ha1 := hq3.cell 1
  have ha2 := hq3.cell 2
  have ha3 := hq3.cell 3
  have ha4 := hq3.cell 4
  have ha5 := hq3.cell 5
  have ha6 := hq3.cell 6
  have ha7 := hq3.cell 7
  have ha8 := hq3.cell 8
  have ha9 := hq3.cell 9
  have ha10 := hq3.cell 10
  simp only [List.getElem?_toArray, List.getElem?_cons_zero, List.getElem?_cons_succ] at ha0 ha1 ha2 ha3 ha4 ha5 ha6 ha7 ha8 ha9 ha10
  have hf0 := hq3.frozen 0
  have hf1 := hq3.frozen 1
  have hf2 := hq3.frozen 2
  have hf3 := hq3.frozen 3
  have hf4 := hq3.frozen 4
  have hf5 := hq3.frozen 5
  have hf6 := hq3.frozen 6
  have hf7 := hq3.frozen 7
  have hf8 := hq3.frozen 8
  have hf9 := hq3.frozen 9
  have hf10 := hq3.frozen 10
  go_wp2_with fail
  obtain ⟨wz, hwz⟩ : ∃ wz, wz = ((((((((((((((((w2).setCell ⟨q, 0, none⟩ (.int .u32 0)).setCell ⟨q, 1, none⟩ (.int .u32 0)).setCell ⟨q, 2, none⟩ (.int .i64 0)).setCell ⟨q, 3, none⟩ (.int .i64 0)).setCell ⟨q, 4, none⟩ (.int .i64 0)).setCell ⟨q + 1, 0, none⟩ (.int .i64 0)).setCell ⟨q + 1, 1, none⟩ (.int .i64 0)).setCell ⟨q + 1, 2, none⟩ (.int .i64 0)).setCell ⟨q + 1, 3, none⟩ (.int .i64 0)).setCell ⟨q + 1, 4, none⟩ (.int .i64 0)).setCell ⟨q + 1, 5, none⟩ (.int .i64 0)).setCell ⟨q + 1, 6, none⟩ (.int .i64 0)).setCell ⟨q + 1, 7, none⟩ (.int .i64 0)).setCell ⟨q + 1, 8, none⟩ (.int .i64 0)).setCell ⟨q + 1, 9, none⟩ (.int .u32 0)).setCell ⟨q + 1, 10, none⟩ (.int .u32 0) := ⟨_, rfl⟩
  have hz2 : Blk wz q 43 #[.int .u32 0, .int .u32 0, .int .i64 0, .int .i64 0, .int .i64 0] := by
    rw [hwz]
    have hset := ((((((((((((((((hq2).set_ 0 (.int .u32 0)).set_ 1 (.int .u32 0)).set_ 2 (.int .i64 0)).set_ 3 (.int .i64 0)).set_ 4 (.int .i64 0)).far (p := ⟨q + 1, 0, none⟩) (by show q ≠ q + 1; omega) (.int .i64 0)).far (p := ⟨q + 1, 1, none⟩) (by show q ≠ q + 1; omega) (.int .i64 0)).far (p := ⟨q + 1, 2, none⟩) (by show q ≠ q + 1; omega) (.int .i64 0)).far (p := ⟨q + 1, 3, none⟩) (by show q ≠ q + 1; omega) (.int .i64 0)).far (p := ⟨q + 1, 4, none⟩) (by show q ≠ q + 1; omega) (.int .i64 0)).far (p := ⟨q + 1, 5, none⟩) (by show q ≠ q + 1; omega) (.int .i64 0)).far (p := ⟨q + 1, 6, none⟩) (by show q ≠ q + 1; omega) (.int .i64 0)).far (p := ⟨q + 1, 7, none⟩) (by show q ≠ q + 1; omega) (.int .i64 0)).far (p := ⟨q + 1, 8, none⟩) (by show q ≠ q + 1; omega) (.int .i64 0)).far (p := ⟨q + 1, 9, none⟩) (by show q ≠ q + 1; omega) (.int .u32 0)).far (p := ⟨q + 1, 10, none⟩) (by show q ≠ q + 1; omega) (.int .u32 0)
    simp only [List.setIfInBounds_toArray, List.set_cons_zero, List.set_cons_succ] at hset
    exact hset
  have hz3 : Blk wz (q + 1) 24 #[.int .i64 0, .int .i64 0, .int .i64 0, .int .i64 0, .int .i64 0, .int .i64 0, .int .i64 0, .int .i64 0, .int .i64 0, .int .u32 0, .int .u32 0] := by
    rw [hwz]
    have hset := ((((((((((((((((hq3).far (p := ⟨q, 0, none⟩) (by show q + 1 ≠ q; omega) (.int .u32 0)).far (p := ⟨q, 1, none⟩) (by show q + 1 ≠ q; omega) (.int .u32 0)).far (p := ⟨q, 2, none⟩) (by show q + 1 ≠ q; omega) (.int .i64 0)).far (p := ⟨q, 3, none⟩) (by show q + 1 ≠ q; omega) (.int .i64 0)).far (p := ⟨q, 4, none⟩) (by show q + 1 ≠ q; omega) (.int .i64 0)).set_ 0 (.int .i64 0)).set_ 1 (.int .i64 0)).set_ 2 (.int .i64 0)).set_ 3 (.int .i64 0)).set_ 4 (.int .i64 0)).set_ 5 (.int .i64 0)).set_ 6 (.int .i64 0)).set_ 7 (.int .i64 0)).set_ 8 (.int .i64 0)).set_ 9 (.int .u32 0)).set_ 10 (.int .u32 0)
    simp only [List.setIfInBounds_toArray, List.set_cons_zero, List.set_cons_succ] at hset
    exact hset
  have hBz : Below w.heap.size w wz := by
    rw [hwz]
    exact ((((((((((((((((hB).setCell (p := ⟨q, 0, none⟩) (by rw [HQ.out]; exact Nat.le_refl _) _).setCell (p := ⟨q, 1, none⟩) (by rw [HQ.out]; exact Nat.le_refl _) _).setCell (p := ⟨q, 2, none⟩) (by rw [HQ.out]; exact Nat.le_refl _) _).setCell (p := ⟨q, 3, none⟩) (by rw [HQ.out]; exact Nat.le_refl _) _).setCell (p := ⟨q, 4, none⟩) (by rw [HQ.out]; exact Nat.le_refl _) _).setCell (p := ⟨q + 1, 0, none⟩) (by rw [HQ.out]; exact Nat.le_succ _) _).setCell (p := ⟨q + 1, 1, none⟩) (by rw [HQ.out]; exact Nat.le_succ _) _).setCell (p := ⟨q + 1, 2, none⟩) (by rw [HQ.out]; exact Nat.le_succ _) _).setCell (p := ⟨q + 1, 3, none⟩) (by rw [HQ.out]; exact Nat.le_succ _) _).setCell (p := ⟨q + 1, 4, none⟩) (by rw [HQ.out]; exact Nat.le_succ _) _).setCell (p := ⟨q + 1, 5, none⟩) (by rw [HQ.out]; exact Nat.le_succ _) _).setCell (p := ⟨q + 1, 6, none⟩) (by rw [HQ.out]; exact Nat.le_succ _) _).setCell (p := ⟨q + 1, 7, none⟩) (by rw [HQ.out]; exact Nat.le_succ _) _).setCell (p := ⟨q + 1, 8, none⟩) (by rw [HQ.out]; exact Nat.le_succ _) _).setCell (p := ⟨q + 1, 9, none⟩) (by rw [HQ.out]; exact Nat.le_succ _) _).setCell (p := ⟨q + 1, 10, none⟩) (by rw [HQ.out]; exact Nat.le_succ _) _
  rw [← hwz]
  clear hwz
  have ra0 := hz2.cell 0
  have ra1 := hz2.cell 1
  have ra2 := hz2.cell 2
  have ra3 := hz2.cell 3
  have ra4 := hz2.cell 4
  simp only [List.getElem?_toArray, List.getElem?_cons_zero, List.getElem?_cons_succ] at ra0 ra1 ra2 ra3 ra4
  have rb0 := hz3.cell 0
  have rb1 := hz3.cell 1
  have rb2 := hz3.cell 2
  have rb3 := hz3.cell 3
  have rb4 := hz3.cell 4
  have rb5 := hz3.cell 5
  have rb6 := hz3.cell 6
  have rb7 := hz3.cell 7
  have rb8 := hz3.cell 8
  have rb9 := hz3.cell 9
  have rb10 := hz3.cell 10
  simp only [List.getElem?_toArray, List.getElem?_cons_zero, List.getElem?_cons_succ] at rb0 rb1 rb2 rb3 rb4 rb5 rb6 rb7 rb8 rb9 rb10
  exact bodyPost_ret (v := .tuple #[.agg #[.int .u32 0, .int .u32 0, .int .i64 0, .int .i64 0, .int .i64 0], .agg #[.int .i64 0, .int .i64 0, .int .i64 0, .int .i64 0, .int .i64 0, .int .i64 0, .int .i64 0, .int .i64 0, .int .i64 0, .int .u32 0, .int .u32 0], .slice none 0 0, .int .i64 8]) (by simp [results, Try.results48, go_sem, ra0, ra1, ra2, ra3, ra4, rb0, rb1, rb2, rb3, rb4, rb5, rb6, rb7, rb8, rb9, rb10]) rfl ⟨HR.out _, hBz⟩

set_option maxHeartbeats 4000000 in
set_option maxRecDepth 100000 in
theorem within_no9t (A : Option Addr) (n c B : Nat) (l : List Nat) (w : World) (hr : Reads w B 1 A n (bv l)) (hB0 : B ≤ w.heap.size) (hn : n ≤ 140737488355328) (hnc : n ≤ c) (ha : AllB l) (hyes : whyP l = 0) (hwh : wholeL l = true) (hp6 : at' l 9 = 6) (htc : tcpB (bodyP l) = false) :
    Calls Try.prog 48 #[.slice A n c] w fun e w' => WithinRet l w e w' ∧ Below w.heap.size w w' := by
  have CP := Lib.hid (fun w' (hb : Below w.heap.size w w') => parse_any A n c w'.heap.size l w' ((hr.below (hb.mono hB0)).more (Nat.le_trans hB0 hb.size)) (Nat.le_refl _) hn hnc ha)
  have HR : Hid (∀ w', WithinRet l w (.returned (.tuple #[.agg #[.int .u32 0, .int .u32 0, .int .i64 0, .int .i64 0, .int .i64 0], .agg #[.int .i64 0, .int .i64 0, .int .i64 0, .int .i64 0, .int .i64 0, .int .i64 0, .int .i64 0, .int .i64 0, .int .i64 0, .int .u32 0, .int .u32 0], .slice none 0 0, .int .i64 9])) w') := fun w' => .inr (by
    have hT : whyT l = 9 := by
      unfold whyT
      rw [if_neg (fun h => h hyes), if_neg (by rw [hwh]; decide), if_pos hp6, htc]
      rfl
    rw [hT]
    exact ⟨by decide, rfl⟩)
  have HP7 := Lib.hid hp6
  have HTC := Lib.hid htc
  clear hp6 htc
  obtain ⟨y0, y1, y2, y3, f, o, y6, y7, y8, y9, y10, hvals, hf, ho, h7⟩ : ∃ y0 y1 y2 y3 f o y6 y7 y8 y9 y10 : Nat, (hdP l).vals = #[.int .i64 (y0 : Int), .int .i64 (y1 : Int), .int .i64 (y2 : Int), .int .i64 (y3 : Int), .int .i64 (f : Int), .int .i64 (o : Int), .int .i64 (y6 : Int), .int .i64 (y7 : Int), .int .i64 (y8 : Int), .int .u32 (y9 : Int), .int .u32 (y10 : Int)] ∧ f = two' l 6 / 8192 ∧ o = two' l 6 % 8192 ∧ y7 = at' l 9 := ⟨_, _, _, _, _, _, _, _, _, _, _, rfl, rfl, rfl, rfl⟩
  have hfl : f < 65536 := by have := two_lt ha 6; omega
  have hol : o < 65536 := by omega
  have CW := Lib.hid (fun w' => whole_any y0 y1 y2 y3 f o y6 y7 y8 y9 y10 w' hfl hol)
  have hw1 : wholeN f o = wholeL l := by rw [hf, ho]; rfl
  rw [hw1, hwh] at CW
  have HY := Lib.hid (And.intro hyes hvals)
  have hbz : (((0 : Nat) : Int) != 0) = false := by decide
  rw [← h7] at HP7
  have HBA : Hid (AllB (bodyP l)) := (ha.take _).drop _
  have hbl : lenP l - 4 * ihlP l ≤ 140737488355328 := by have := two_lt ha 2; unfold lenP; omega
  obtain ⟨m, hm⟩ : ∃ m, m = lenP l - 4 * ihlP l := ⟨_, rfl⟩
  rw [← hm] at hbl
  have HM := Lib.hid hm
  clear hr hyes hvals hf ho h7 hw1 hfl hol hm hwh
  go_enter Try.func48, Try.ntmps48
  go_wp2_with fail
  have hq2 := (Blk.new w 43 #[.int .u32 0, .int .u32 0, .int .i64 0, .int .i64 0, .int .i64 0]).alloc (.cells #[.int .i64 0, .int .i64 0, .int .i64 0, .int .i64 0, .int .i64 0, .int .i64 0, .int .i64 0, .int .i64 0, .int .i64 0, .int .u32 0, .int .u32 0] 24)
  have hq3 : Blk ((w.alloc (.cells #[.int .u32 0, .int .u32 0, .int .i64 0, .int .i64 0, .int .i64 0] 43)).alloc (.cells #[.int .i64 0, .int .i64 0, .int .i64 0, .int .i64 0, .int .i64 0, .int .i64 0, .int .i64 0, .int .i64 0, .int .i64 0, .int .u32 0, .int .u32 0] 24)) (w.heap.size + 1) 24 #[.int .i64 0, .int .i64 0, .int .i64 0, .int .i64 0, .int .i64 0, .int .i64 0, .int .i64 0, .int .i64 0, .int .i64 0, .int .u32 0, .int .u32 0] := Blk.new_ (by simp)
  have hB := ((Below.refl w.heap.size w).alloc (Nat.le_refl _) (.cells #[.int .u32 0, .int .u32 0, .int .i64 0, .int .i64 0, .int .i64 0] 43)).alloc (by simp) (.cells #[.int .i64 0, .int .i64 0, .int .i64 0, .int .i64 0, .int .i64 0, .int .i64 0, .int .i64 0, .int .i64 0, .int .i64 0, .int .u32 0, .int .u32 0] 24)
  refine (CP.out _ hB).mono ?_
  rintro e w1 ⟨hret, hb1⟩
  obtain ⟨A1, c1, rfl, hown⟩ := hret.yes HY.out.1
  rw [HY.out.2, ← HM.out]
  rw [← HM.out] at hown
  have hq2 := hq2.below hb1 hq2.lt
  have hq3 := hq3.below hb1 hq3.lt
  have hB := hB.trans (hb1.mono hB.size)
  have hq2 := hq2.alloc (.cells #[.int .i64 (y0 : Int), .int .i64 (y1 : Int), .int .i64 (y2 : Int), .int .i64 (y3 : Int), .int .i64 (f : Int), .int .i64 (o : Int), .int .i64 (y6 : Int), .int .i64 (y7 : Int), .int .i64 (y8 : Int), .int .u32 (y9 : Int), .int .u32 (y10 : Int)] 24)
  have hq3 := hq3.alloc (.cells #[.int .i64 (y0 : Int), .int .i64 (y1 : Int), .int .i64 (y2 : Int), .int .i64 (y3 : Int), .int .i64 (f : Int), .int .i64 (o : Int), .int .i64 (y6 : Int), .int .i64 (y7 : Int), .int .i64 (y8 : Int), .int .u32 (y9 : Int), .int .u32 (y10 : Int)] 24)
  have hB := hB.alloc hB.size (.cells #[.int .i64 (y0 : Int), .int .i64 (y1 : Int), .int .i64 (y2 : Int), .int .i64 (y3 : Int), .int .i64 (f : Int), .int .i64 (o : Int), .int .i64 (y6 : Int), .int .i64 (y7 : Int), .int .i64 (y8 : Int), .int .u32 (y9 : Int), .int .u32 (y10 : Int)] 24)
  have hq6 := Blk.new w1 24 #[.int .i64 (y0 : Int), .int .i64 (y1 : Int), .int .i64 (y2 : Int), .int .i64 (y3 : Int), .int .i64 (f : Int), .int .i64 (o : Int), .int .i64 (y6 : Int), .int .i64 (y7 : Int), .int .i64 (y8 : Int), .int .u32 (y9 : Int), .int .u32 (y10 : Int)]
  have hown := hown.alloc (.cells #[.int .i64 (y0 : Int), .int .i64 (y1 : Int), .int .i64 (y2 : Int), .int .i64 (y3 : Int), .int .i64 (f : Int), .int .i64 (o : Int), .int .i64 (y6 : Int), .int .i64 (y7 : Int), .int .i64 (y8 : Int), .int .u32 (y9 : Int), .int .u32 (y10 : Int)] 24)
  clear hret hb1 CP
  obtain ⟨q, hq⟩ : ∃ q, q = w.heap.size := ⟨_, rfl⟩
  rw [← hq] at hq2 hq3 ⊢
  have HQ := Lib.hid hq
  clear hq
  go_wp2_with fail
  refine (CW.out _).mono ?_
  rintro e w2 ⟨rfl, hb2⟩
  have hq2 := hq2.below hb2 hq2.lt
  have hq3 := hq3.below hb2 hq3.lt
  have hq6 := hq6.below hb2 hq6.lt
  have hown := own_below hown hb2
  have hB := hB.trans (hb2.mono hB.size)
  clear hb2 CW
  have hc7 := hq6.cell 7
  simp only [List.getElem?_toArray, List.getElem?_cons_zero, List.getElem?_cons_succ] at hc7
  have hb6 : ((y7 : Int) == 6) = true := by have := HP7.out; simp; omega
  have CT := Lib.hid (tcp_any A1 m c1 w2.heap.size (bodyP l) w2 (Reads.of_own hown) hbl HBA.out)
  rw [HTC.out] at CT
  clear hq6 hown hbl HBA HP7
  go_wp2_with fail
  refine CT.out.mono ?_
  rintro e w' ⟨rfl, rfl⟩
  clear CT
  have ta0 := hq2.cell 0
  have ta1 := hq2.cell 1
  have ta2 := hq2.cell 2
  have ta3 := hq2.cell 3
  have ta4 := hq2.cell 4
  simp only [List.getElem?_toArray, List.getElem?_cons_zero, List.getElem?_cons_succ] at ta0 ta1 ta2 ta3 ta4
  have tf0 := hq2.frozen 0
  have tf1 := hq2.frozen 1
  have tf2 := hq2.frozen 2
  have tf3 := hq2.frozen 3
  have tf4 := hq2.frozen 4
  have ha0 := hq3.cell 0
  have ha1 := hq3.cell 1
  have ha2 := hq3.cell 2
  have ha3 := hq3.cell 3
  have ha4 := hq3.cell 4
  have ha5 := hq3.cell 5
  have ha6 := hq3.cell 6
  have ha7 := hq3.cell 7
  have ha8 := hq3.cell 8
  have ha9 := hq3.cell 9
  have ha10 := hq3.cell 10
  simp only [List.getElem?_toArray, List.getElem?_cons_zero, List.getElem?_cons_succ] at ha0 ha1 ha2 ha3 ha4 ha5 ha6 ha7 ha8 ha9 ha10
  have hf0 := hq3.frozen 0
  have hf1 := hq3.frozen 1
  have hf2 := hq3.frozen 2
  have hf3 := hq3.frozen 3
  have hf4 := hq3.frozen 4
  have hf5 := hq3.frozen 5
  have hf6 := hq3.frozen 6
  have hf7 := hq3.frozen 7
  have hf8 := hq3.frozen 8
  have hf9 := hq3.frozen 9
  have hf10 := hq3.frozen 10
  go_wp2_with fail
  obtain ⟨wz, hwz⟩ : ∃ wz, wz = ((((((((((((((((w2).setCell ⟨q, 0, none⟩ (.int .u32 0)).setCell ⟨q, 1, none⟩ (.int .u32 0)).setCell ⟨q, 2, none⟩ (.int .i64 0)).setCell ⟨q, 3, none⟩ (.int .i64 0)).setCell ⟨q, 4, none⟩ (.int .i64 0)).setCell ⟨q + 1, 0, none⟩ (.int .i64 0)).setCell ⟨q + 1, 1, none⟩ (.int .i64 0)).setCell ⟨q + 1, 2, none⟩ (.int .i64 0)).setCell ⟨q + 1, 3, none⟩ (.int .i64 0)).setCell ⟨q + 1, 4, none⟩ (.int .i64 0)).setCell ⟨q + 1, 5, none⟩ (.int .i64 0)).setCell ⟨q + 1, 6, none⟩ (.int .i64 0)).setCell ⟨q + 1, 7, none⟩ (.int .i64 0)).setCell ⟨q + 1, 8, none⟩ (.int .i64 0)).setCell ⟨q + 1, 9, none⟩ (.int .u32 0)).setCell ⟨q + 1, 10, none⟩ (.int .u32 0) := ⟨_, rfl⟩
  have hz2 : Blk wz q 43 #[.int .u32 0, .int .u32 0, .int .i64 0, .int .i64 0, .int .i64 0] := by
    rw [hwz]
    have hset := ((((((((((((((((hq2).set_ 0 (.int .u32 0)).set_ 1 (.int .u32 0)).set_ 2 (.int .i64 0)).set_ 3 (.int .i64 0)).set_ 4 (.int .i64 0)).far (p := ⟨q + 1, 0, none⟩) (by show q ≠ q + 1; omega) (.int .i64 0)).far (p := ⟨q + 1, 1, none⟩) (by show q ≠ q + 1; omega) (.int .i64 0)).far (p := ⟨q + 1, 2, none⟩) (by show q ≠ q + 1; omega) (.int .i64 0)).far (p := ⟨q + 1, 3, none⟩) (by show q ≠ q + 1; omega) (.int .i64 0)).far (p := ⟨q + 1, 4, none⟩) (by show q ≠ q + 1; omega) (.int .i64 0)).far (p := ⟨q + 1, 5, none⟩) (by show q ≠ q + 1; omega) (.int .i64 0)).far (p := ⟨q + 1, 6, none⟩) (by show q ≠ q + 1; omega) (.int .i64 0)).far (p := ⟨q + 1, 7, none⟩) (by show q ≠ q + 1; omega) (.int .i64 0)).far (p := ⟨q + 1, 8, none⟩) (by show q ≠ q + 1; omega) (.int .i64 0)).far (p := ⟨q + 1, 9, none⟩) (by show q ≠ q + 1; omega) (.int .u32 0)).far (p := ⟨q + 1, 10, none⟩) (by show q ≠ q + 1; omega) (.int .u32 0)
    simp only [List.setIfInBounds_toArray, List.set_cons_zero, List.set_cons_succ] at hset
    exact hset
  have hz3 : Blk wz (q + 1) 24 #[.int .i64 0, .int .i64 0, .int .i64 0, .int .i64 0, .int .i64 0, .int .i64 0, .int .i64 0, .int .i64 0, .int .i64 0, .int .u32 0, .int .u32 0] := by
    rw [hwz]
    have hset := ((((((((((((((((hq3).far (p := ⟨q, 0, none⟩) (by show q + 1 ≠ q; omega) (.int .u32 0)).far (p := ⟨q, 1, none⟩) (by show q + 1 ≠ q; omega) (.int .u32 0)).far (p := ⟨q, 2, none⟩) (by show q + 1 ≠ q; omega) (.int .i64 0)).far (p := ⟨q, 3, none⟩) (by show q + 1 ≠ q; omega) (.int .i64 0)).far (p := ⟨q, 4, none⟩) (by show q + 1 ≠ q; omega) (.int .i64 0)).set_ 0 (.int .i64 0)).set_ 1 (.int .i64 0)).set_ 2 (.int .i64 0)).set_ 3 (.int .i64 0)).set_ 4 (.int .i64 0)).set_ 5 (.int .i64 0)).set_ 6 (.int .i64 0)).set_ 7 (.int .i64 0)).set_ 8 (.int .i64 0)).set_ 9 (.int .u32 0)).set_ 10 (.int .u32 0)
    simp only [List.setIfInBounds_toArray, List.set_cons_zero, List.set_cons_succ] at hset
    exact hset
  have hBz : Below w.heap.size w wz := by
    rw [hwz]
    exact ((((((((((((((((hB).setCell (p := ⟨q, 0, none⟩) (by rw [HQ.out]; exact Nat.le_refl _) _).setCell (p := ⟨q, 1, none⟩) (by rw [HQ.out]; exact Nat.le_refl _) _).setCell (p := ⟨q, 2, none⟩) (by rw [HQ.out]; exact Nat.le_refl _) _).setCell (p := ⟨q, 3, none⟩) (by rw [HQ.out]; exact Nat.le_refl _) _).setCell (p := ⟨q, 4, none⟩) (by rw [HQ.out]; exact Nat.le_refl _) _).setCell (p := ⟨q + 1, 0, none⟩) (by rw [HQ.out]; exact Nat.le_succ _) _).setCell (p := ⟨q + 1, 1, none⟩) (by rw [HQ.out]; exact Nat.le_succ _) _).setCell (p := ⟨q + 1, 2, none⟩) (by rw [HQ.out]; exact Nat.le_succ _) _).setCell (p := ⟨q + 1, 3, none⟩) (by rw [HQ.out]; exact Nat.le_succ _) _).setCell (p := ⟨q + 1, 4, none⟩) (by rw [HQ.out]; exact Nat.le_succ _) _).setCell (p := ⟨q + 1, 5, none⟩) (by rw [HQ.out]; exact Nat.le_succ _) _).setCell (p := ⟨q + 1, 6, none⟩) (by rw [HQ.out]; exact Nat.le_succ _) _).setCell (p := ⟨q + 1, 7, none⟩) (by rw [HQ.out]; exact Nat.le_succ _) _).setCell (p := ⟨q + 1, 8, none⟩) (by rw [HQ.out]; exact Nat.le_succ _) _).setCell (p := ⟨q + 1, 9, none⟩) (by rw [HQ.out]; exact Nat.le_succ _) _).setCell (p := ⟨q + 1, 10, none⟩) (by rw [HQ.out]; exact Nat.le_succ _) _
  rw [← hwz]
  clear hwz
  have ra0 := hz2.cell 0
  have ra1 := hz2.cell 1
  have ra2 := hz2.cell 2
  have ra3 := hz2.cell 3
  have ra4 := hz2.cell 4
  simp only [List.getElem?_toArray, List.getElem?_cons_zero, List.getElem?_cons_succ] at ra0 ra1 ra2 ra3 ra4
  have rb0 := hz3.cell 0
  have rb1 := hz3.cell 1
  have rb2 := hz3.cell 2
  have rb3 := hz3.cell 3
  have rb4 := hz3.cell 4
  have rb5 := hz3.cell 5
  have rb6 := hz3.cell 6
  have rb7 := hz3.cell 7
  have rb8 := hz3.cell 8
  have rb9 := hz3.cell 9
  have rb10 := hz3.cell 10
  simp only [List.getElem?_toArray, List.getElem?_cons_zero, List.getElem?_cons_succ] at rb0 rb1 rb2 rb3 rb4 rb5 rb6 rb7 rb8 rb9 rb10
  exact bodyPost_ret (v := .tuple #[.agg #[.int .u32 0, .int .u32 0, .int .i64 0, .int .i64 0, .int .i64 0], .agg #[.int .i64 0, .int .i64 0, .int .i64 0, .int .i64 0, .int .i64 0, .int .i64 0, .int .i64 0, .int .i64 0, .int .i64 0, .int .u32 0, .int .u32 0], .slice none 0 0, .int .i64 9]) (by simp [results, Try.results48, go_sem, ra0, ra1, ra2, ra3, ra4, rb0, rb1, rb2, rb3, rb4, rb5, rb6, rb7, rb8, rb9, rb10]) rfl ⟨HR.out _, hBz⟩

set_option maxHeartbeats 4000000 in
set_option maxRecDepth 100000 in
theorem within_no9u (A : Option Addr) (n c B : Nat) (l : List Nat) (w : World) (hr : Reads w B 1 A n (bv l)) (hB0 : B ≤ w.heap.size) (hn : n ≤ 140737488355328) (hnc : n ≤ c) (ha : AllB l) (hyes : whyP l = 0) (hwh : wholeL l = true) (hp17 : at' l 9 = 17) (htc : udpB (bodyP l) = false) :
    Calls Try.prog 48 #[.slice A n c] w fun e w' => WithinRet l w e w' ∧ Below w.heap.size w w' := by
  have CP := Lib.hid (fun w' (hb : Below w.heap.size w w') => parse_any A n c w'.heap.size l w' ((hr.below (hb.mono hB0)).more (Nat.le_trans hB0 hb.size)) (Nat.le_refl _) hn hnc ha)
  have HR : Hid (∀ w', WithinRet l w (.returned (.tuple #[.agg #[.int .u32 0, .int .u32 0, .int .i64 0, .int .i64 0, .int .i64 0], .agg #[.int .i64 0, .int .i64 0, .int .i64 0, .int .i64 0, .int .i64 0, .int .i64 0, .int .i64 0, .int .i64 0, .int .i64 0, .int .u32 0, .int .u32 0], .slice none 0 0, .int .i64 9])) w') := fun w' => .inr (by
    have hT : whyT l = 9 := by
      unfold whyT
      rw [if_neg (fun h => h hyes), if_neg (by rw [hwh]; decide), if_neg (by omega), if_pos hp17, htc]
      rfl
    rw [hT]
    exact ⟨by decide, rfl⟩)
  have HP7 := Lib.hid hp17
  have HTC := Lib.hid htc
  clear hp17 htc
  obtain ⟨y0, y1, y2, y3, f, o, y6, y7, y8, y9, y10, hvals, hf, ho, h7⟩ : ∃ y0 y1 y2 y3 f o y6 y7 y8 y9 y10 : Nat, (hdP l).vals = #[.int .i64 (y0 : Int), .int .i64 (y1 : Int), .int .i64 (y2 : Int), .int .i64 (y3 : Int), .int .i64 (f : Int), .int .i64 (o : Int), .int .i64 (y6 : Int), .int .i64 (y7 : Int), .int .i64 (y8 : Int), .int .u32 (y9 : Int), .int .u32 (y10 : Int)] ∧ f = two' l 6 / 8192 ∧ o = two' l 6 % 8192 ∧ y7 = at' l 9 := ⟨_, _, _, _, _, _, _, _, _, _, _, rfl, rfl, rfl, rfl⟩
  have hfl : f < 65536 := by have := two_lt ha 6; omega
  have hol : o < 65536 := by omega
  have CW := Lib.hid (fun w' => whole_any y0 y1 y2 y3 f o y6 y7 y8 y9 y10 w' hfl hol)
  have hw1 : wholeN f o = wholeL l := by rw [hf, ho]; rfl
  rw [hw1, hwh] at CW
  have HY := Lib.hid (And.intro hyes hvals)
  have hbz : (((0 : Nat) : Int) != 0) = false := by decide
  rw [← h7] at HP7
  have HBA : Hid (AllB (bodyP l)) := (ha.take _).drop _
  have hbl : lenP l - 4 * ihlP l ≤ 140737488355328 := by have := two_lt ha 2; unfold lenP; omega
  obtain ⟨m, hm⟩ : ∃ m, m = lenP l - 4 * ihlP l := ⟨_, rfl⟩
  rw [← hm] at hbl
  have HM := Lib.hid hm
  clear hr hyes hvals hf ho h7 hw1 hfl hol hm hwh
  go_enter Try.func48, Try.ntmps48
  go_wp2_with fail
  have hq2 := (Blk.new w 43 #[.int .u32 0, .int .u32 0, .int .i64 0, .int .i64 0, .int .i64 0]).alloc (.cells #[.int .i64 0, .int .i64 0, .int .i64 0, .int .i64 0, .int .i64 0, .int .i64 0, .int .i64 0, .int .i64 0, .int .i64 0, .int .u32 0, .int .u32 0] 24)
  have hq3 : Blk ((w.alloc (.cells #[.int .u32 0, .int .u32 0, .int .i64 0, .int .i64 0, .int .i64 0] 43)).alloc (.cells #[.int .i64 0, .int .i64 0, .int .i64 0, .int .i64 0, .int .i64 0, .int .i64 0, .int .i64 0, .int .i64 0, .int .i64 0, .int .u32 0, .int .u32 0] 24)) (w.heap.size + 1) 24 #[.int .i64 0, .int .i64 0, .int .i64 0, .int .i64 0, .int .i64 0, .int .i64 0, .int .i64 0, .int .i64 0, .int .i64 0, .int .u32 0, .int .u32 0] := Blk.new_ (by simp)
  have hB := ((Below.refl w.heap.size w).alloc (Nat.le_refl _) (.cells #[.int .u32 0, .int .u32 0, .int .i64 0, .int .i64 0, .int .i64 0] 43)).alloc (by simp) (.cells #[.int .i64 0, .int .i64 0, .int .i64 0, .int .i64 0, .int .i64 0, .int .i64 0, .int .i64 0, .int .i64 0, .int .i64 0, .int .u32 0, .int .u32 0] 24)
  refine (CP.out _ hB).mono ?_
  rintro e w1 ⟨hret, hb1⟩
  obtain ⟨A1, c1, rfl, hown⟩ := hret.yes HY.out.1
  rw [HY.out.2, ← HM.out]
  rw [← HM.out] at hown
  have hq2 := hq2.below hb1 hq2.lt
  have hq3 := hq3.below hb1 hq3.lt
  have hB := hB.trans (hb1.mono hB.size)
  have hq2 := hq2.alloc (.cells #[.int .i64 (y0 : Int), .int .i64 (y1 : Int), .int .i64 (y2 : Int), .int .i64 (y3 : Int), .int .i64 (f : Int), .int .i64 (o : Int), .int .i64 (y6 : Int), .int .i64 (y7 : Int), .int .i64 (y8 : Int), .int .u32 (y9 : Int), .int .u32 (y10 : Int)] 24)
  have hq3 := hq3.alloc (.cells #[.int .i64 (y0 : Int), .int .i64 (y1 : Int), .int .i64 (y2 : Int), .int .i64 (y3 : Int), .int .i64 (f : Int), .int .i64 (o : Int), .int .i64 (y6 : Int), .int .i64 (y7 : Int), .int .i64 (y8 : Int), .int .u32 (y9 : Int), .int .u32 (y10 : Int)] 24)
  have hB := hB.alloc hB.size (.cells #[.int .i64 (y0 : Int), .int .i64 (y1 : Int), .int .i64 (y2 : Int), .int .i64 (y3 : Int), .int .i64 (f : Int), .int .i64 (o : Int), .int .i64 (y6 : Int), .int .i64 (y7 : Int), .int .i64 (y8 : Int), .int .u32 (y9 : Int), .int .u32 (y10 : Int)] 24)
  have hq6 := Blk.new w1 24 #[.int .i64 (y0 : Int), .int .i64 (y1 : Int), .int .i64 (y2 : Int), .int .i64 (y3 : Int), .int .i64 (f : Int), .int .i64 (o : Int), .int .i64 (y6 : Int), .int .i64 (y7 : Int), .int .i64 (y8 : Int), .int .u32 (y9 : Int), .int .u32 (y10 : Int)]
  have hown := hown.alloc (.cells #[.int .i64 (y0 : Int), .int .i64 (y1 : Int), .int .i64 (y2 : Int), .int .i64 (y3 : Int), .int .i64 (f : Int), .int .i64 (o : Int), .int .i64 (y6 : Int), .int .i64 (y7 : Int), .int .i64 (y8 : Int), .int .u32 (y9 : Int), .int .u32 (y10 : Int)] 24)
  clear hret hb1 CP
  obtain ⟨q, hq⟩ : ∃ q, q = w.heap.size := ⟨_, rfl⟩
  rw [← hq] at hq2 hq3 ⊢
  have HQ := Lib.hid hq
  clear hq
  go_wp2_with fail
  refine (CW.out _).mono ?_
  rintro e w2 ⟨rfl, hb2⟩
  have hq2 := hq2.below hb2 hq2.lt
  have hq3 := hq3.below hb2 hq3.lt
  have hq6 := hq6.below hb2 hq6.lt
  have hown := own_below hown hb2
  have hB := hB.trans (hb2.mono hB.size)
  clear hb2 CW
  have hc7 := hq6.cell 7
  simp only [List.getElem?_toArray, List.getElem?_cons_zero, List.getElem?_cons_succ] at hc7
  have hb6 : ((y7 : Int) == 6) = false := by have := HP7.out; simp; omega
  have hb17 : ((y7 : Int) == 17) = true := by have := HP7.out; simp; omega
  have CT := Lib.hid (udp_any A1 m c1 w2.heap.size (bodyP l) w2 (Reads.of_own hown) (Nat.le_refl _) hbl (own_cap hown) HBA.out)
  rw [HTC.out] at CT
  clear hq6 hown hbl HBA HP7
  go_wp2_with fail
  refine CT.out.mono ?_
  rintro e w3 ⟨rfl, hb3⟩
  have hq2 := hq2.below hb3 hq2.lt
  have hq3 := hq3.below hb3 hq3.lt
  have hB := hB.trans (hb3.mono hB.size)
  clear hb3 CT
  have ta0 := hq2.cell 0
  have ta1 := hq2.cell 1
  have ta2 := hq2.cell 2
  have ta3 := hq2.cell 3
  have ta4 := hq2.cell 4
  simp only [List.getElem?_toArray, List.getElem?_cons_zero, List.getElem?_cons_succ] at ta0 ta1 ta2 ta3 ta4
  have tf0 := hq2.frozen 0
  have tf1 := hq2.frozen 1
  have tf2 := hq2.frozen 2
  have tf3 := hq2.frozen 3
  have tf4 := hq2.frozen 4
  have ha0 := hq3.cell 0
  have ha1 := hq3.cell 1
  have ha2 := hq3.cell 2
  have ha3 := hq3.cell 3
  have ha4 := hq3.cell 4
  have ha5 := hq3.cell 5
  have ha6 := hq3.cell 6
  have ha7 := hq3.cell 7
  have ha8 := hq3.cell 8
  have ha9 := hq3.cell 9
  have ha10 := hq3.cell 10
  simp only [List.getElem?_toArray, List.getElem?_cons_zero, List.getElem?_cons_succ] at ha0 ha1 ha2 ha3 ha4 ha5 ha6 ha7 ha8 ha9 ha10
  have hf0 := hq3.frozen 0
  have hf1 := hq3.frozen 1
  have hf2 := hq3.frozen 2
  have hf3 := hq3.frozen 3
  have hf4 := hq3.frozen 4
  have hf5 := hq3.frozen 5
  have hf6 := hq3.frozen 6
  have hf7 := hq3.frozen 7
  have hf8 := hq3.frozen 8
  have hf9 := hq3.frozen 9
  have hf10 := hq3.frozen 10
  go_wp2_with fail
  obtain ⟨wz, hwz⟩ : ∃ wz, wz = ((((((((((((((((w3).setCell ⟨q, 0, none⟩ (.int .u32 0)).setCell ⟨q, 1, none⟩ (.int .u32 0)).setCell ⟨q, 2, none⟩ (.int .i64 0)).setCell ⟨q, 3, none⟩ (.int .i64 0)).setCell ⟨q, 4, none⟩ (.int .i64 0)).setCell ⟨q + 1, 0, none⟩ (.int .i64 0)).setCell ⟨q + 1, 1, none⟩ (.int .i64 0)).setCell ⟨q + 1, 2, none⟩ (.int .i64 0)).setCell ⟨q + 1, 3, none⟩ (.int .i64 0)).setCell ⟨q + 1, 4, none⟩ (.int .i64 0)).setCell ⟨q + 1, 5, none⟩ (.int .i64 0)).setCell ⟨q + 1, 6, none⟩ (.int .i64 0)).setCell ⟨q + 1, 7, none⟩ (.int .i64 0)).setCell ⟨q + 1, 8, none⟩ (.int .i64 0)).setCell ⟨q + 1, 9, none⟩ (.int .u32 0)).setCell ⟨q + 1, 10, none⟩ (.int .u32 0) := ⟨_, rfl⟩
  have hz2 : Blk wz q 43 #[.int .u32 0, .int .u32 0, .int .i64 0, .int .i64 0, .int .i64 0] := by
    rw [hwz]
    have hset := ((((((((((((((((hq2).set_ 0 (.int .u32 0)).set_ 1 (.int .u32 0)).set_ 2 (.int .i64 0)).set_ 3 (.int .i64 0)).set_ 4 (.int .i64 0)).far (p := ⟨q + 1, 0, none⟩) (by show q ≠ q + 1; omega) (.int .i64 0)).far (p := ⟨q + 1, 1, none⟩) (by show q ≠ q + 1; omega) (.int .i64 0)).far (p := ⟨q + 1, 2, none⟩) (by show q ≠ q + 1; omega) (.int .i64 0)).far (p := ⟨q + 1, 3, none⟩) (by show q ≠ q + 1; omega) (.int .i64 0)).far (p := ⟨q + 1, 4, none⟩) (by show q ≠ q + 1; omega) (.int .i64 0)).far (p := ⟨q + 1, 5, none⟩) (by show q ≠ q + 1; omega) (.int .i64 0)).far (p := ⟨q + 1, 6, none⟩) (by show q ≠ q + 1; omega) (.int .i64 0)).far (p := ⟨q + 1, 7, none⟩) (by show q ≠ q + 1; omega) (.int .i64 0)).far (p := ⟨q + 1, 8, none⟩) (by show q ≠ q + 1; omega) (.int .i64 0)).far (p := ⟨q + 1, 9, none⟩) (by show q ≠ q + 1; omega) (.int .u32 0)).far (p := ⟨q + 1, 10, none⟩) (by show q ≠ q + 1; omega) (.int .u32 0)
    simp only [List.setIfInBounds_toArray, List.set_cons_zero, List.set_cons_succ] at hset
    exact hset
  have hz3 : Blk wz (q + 1) 24 #[.int .i64 0, .int .i64 0, .int .i64 0, .int .i64 0, .int .i64 0, .int .i64 0, .int .i64 0, .int .i64 0, .int .i64 0, .int .u32 0, .int .u32 0] := by
    rw [hwz]
    have hset := ((((((((((((((((hq3).far (p := ⟨q, 0, none⟩) (by show q + 1 ≠ q; omega) (.int .u32 0)).far (p := ⟨q, 1, none⟩) (by show q + 1 ≠ q; omega) (.int .u32 0)).far (p := ⟨q, 2, none⟩) (by show q + 1 ≠ q; omega) (.int .i64 0)).far (p := ⟨q, 3, none⟩) (by show q + 1 ≠ q; omega) (.int .i64 0)).far (p := ⟨q, 4, none⟩) (by show q + 1 ≠ q; omega) (.int .i64 0)).set_ 0 (.int .i64 0)).set_ 1 (.int .i64 0)).set_ 2 (.int .i64 0)).set_ 3 (.int .i64 0)).set_ 4 (.int .i64 0)).set_ 5 (.int .i64 0)).set_ 6 (.int .i64 0)).set_ 7 (.int .i64 0)).set_ 8 (.int .i64 0)).set_ 9 (.int .u32 0)).set_ 10 (.int .u32 0)
    simp only [List.setIfInBounds_toArray, List.set_cons_zero, List.set_cons_succ] at hset
    exact hset
  have hBz : Below w.heap.size w wz := by
    rw [hwz]
    exact ((((((((((((((((hB).setCell (p := ⟨q, 0, none⟩) (by rw [HQ.out]; exact Nat.le_refl _) _).setCell (p := ⟨q, 1, none⟩) (by rw [HQ.out]; exact Nat.le_refl _) _).setCell (p := ⟨q, 2, none⟩) (by rw [HQ.out]; exact Nat.le_refl _) _).setCell (p := ⟨q, 3, none⟩) (by rw [HQ.out]; exact Nat.le_refl _) _).setCell (p := ⟨q, 4, none⟩) (by rw [HQ.out]; exact Nat.le_refl _) _).setCell (p := ⟨q + 1, 0, none⟩) (by rw [HQ.out]; exact Nat.le_succ _) _).setCell (p := ⟨q + 1, 1, none⟩) (by rw [HQ.out]; exact Nat.le_succ _) _).setCell (p := ⟨q + 1, 2, none⟩) (by rw [HQ.out]; exact Nat.le_succ _) _).setCell (p := ⟨q + 1, 3, none⟩) (by rw [HQ.out]; exact Nat.le_succ _) _).setCell (p := ⟨q + 1, 4, none⟩) (by rw [HQ.out]; exact Nat.le_succ _) _).setCell (p := ⟨q + 1, 5, none⟩) (by rw [HQ.out]; exact Nat.le_succ _) _).setCell (p := ⟨q + 1, 6, none⟩) (by rw [HQ.out]; exact Nat.le_succ _) _).setCell (p := ⟨q + 1, 7, none⟩) (by rw [HQ.out]; exact Nat.le_succ _) _).setCell (p := ⟨q + 1, 8, none⟩) (by rw [HQ.out]; exact Nat.le_succ _) _).setCell (p := ⟨q + 1, 9, none⟩) (by rw [HQ.out]; exact Nat.le_succ _) _).setCell (p := ⟨q + 1, 10, none⟩) (by rw [HQ.out]; exact Nat.le_succ _) _
  rw [← hwz]
  clear hwz
  have ra0 := hz2.cell 0
  have ra1 := hz2.cell 1
  have ra2 := hz2.cell 2
  have ra3 := hz2.cell 3
  have ra4 := hz2.cell 4
  simp only [List.getElem?_toArray, List.getElem?_cons_zero, List.getElem?_cons_succ] at ra0 ra1 ra2 ra3 ra4
  have rb0 := hz3.cell 0
  have rb1 := hz3.cell 1
  have rb2 := hz3.cell 2
  have rb3 := hz3.cell 3
  have rb4 := hz3.cell 4
  have rb5 := hz3.cell 5
  have rb6 := hz3.cell 6
  have rb7 := hz3.cell 7
  have rb8 := hz3.cell 8
  have rb9 := hz3.cell 9
  have rb10 := hz3.cell 10
  simp only [List.getElem?_toArray, List.getElem?_cons_zero, List.getElem?_cons_succ] at rb0 rb1 rb2 rb3 rb4 rb5 rb6 rb7 rb8 rb9 rb10
  exact bodyPost_ret (v := .tuple #[.agg #[.int .u32 0, .int .u32 0, .int .i64 0, .int .i64 0, .int .i64 0], .agg #[.int .i64 0, .int .i64 0, .int .i64 0, .int .i64 0, .int .i64 0, .int .i64 0, .int .i64 0, .int .i64 0, .int .i64 0, .int .u32 0, .int .u32 0], .slice none 0 0, .int .i64 9]) (by simp [results, Try.results48, go_sem, ra0, ra1, ra2, ra3, ra4, rb0, rb1, rb2, rb3, rb4, rb5, rb6, rb7, rb8, rb9, rb10]) rfl ⟨HR.out _, hBz⟩
end Go.Proofs.Ytpgbldpppdmdoaa
