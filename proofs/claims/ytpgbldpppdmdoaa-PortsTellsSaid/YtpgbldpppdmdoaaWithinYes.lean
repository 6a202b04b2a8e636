/- The walk of ports' within where a packet tells a tuple (wip/genwithin.py). -/
import Derived.Test.YtpgbldpppdmdoaaWithinNo2
import Derived.Deep.RegionHeld3
namespace Go.Proofs.Ytpgbldpppdmdoaa
set_option linter.unusedVariables false
set_option linter.unusedSimpArgs false
open Go.RowKit

set_option maxHeartbeats 4000000 in
set_option maxRecDepth 100000 in
theorem within_yes_t (A : Option Addr) (n c B : Nat) (l : List Nat) (w : World) (hr : Reads w B 1 A n (bv l)) (hB0 : B ≤ w.heap.size) (hn : n ≤ 140737488355328) (hnc : n ≤ c) (ha : AllB l) (hyes : whyP l = 0) (hwh : wholeL l = true) (hp : at' l 9 = 6) (htc : tcpB (bodyP l) = true) :
    Calls Try.prog 48 #[.slice A n c] w fun e w' => WithinRet l w e w' ∧ Below w.heap.size w w' := by
  have CP := Lib.hid (fun w' (hb : Below w.heap.size w w') => parse_any A n c w'.heap.size l w' ((hr.below (hb.mono hB0)).more (Nat.le_trans hB0 hb.size)) (Nat.le_refl _) hn hnc ha)
  have hT : whyT l = 0 := by
    unfold whyT
    rw [if_neg (fun h => h hyes), if_neg (by rw [hwh]; decide), if_pos hp, if_pos htc]
  have HP7 := Lib.hid hp
  have HTC := Lib.hid htc
  have HLEN : Hid (20 ≤ (bodyP l).length) := (of_decide_eq_true htc).1
  obtain ⟨s0, hs0⟩ : ∃ s0, s0 = two' (bodyP l) 0 := ⟨_, rfl⟩
  obtain ⟨s2, hs2⟩ : ∃ s2, s2 = two' (bodyP l) 2 := ⟨_, rfl⟩
  have HS := Lib.hid (And.intro hs0 hs2)
  have HTU : Hid ((tuP l).vals = #[.int .u32 (four' l 12 : Int), .int .u32 (four' l 16 : Int), .int .i64 (at' l 9 : Int), .int .i64 (s0 : Int), .int .i64 (s2 : Int)]) := by
    show _ = _
    rw [hs0, hs2]
    rfl
  have HT := Lib.hid hT
  clear hp htc hT hs0 hs2
  obtain ⟨y0, y1, y2, y3, f, o, y6, y7, y8, y9, y10, hvals, hf, ho, h7, h9, h10⟩ : ∃ y0 y1 y2 y3 f o y6 y7 y8 y9 y10 : Nat, (hdP l).vals = #[.int .i64 (y0 : Int), .int .i64 (y1 : Int), .int .i64 (y2 : Int), .int .i64 (y3 : Int), .int .i64 (f : Int), .int .i64 (o : Int), .int .i64 (y6 : Int), .int .i64 (y7 : Int), .int .i64 (y8 : Int), .int .u32 (y9 : Int), .int .u32 (y10 : Int)] ∧ f = two' l 6 / 8192 ∧ o = two' l 6 % 8192 ∧ y7 = at' l 9 ∧ y9 = four' l 12 ∧ y10 = four' l 16 := ⟨_, _, _, _, _, _, _, _, _, _, _, rfl, rfl, rfl, rfl, rfl, rfl⟩
  have hfl : f < 65536 := by have := two_lt ha 6; omega
  have hol : o < 65536 := by omega
  have CW := Lib.hid (fun w' => whole_any y0 y1 y2 y3 f o y6 y7 y8 y9 y10 w' hfl hol)
  have hw1 : wholeN f o = wholeL l := by rw [hf, ho]; rfl
  rw [hw1, hwh] at CW
  have HY := Lib.hid (And.intro hyes hvals)
  have hbz : (((0 : Nat) : Int) != 0) = false := by decide
  rw [← h7] at HP7
  rw [← h9, ← h10, ← h7] at HTU
  have HBA : Hid (AllB (bodyP l)) := (ha.take _).drop _
  have hbl : lenP l - 4 * ihlP l ≤ 140737488355328 := by have := two_lt ha 2; unfold lenP; omega
  obtain ⟨m, hm⟩ : ∃ m, m = lenP l - 4 * ihlP l := ⟨_, rfl⟩
  rw [← hm] at hbl
  have HM := Lib.hid hm
  clear hr hyes hvals hf ho h7 h9 h10 hw1 hfl hol hm hwh
  go_enter Try.func48, Try.ntmps48
  go_wp2_with fail
  have hq2 := (Blk.new w 43 #[.int .u32 0, .int .u32 0, .int .i64 0, .int .i64 0, .int .i64 0]).alloc (.cells #[.int .i64 0, .int .i64 0, .int .i64 0, .int .i64 0, .int .i64 0, .int .i64 0, .int .i64 0, .int .i64 0, .int .i64 0, .int .u32 0, .int .u32 0] 24)
  have hq3 : Blk ((w.alloc (.cells #[.int .u32 0, .int .u32 0, .int .i64 0, .int .i64 0, .int .i64 0] 43)).alloc (.cells #[.int .i64 0, .int .i64 0, .int .i64 0, .int .i64 0, .int .i64 0, .int .i64 0, .int .i64 0, .int .i64 0, .int .i64 0, .int .u32 0, .int .u32 0] 24)) (w.heap.size + 1) 24 #[.int .i64 0, .int .i64 0, .int .i64 0, .int .i64 0, .int .i64 0, .int .i64 0, .int .i64 0, .int .i64 0, .int .i64 0, .int .u32 0, .int .u32 0] := Blk.new_ (by simp)
  have hB := ((Below.refl w.heap.size w).alloc (Nat.le_refl _) (.cells #[.int .u32 0, .int .u32 0, .int .i64 0, .int .i64 0, .int .i64 0] 43)).alloc (by simp) (.cells #[.int .i64 0, .int .i64 0, .int .i64 0, .int .i64 0, .int .i64 0, .int .i64 0, .int .i64 0, .int .i64 0, .int .i64 0, .int .u32 0, .int .u32 0] 24)
  refine (CP.out _ hB).mono ?_
  rintro e w1 ⟨hret, hb1⟩
  obtain ⟨A1, c1, rfl, hown⟩ := hret.yes HY.out.1
  rw [HY.out.2, ← HM.out]
  rw [← HM.out] at hown
  have hq2 := hq2.below hb1 hq2.lt
  have hq3 := hq3.below hb1 hq3.lt
  have hB := hB.trans (hb1.mono hB.size)
  have hq2' := hq2
  have hq3' := hq3
  have hq2 := hq2.alloc (.cells #[.int .i64 (y0 : Int), .int .i64 (y1 : Int), .int .i64 (y2 : Int), .int .i64 (y3 : Int), .int .i64 (f : Int), .int .i64 (o : Int), .int .i64 (y6 : Int), .int .i64 (y7 : Int), .int .i64 (y8 : Int), .int .u32 (y9 : Int), .int .u32 (y10 : Int)] 24)
  have hq3 := hq3.alloc (.cells #[.int .i64 (y0 : Int), .int .i64 (y1 : Int), .int .i64 (y2 : Int), .int .i64 (y3 : Int), .int .i64 (f : Int), .int .i64 (o : Int), .int .i64 (y6 : Int), .int .i64 (y7 : Int), .int .i64 (y8 : Int), .int .u32 (y9 : Int), .int .u32 (y10 : Int)] 24)
  have hB := hB.alloc hB.size (.cells #[.int .i64 (y0 : Int), .int .i64 (y1 : Int), .int .i64 (y2 : Int), .int .i64 (y3 : Int), .int .i64 (f : Int), .int .i64 (o : Int), .int .i64 (y6 : Int), .int .i64 (y7 : Int), .int .i64 (y8 : Int), .int .u32 (y9 : Int), .int .u32 (y10 : Int)] 24)
  have HQ6 : Hid (w.heap.size < w1.heap.size ∧ w.heap.size + 1 < w1.heap.size) := ⟨by have := hq2'.lt; omega, by have := hq3'.lt; omega⟩
  have hq6 := Blk.new w1 24 #[.int .i64 (y0 : Int), .int .i64 (y1 : Int), .int .i64 (y2 : Int), .int .i64 (y3 : Int), .int .i64 (f : Int), .int .i64 (o : Int), .int .i64 (y6 : Int), .int .i64 (y7 : Int), .int .i64 (y8 : Int), .int .u32 (y9 : Int), .int .u32 (y10 : Int)]
  have HBASE : Hid (w.heap.size ≤ ((w.alloc (.cells #[.int .u32 0, .int .u32 0, .int .i64 0, .int .i64 0, .int .i64 0] 43)).alloc (.cells #[.int .i64 0, .int .i64 0, .int .i64 0, .int .i64 0, .int .i64 0, .int .i64 0, .int .i64 0, .int .i64 0, .int .i64 0, .int .u32 0, .int .u32 0] 24)).heap.size) := by show _ ≤ _; simp; omega
  have hown := hown.alloc (.cells #[.int .i64 (y0 : Int), .int .i64 (y1 : Int), .int .i64 (y2 : Int), .int .i64 (y3 : Int), .int .i64 (f : Int), .int .i64 (o : Int), .int .i64 (y6 : Int), .int .i64 (y7 : Int), .int .i64 (y8 : Int), .int .u32 (y9 : Int), .int .u32 (y10 : Int)] 24)
  clear hret hb1 CP
  obtain ⟨q, hq⟩ : ∃ q, q = w.heap.size := ⟨_, rfl⟩
  rw [← hq] at hq2 hq3 HQ6 ⊢
  clear hq2' hq3'
  have HQ := Lib.hid hq
  clear hq
  go_wp2_with fail
  refine (CW.out _).mono ?_
  rintro e w2 ⟨rfl, hb2⟩
  have hq2 := hq2.below hb2 hq2.lt
  have hq3 := hq3.below hb2 hq3.lt
  have hq6 := hq6.below hb2 hq6.lt
  have hown := own_below hown hb2
  have hB := hB.trans (hb2.mono hB.size)
  clear hb2 CW
  have hc7 := hq6.cell 7
  simp only [List.getElem?_toArray, List.getElem?_cons_zero, List.getElem?_cons_succ] at hc7
  have hb6 : ((y7 : Int) == 6) = true := by have := HP7.out; simp; omega
  have CT := Lib.hid (tcp_any A1 m c1 w2.heap.size (bodyP l) w2 (Reads.of_own hown) hbl HBA.out)
  rw [HTC.out] at CT
  clear HP7
  go_wp2_with fail
  refine CT.out.mono ?_
  rintro e w' ⟨rfl, rfl⟩
  clear CT
  obtain ⟨g, hA1, hg1, hg2⟩ := own_head hown (by have := HLEN.out; have := (Reads.of_own hown).length; omega)
  have CN := Lib.hid (newreader_any A1 m c1 w2.heap.size (bodyP l) w2 (Reads.of_own hown) (Nat.le_refl _) hbl (fun h => by rw [h] at hA1; cases hA1))
  have hlm := (Reads.of_own hown).length
  have HL := Lib.hid (And.intro hlm HLEN.out)
  have CU := Lib.hid (fun p j w' (hj : j + 2 ≤ (bodyP l).length) => u16r_at p j (bodyP l) w' hj (by omega) HBA.out)
  clear hA1 hg1 hg2 hlm HLEN HBA
  go_wp2_with fail
  refine CN.out.mono ?_
  rintro e w3 ⟨p, rfl, hpp, hrb, hb3⟩
  clear CN
  have hc9 := (hq6.below hb3 hq6.lt).cell 9
  have hc10 := (hq6.below hb3 hq6.lt).cell 10
  have hc7 := (hq6.below hb3 hq6.lt).cell 7
  simp only [List.getElem?_toArray, List.getElem?_cons_zero, List.getElem?_cons_succ] at hc7 hc9 hc10
  go_wp2_with fail
  obtain ⟨qt, hqt⟩ : ∃ qt, qt = w3.heap.size := ⟨_, rfl⟩
  have hpt : p < qt := by rw [hqt]; exact hrb.lt
  have hT := Blk.new w3 43 #[.int .u32 (y9 : Int), .int .u32 (y10 : Int), .int .i64 (y7 : Int), .int .i64 0, .int .i64 0]
  have hbb : Below w2.heap.size w2 (w3.alloc (.cells #[.int .u32 (y9 : Int), .int .u32 (y10 : Int), .int .i64 (y7 : Int), .int .i64 0, .int .i64 0] 43)) := hb3.alloc hb3.size _
  have hrb0 : RBuf (w3.alloc (.cells #[.int .u32 (y9 : Int), .int .u32 (y10 : Int), .int .i64 (y7 : Int), .int .i64 0, .int .i64 0] 43)) p ((bodyP l).drop 0) := hrb.below ((Below.refl _ _).alloc (Nat.le_refl _) _)
  have hqs : w2.heap.size ≤ qt := by rw [hqt]; exact hb3.size
  rw [← hqt] at hT ⊢
  have HQT := Lib.hid hqt
  obtain ⟨w4, hw4⟩ : ∃ w4, w4 = w3.alloc (.cells #[.int .u32 (y9 : Int), .int .u32 (y10 : Int), .int .i64 (y7 : Int), .int .i64 0, .int .i64 0] 43) := ⟨_, rfl⟩
  rw [← hw4] at hT hbb hrb0 ⊢
  clear hqt hrb hb3 hw4
  refine (CU.out p 0 w4 (by have := HL.out; omega) hrb0).mono ?_
  rintro e w5 ⟨rfl, hrb2, hg⟩
  rw [← HS.out.1]
  have hT := hT.grown hg (by intro h; cases h; omega)
  have hbb := hbb.grown hg hbb.size (fun k hk => by cases hk; exact hpp)
  have tf3 := hT.frozen 3
  have tc3 := hT.cell 3
  have tf4 := hT.frozen 4
  have tc4 := hT.cell 4
  simp only [List.getElem?_toArray, List.getElem?_cons_zero, List.getElem?_cons_succ] at tc3 tc4
  clear hg hrb0
  go_wp2_with fail
  have hT5 := hT.set_ 3 (.int .i64 (s0 : Int))
  simp only [List.setIfInBounds_toArray, List.set_cons_zero, List.set_cons_succ] at hT5
  have hb56 : Below qt w5 (w5.setCell ⟨qt, 3, none⟩ (.int .i64 (s0 : Int))) := (Below.refl _ _).setCell (p := ⟨qt, 3, none⟩) (Nat.le_refl _) _
  have hrb2 := hrb2.behind hb56 hpt
  have hbb := hbb.trans (hb56.mono hqs)
  clear hT hb56 tf3 tc3 tf4 tc4
  obtain ⟨w6, hw6⟩ : ∃ w6, w6 = w5.setCell ⟨qt, 3, none⟩ (.int .i64 (s0 : Int)) := ⟨_, rfl⟩
  rw [← hw6] at hT5 hrb2 hbb ⊢
  clear hw6
  refine (CU.out p 2 w6 (by have := HL.out; omega) hrb2).mono ?_
  rintro e w7 ⟨rfl, hrb4, hg⟩
  rw [← HS.out.2]
  have hT := hT5.grown hg (by intro h; cases h; omega)
  have hbb := hbb.grown hg hbb.size (fun k hk => by cases hk; exact hpp)
  have tf4 := hT.frozen 4
  have tc4 := hT.cell 4
  simp only [List.getElem?_toArray, List.getElem?_cons_zero, List.getElem?_cons_succ] at tc4
  clear hg hrb2 hrb4
  go_wp2_with fail
  have hT8 := hT.set_ 4 (.int .i64 (s2 : Int))
  simp only [List.setIfInBounds_toArray, List.set_cons_zero, List.set_cons_succ] at hT8
  have hb78 : Below qt w7 (w7.setCell ⟨qt, 4, none⟩ (.int .i64 (s2 : Int))) := (Below.refl _ _).setCell (p := ⟨qt, 4, none⟩) (Nat.le_refl _) _
  have hbb := hbb.trans (hb78.mono hqs)
  obtain ⟨w8, hw8⟩ : ∃ w8, w8 = w7.setCell ⟨qt, 4, none⟩ (.int .i64 (s2 : Int)) := ⟨_, rfl⟩
  rw [← hw8] at hT8 hbb ⊢
  clear hw8 hb78 hT tf4 tc4 CU hpp hpt HQT
  have n2 := hq2.lt
  have n3 := hq3.lt
  have n6 := hq6.lt
  have hq2 := hq2.below hbb hq2.lt
  have hq3 := hq3.below hbb hq3.lt
  have hq6' := hq6.below hbb hq6.lt
  have hown := own_lower (own_below hown hbb) HBASE.out
  clear HBASE
  have hB := hB.trans (hbb.mono hB.size)
  obtain ⟨q6, hq6e⟩ : ∃ q6, q6 = w1.heap.size := ⟨_, rfl⟩
  rw [← hq6e] at hq6' n6 ⊢
  have e1 : ¬ q6 = q := by rw [hq6e]; have := HQ6.out.1; omega
  have e2 : ¬ q6 = q + 1 := by rw [hq6e]; have := HQ6.out.2; omega
  have e3 : ¬ qt = q := by omega
  have e4 : ¬ qt = q + 1 := by omega
  have e5 : ¬ q = q6 := fun h => e1 h.symm
  have e6 : ¬ q + 1 = q6 := fun h => e2 h.symm
  have e7 : ¬ q = qt := fun h => e3 h.symm
  have e8 : ¬ q + 1 = qt := fun h => e4 h.symm
  clear hq6 hq6e hbb n2 n3 n6 hqs HQ6
  have u0 := hT8.cell 0
  have u1 := hT8.cell 1
  have u2 := hT8.cell 2
  have u3 := hT8.cell 3
  have u4 := hT8.cell 4
  simp only [List.getElem?_toArray, List.getElem?_cons_zero, List.getElem?_cons_succ] at u0 u1 u2 u3 u4
  have v0 := hq6'.cell 0
  have v1 := hq6'.cell 1
  have v2 := hq6'.cell 2
  have v3 := hq6'.cell 3
  have v4 := hq6'.cell 4
  have v5 := hq6'.cell 5
  have v6 := hq6'.cell 6
  have v7 := hq6'.cell 7
  have v8 := hq6'.cell 8
  have v9 := hq6'.cell 9
  have v10 := hq6'.cell 10
  simp only [List.getElem?_toArray, List.getElem?_cons_zero, List.getElem?_cons_succ] at v0 v1 v2 v3 v4 v5 v6 v7 v8 v9 v10
  have ff0 := hq2.frozen 0
  have ff1 := hq2.frozen 1
  have ff2 := hq2.frozen 2
  have ff3 := hq2.frozen 3
  have ff4 := hq2.frozen 4
  have gg0 := hq3.frozen 0
  have gg1 := hq3.frozen 1
  have gg2 := hq3.frozen 2
  have gg3 := hq3.frozen 3
  have gg4 := hq3.frozen 4
  have gg5 := hq3.frozen 5
  have gg6 := hq3.frozen 6
  have gg7 := hq3.frozen 7
  have gg8 := hq3.frozen 8
  have gg9 := hq3.frozen 9
  have gg10 := hq3.frozen 10
  have fc0 := hq2.cell 0
  have fc1 := hq2.cell 1
  have fc2 := hq2.cell 2
  have fc3 := hq2.cell 3
  have fc4 := hq2.cell 4
  simp only [List.getElem?_toArray, List.getElem?_cons_zero, List.getElem?_cons_succ] at fc0 fc1 fc2 fc3 fc4
  have gc0 := hq3.cell 0
  have gc1 := hq3.cell 1
  have gc2 := hq3.cell 2
  have gc3 := hq3.cell 3
  have gc4 := hq3.cell 4
  have gc5 := hq3.cell 5
  have gc6 := hq3.cell 6
  have gc7 := hq3.cell 7
  have gc8 := hq3.cell 8
  have gc9 := hq3.cell 9
  have gc10 := hq3.cell 10
  simp only [List.getElem?_toArray, List.getElem?_cons_zero, List.getElem?_cons_succ] at gc0 gc1 gc2 gc3 gc4 gc5 gc6 gc7 gc8 gc9 gc10
  go_region
  go_wp2_with fail
  have O0 := hown
  have KA0 := hq2
  have KB0 := hq3
  have O1 := own_set_far O0 KA0 (by decide) 0 (.int .u32 (y9 : Int))
  have KA1 := KA0.set_ 0 (.int .u32 (y9 : Int))
  have KB1 := KB0.far (p := ⟨q, 0, none⟩) (by show q + 1 ≠ q; omega) (.int .u32 (y9 : Int))
  clear O0
  have O2 := own_set_far O1 KA1 (by decide) 1 (.int .u32 (y10 : Int))
  have KA2 := KA1.set_ 1 (.int .u32 (y10 : Int))
  have KB2 := KB1.far (p := ⟨q, 1, none⟩) (by show q + 1 ≠ q; omega) (.int .u32 (y10 : Int))
  clear O1
  have O3 := own_set_far O2 KA2 (by decide) 2 (.int .i64 (y7 : Int))
  have KA3 := KA2.set_ 2 (.int .i64 (y7 : Int))
  have KB3 := KB2.far (p := ⟨q, 2, none⟩) (by show q + 1 ≠ q; omega) (.int .i64 (y7 : Int))
  clear O2
  have O4 := own_set_far O3 KA3 (by decide) 3 (.int .i64 (s0 : Int))
  have KA4 := KA3.set_ 3 (.int .i64 (s0 : Int))
  have KB4 := KB3.far (p := ⟨q, 3, none⟩) (by show q + 1 ≠ q; omega) (.int .i64 (s0 : Int))
  clear O3
  have O5 := own_set_far O4 KA4 (by decide) 4 (.int .i64 (s2 : Int))
  have KA5 := KA4.set_ 4 (.int .i64 (s2 : Int))
  have KB5 := KB4.far (p := ⟨q, 4, none⟩) (by show q + 1 ≠ q; omega) (.int .i64 (s2 : Int))
  clear O4
  have O6 := own_set_far O5 KB5 (by decide) 0 (.int .i64 (y0 : Int))
  have KB6 := KB5.set_ 0 (.int .i64 (y0 : Int))
  clear O5
  have O7 := own_set_far O6 KB6 (by decide) 1 (.int .i64 (y1 : Int))
  have KB7 := KB6.set_ 1 (.int .i64 (y1 : Int))
  clear O6
  have O8 := own_set_far O7 KB7 (by decide) 2 (.int .i64 (y2 : Int))
  have KB8 := KB7.set_ 2 (.int .i64 (y2 : Int))
  clear O7
  have O9 := own_set_far O8 KB8 (by decide) 3 (.int .i64 (y3 : Int))
  have KB9 := KB8.set_ 3 (.int .i64 (y3 : Int))
  clear O8
  have O10 := own_set_far O9 KB9 (by decide) 4 (.int .i64 (f : Int))
  have KB10 := KB9.set_ 4 (.int .i64 (f : Int))
  clear O9
  have O11 := own_set_far O10 KB10 (by decide) 5 (.int .i64 (o : Int))
  have KB11 := KB10.set_ 5 (.int .i64 (o : Int))
  clear O10
  have O12 := own_set_far O11 KB11 (by decide) 6 (.int .i64 (y6 : Int))
  have KB12 := KB11.set_ 6 (.int .i64 (y6 : Int))
  clear O11
  have O13 := own_set_far O12 KB12 (by decide) 7 (.int .i64 (y7 : Int))
  have KB13 := KB12.set_ 7 (.int .i64 (y7 : Int))
  clear O12
  have O14 := own_set_far O13 KB13 (by decide) 8 (.int .i64 (y8 : Int))
  have KB14 := KB13.set_ 8 (.int .i64 (y8 : Int))
  clear O13
  have O15 := own_set_far O14 KB14 (by decide) 9 (.int .u32 (y9 : Int))
  have KB15 := KB14.set_ 9 (.int .u32 (y9 : Int))
  clear O14
  have O16 := own_set_far O15 KB15 (by decide) 10 (.int .u32 (y10 : Int))
  have KB16 := KB15.set_ 10 (.int .u32 (y10 : Int))
  clear O15
  obtain ⟨wz, hwz⟩ : ∃ wz, wz = (((((((((((((((((w8).setCell ⟨q, 0, none⟩ (.int .u32 (y9 : Int))).setCell ⟨q, 1, none⟩ (.int .u32 (y10 : Int))).setCell ⟨q, 2, none⟩ (.int .i64 (y7 : Int))).setCell ⟨q, 3, none⟩ (.int .i64 (s0 : Int))).setCell ⟨q, 4, none⟩ (.int .i64 (s2 : Int))).setCell ⟨q + 1, 0, none⟩ (.int .i64 (y0 : Int))).setCell ⟨q + 1, 1, none⟩ (.int .i64 (y1 : Int))).setCell ⟨q + 1, 2, none⟩ (.int .i64 (y2 : Int))).setCell ⟨q + 1, 3, none⟩ (.int .i64 (y3 : Int))).setCell ⟨q + 1, 4, none⟩ (.int .i64 (f : Int))).setCell ⟨q + 1, 5, none⟩ (.int .i64 (o : Int))).setCell ⟨q + 1, 6, none⟩ (.int .i64 (y6 : Int))).setCell ⟨q + 1, 7, none⟩ (.int .i64 (y7 : Int))).setCell ⟨q + 1, 8, none⟩ (.int .i64 (y8 : Int))).setCell ⟨q + 1, 9, none⟩ (.int .u32 (y9 : Int))).setCell ⟨q + 1, 10, none⟩ (.int .u32 (y10 : Int))).drew := ⟨_, rfl⟩
  have hz2 : Blk wz q 43 #[.int .u32 (y9 : Int), .int .u32 (y10 : Int), .int .i64 (y7 : Int), .int .i64 (s0 : Int), .int .i64 (s2 : Int)] := by
    rw [hwz]
    have hset := ((((((((((((((((hq2).set_ 0 (.int .u32 (y9 : Int))).set_ 1 (.int .u32 (y10 : Int))).set_ 2 (.int .i64 (y7 : Int))).set_ 3 (.int .i64 (s0 : Int))).set_ 4 (.int .i64 (s2 : Int))).far (p := ⟨q + 1, 0, none⟩) (by show q ≠ q + 1; omega) (.int .i64 (y0 : Int))).far (p := ⟨q + 1, 1, none⟩) (by show q ≠ q + 1; omega) (.int .i64 (y1 : Int))).far (p := ⟨q + 1, 2, none⟩) (by show q ≠ q + 1; omega) (.int .i64 (y2 : Int))).far (p := ⟨q + 1, 3, none⟩) (by show q ≠ q + 1; omega) (.int .i64 (y3 : Int))).far (p := ⟨q + 1, 4, none⟩) (by show q ≠ q + 1; omega) (.int .i64 (f : Int))).far (p := ⟨q + 1, 5, none⟩) (by show q ≠ q + 1; omega) (.int .i64 (o : Int))).far (p := ⟨q + 1, 6, none⟩) (by show q ≠ q + 1; omega) (.int .i64 (y6 : Int))).far (p := ⟨q + 1, 7, none⟩) (by show q ≠ q + 1; omega) (.int .i64 (y7 : Int))).far (p := ⟨q + 1, 8, none⟩) (by show q ≠ q + 1; omega) (.int .i64 (y8 : Int))).far (p := ⟨q + 1, 9, none⟩) (by show q ≠ q + 1; omega) (.int .u32 (y9 : Int))).far (p := ⟨q + 1, 10, none⟩) (by show q ≠ q + 1; omega) (.int .u32 (y10 : Int))
    simp only [List.setIfInBounds_toArray, List.set_cons_zero, List.set_cons_succ] at hset
    exact hset.drew
  have hz3 : Blk wz (q + 1) 24 #[.int .i64 (y0 : Int), .int .i64 (y1 : Int), .int .i64 (y2 : Int), .int .i64 (y3 : Int), .int .i64 (f : Int), .int .i64 (o : Int), .int .i64 (y6 : Int), .int .i64 (y7 : Int), .int .i64 (y8 : Int), .int .u32 (y9 : Int), .int .u32 (y10 : Int)] := by
    rw [hwz]
    have hset := ((((((((((((((((hq3).far (p := ⟨q, 0, none⟩) (by show q + 1 ≠ q; omega) (.int .u32 (y9 : Int))).far (p := ⟨q, 1, none⟩) (by show q + 1 ≠ q; omega) (.int .u32 (y10 : Int))).far (p := ⟨q, 2, none⟩) (by show q + 1 ≠ q; omega) (.int .i64 (y7 : Int))).far (p := ⟨q, 3, none⟩) (by show q + 1 ≠ q; omega) (.int .i64 (s0 : Int))).far (p := ⟨q, 4, none⟩) (by show q + 1 ≠ q; omega) (.int .i64 (s2 : Int))).set_ 0 (.int .i64 (y0 : Int))).set_ 1 (.int .i64 (y1 : Int))).set_ 2 (.int .i64 (y2 : Int))).set_ 3 (.int .i64 (y3 : Int))).set_ 4 (.int .i64 (f : Int))).set_ 5 (.int .i64 (o : Int))).set_ 6 (.int .i64 (y6 : Int))).set_ 7 (.int .i64 (y7 : Int))).set_ 8 (.int .i64 (y8 : Int))).set_ 9 (.int .u32 (y9 : Int))).set_ 10 (.int .u32 (y10 : Int))
    simp only [List.setIfInBounds_toArray, List.set_cons_zero, List.set_cons_succ] at hset
    exact hset.drew
  have hBz : Below w.heap.size w wz := by
    rw [hwz]
    exact (((((((((((((((((hB).setCell (p := ⟨q, 0, none⟩) (by rw [HQ.out]; exact Nat.le_refl _) _).setCell (p := ⟨q, 1, none⟩) (by rw [HQ.out]; exact Nat.le_refl _) _).setCell (p := ⟨q, 2, none⟩) (by rw [HQ.out]; exact Nat.le_refl _) _).setCell (p := ⟨q, 3, none⟩) (by rw [HQ.out]; exact Nat.le_refl _) _).setCell (p := ⟨q, 4, none⟩) (by rw [HQ.out]; exact Nat.le_refl _) _).setCell (p := ⟨q + 1, 0, none⟩) (by rw [HQ.out]; exact Nat.le_succ _) _).setCell (p := ⟨q + 1, 1, none⟩) (by rw [HQ.out]; exact Nat.le_succ _) _).setCell (p := ⟨q + 1, 2, none⟩) (by rw [HQ.out]; exact Nat.le_succ _) _).setCell (p := ⟨q + 1, 3, none⟩) (by rw [HQ.out]; exact Nat.le_succ _) _).setCell (p := ⟨q + 1, 4, none⟩) (by rw [HQ.out]; exact Nat.le_succ _) _).setCell (p := ⟨q + 1, 5, none⟩) (by rw [HQ.out]; exact Nat.le_succ _) _).setCell (p := ⟨q + 1, 6, none⟩) (by rw [HQ.out]; exact Nat.le_succ _) _).setCell (p := ⟨q + 1, 7, none⟩) (by rw [HQ.out]; exact Nat.le_succ _) _).setCell (p := ⟨q + 1, 8, none⟩) (by rw [HQ.out]; exact Nat.le_succ _) _).setCell (p := ⟨q + 1, 9, none⟩) (by rw [HQ.out]; exact Nat.le_succ _) _).setCell (p := ⟨q + 1, 10, none⟩) (by rw [HQ.out]; exact Nat.le_succ _) _).drew
  have hownz : wz.ownsRow w.heap.size 5 1 (.slice A1 m c1) m (bv (bodyP l)) := by
    rw [hwz]
    exact own_drew O16
  rw [← hwz]
  clear hwz
  have ra0 := hz2.cell 0
  have ra1 := hz2.cell 1
  have ra2 := hz2.cell 2
  have ra3 := hz2.cell 3
  have ra4 := hz2.cell 4
  simp only [List.getElem?_toArray, List.getElem?_cons_zero, List.getElem?_cons_succ] at ra0 ra1 ra2 ra3 ra4
  have rb0 := hz3.cell 0
  have rb1 := hz3.cell 1
  have rb2 := hz3.cell 2
  have rb3 := hz3.cell 3
  have rb4 := hz3.cell 4
  have rb5 := hz3.cell 5
  have rb6 := hz3.cell 6
  have rb7 := hz3.cell 7
  have rb8 := hz3.cell 8
  have rb9 := hz3.cell 9
  have rb10 := hz3.cell 10
  simp only [List.getElem?_toArray, List.getElem?_cons_zero, List.getElem?_cons_succ] at rb0 rb1 rb2 rb3 rb4 rb5 rb6 rb7 rb8 rb9 rb10
  exact bodyPost_ret (v := .tuple #[.agg #[.int .u32 (y9 : Int), .int .u32 (y10 : Int), .int .i64 (y7 : Int), .int .i64 (s0 : Int), .int .i64 (s2 : Int)], .agg #[.int .i64 (y0 : Int), .int .i64 (y1 : Int), .int .i64 (y2 : Int), .int .i64 (y3 : Int), .int .i64 (f : Int), .int .i64 (o : Int), .int .i64 (y6 : Int), .int .i64 (y7 : Int), .int .i64 (y8 : Int), .int .u32 (y9 : Int), .int .u32 (y10 : Int)], .slice A1 m c1, .int .i64 0]) (by simp [results, Try.results48, go_sem, ra0, ra1, ra2, ra3, ra4, rb0, rb1, rb2, rb3, rb4, rb5, rb6, rb7, rb8, rb9, rb10]) rfl ⟨by
    left
    refine ⟨HT.out, A1, c1, ?_, ?_⟩
    · rw [HTU.out, HY.out.2, ← HM.out]
    · rw [← HM.out]; exact hownz, hBz⟩
  
set_option maxHeartbeats 4000000 in
set_option maxRecDepth 100000 in
theorem within_yes_u (A : Option Addr) (n c B : Nat) (l : List Nat) (w : World) (hr : Reads w B 1 A n (bv l)) (hB0 : B ≤ w.heap.size) (hn : n ≤ 140737488355328) (hnc : n ≤ c) (ha : AllB l) (hyes : whyP l = 0) (hwh : wholeL l = true) (hp : at' l 9 = 17) (htc : udpB (bodyP l) = true) :
    Calls Try.prog 48 #[.slice A n c] w fun e w' => WithinRet l w e w' ∧ Below w.heap.size w w' := by
  have CP := Lib.hid (fun w' (hb : Below w.heap.size w w') => parse_any A n c w'.heap.size l w' ((hr.below (hb.mono hB0)).more (Nat.le_trans hB0 hb.size)) (Nat.le_refl _) hn hnc ha)
  have hT : whyT l = 0 := by
    unfold whyT
    rw [if_neg (fun h => h hyes), if_neg (by rw [hwh]; decide), if_neg (by omega), if_pos hp, if_pos htc]
  have HP7 := Lib.hid hp
  have HTC := Lib.hid htc
  have HLEN : Hid (8 ≤ (bodyP l).length) := (of_decide_eq_true htc).1
  obtain ⟨s0, hs0⟩ : ∃ s0, s0 = two' (bodyP l) 0 := ⟨_, rfl⟩
  obtain ⟨s2, hs2⟩ : ∃ s2, s2 = two' (bodyP l) 2 := ⟨_, rfl⟩
  have HS := Lib.hid (And.intro hs0 hs2)
  have HTU : Hid ((tuP l).vals = #[.int .u32 (four' l 12 : Int), .int .u32 (four' l 16 : Int), .int .i64 (at' l 9 : Int), .int .i64 (s0 : Int), .int .i64 (s2 : Int)]) := by
    show _ = _
    rw [hs0, hs2]
    rfl
  have HT := Lib.hid hT
  clear hp htc hT hs0 hs2
  obtain ⟨y0, y1, y2, y3, f, o, y6, y7, y8, y9, y10, hvals, hf, ho, h7, h9, h10⟩ : ∃ y0 y1 y2 y3 f o y6 y7 y8 y9 y10 : Nat, (hdP l).vals = #[.int .i64 (y0 : Int), .int .i64 (y1 : Int), .int .i64 (y2 : Int), .int .i64 (y3 : Int), .int .i64 (f : Int), .int .i64 (o : Int), .int .i64 (y6 : Int), .int .i64 (y7 : Int), .int .i64 (y8 : Int), .int .u32 (y9 : Int), .int .u32 (y10 : Int)] ∧ f = two' l 6 / 8192 ∧ o = two' l 6 % 8192 ∧ y7 = at' l 9 ∧ y9 = four' l 12 ∧ y10 = four' l 16 := ⟨_, _, _, _, _, _, _, _, _, _, _, rfl, rfl, rfl, rfl, rfl, rfl⟩
  have hfl : f < 65536 := by have := two_lt ha 6; omega
  have hol : o < 65536 := by omega
  have CW := Lib.hid (fun w' => whole_any y0 y1 y2 y3 f o y6 y7 y8 y9 y10 w' hfl hol)
  have hw1 : wholeN f o = wholeL l := by rw [hf, ho]; rfl
  rw [hw1, hwh] at CW
  have HY := Lib.hid (And.intro hyes hvals)
  have hbz : (((0 : Nat) : Int) != 0) = false := by decide
  rw [← h7] at HP7
  rw [← h9, ← h10, ← h7] at HTU
  have HBA : Hid (AllB (bodyP l)) := (ha.take _).drop _
  have hbl : lenP l - 4 * ihlP l ≤ 140737488355328 := by have := two_lt ha 2; unfold lenP; omega
  obtain ⟨m, hm⟩ : ∃ m, m = lenP l - 4 * ihlP l := ⟨_, rfl⟩
  rw [← hm] at hbl
  have HM := Lib.hid hm
  clear hr hyes hvals hf ho h7 h9 h10 hw1 hfl hol hm hwh
  go_enter Try.func48, Try.ntmps48
  go_wp2_with fail
  have hq2 := (Blk.new w 43 #[.int .u32 0, .int .u32 0, .int .i64 0, .int .i64 0, .int .i64 0]).alloc (.cells #[.int .i64 0, .int .i64 0, .int .i64 0, .int .i64 0, .int .i64 0, .int .i64 0, .int .i64 0, .int .i64 0, .int .i64 0, .int .u32 0, .int .u32 0] 24)
  have hq3 : Blk ((w.alloc (.cells #[.int .u32 0, .int .u32 0, .int .i64 0, .int .i64 0, .int .i64 0] 43)).alloc (.cells #[.int .i64 0, .int .i64 0, .int .i64 0, .int .i64 0, .int .i64 0, .int .i64 0, .int .i64 0, .int .i64 0, .int .i64 0, .int .u32 0, .int .u32 0] 24)) (w.heap.size + 1) 24 #[.int .i64 0, .int .i64 0, .int .i64 0, .int .i64 0, .int .i64 0, .int .i64 0, .int .i64 0, .int .i64 0, .int .i64 0, .int .u32 0, .int .u32 0] := Blk.new_ (by simp)
  have hB := ((Below.refl w.heap.size w).alloc (Nat.le_refl _) (.cells #[.int .u32 0, .int .u32 0, .int .i64 0, .int .i64 0, .int .i64 0] 43)).alloc (by simp) (.cells #[.int .i64 0, .int .i64 0, .int .i64 0, .int .i64 0, .int .i64 0, .int .i64 0, .int .i64 0, .int .i64 0, .int .i64 0, .int .u32 0, .int .u32 0] 24)
  refine (CP.out _ hB).mono ?_
  rintro e w1 ⟨hret, hb1⟩
  obtain ⟨A1, c1, rfl, hown⟩ := hret.yes HY.out.1
  rw [HY.out.2, ← HM.out]
  rw [← HM.out] at hown
  have hq2 := hq2.below hb1 hq2.lt
  have hq3 := hq3.below hb1 hq3.lt
  have hB := hB.trans (hb1.mono hB.size)
  have hq2' := hq2
  have hq3' := hq3
  have hq2 := hq2.alloc (.cells #[.int .i64 (y0 : Int), .int .i64 (y1 : Int), .int .i64 (y2 : Int), .int .i64 (y3 : Int), .int .i64 (f : Int), .int .i64 (o : Int), .int .i64 (y6 : Int), .int .i64 (y7 : Int), .int .i64 (y8 : Int), .int .u32 (y9 : Int), .int .u32 (y10 : Int)] 24)
  have hq3 := hq3.alloc (.cells #[.int .i64 (y0 : Int), .int .i64 (y1 : Int), .int .i64 (y2 : Int), .int .i64 (y3 : Int), .int .i64 (f : Int), .int .i64 (o : Int), .int .i64 (y6 : Int), .int .i64 (y7 : Int), .int .i64 (y8 : Int), .int .u32 (y9 : Int), .int .u32 (y10 : Int)] 24)
  have hB := hB.alloc hB.size (.cells #[.int .i64 (y0 : Int), .int .i64 (y1 : Int), .int .i64 (y2 : Int), .int .i64 (y3 : Int), .int .i64 (f : Int), .int .i64 (o : Int), .int .i64 (y6 : Int), .int .i64 (y7 : Int), .int .i64 (y8 : Int), .int .u32 (y9 : Int), .int .u32 (y10 : Int)] 24)
  have HQ6 : Hid (w.heap.size < w1.heap.size ∧ w.heap.size + 1 < w1.heap.size) := ⟨by have := hq2'.lt; omega, by have := hq3'.lt; omega⟩
  have hq6 := Blk.new w1 24 #[.int .i64 (y0 : Int), .int .i64 (y1 : Int), .int .i64 (y2 : Int), .int .i64 (y3 : Int), .int .i64 (f : Int), .int .i64 (o : Int), .int .i64 (y6 : Int), .int .i64 (y7 : Int), .int .i64 (y8 : Int), .int .u32 (y9 : Int), .int .u32 (y10 : Int)]
  have HBASE : Hid (w.heap.size ≤ ((w.alloc (.cells #[.int .u32 0, .int .u32 0, .int .i64 0, .int .i64 0, .int .i64 0] 43)).alloc (.cells #[.int .i64 0, .int .i64 0, .int .i64 0, .int .i64 0, .int .i64 0, .int .i64 0, .int .i64 0, .int .i64 0, .int .i64 0, .int .u32 0, .int .u32 0] 24)).heap.size) := by show _ ≤ _; simp; omega
  have hown := hown.alloc (.cells #[.int .i64 (y0 : Int), .int .i64 (y1 : Int), .int .i64 (y2 : Int), .int .i64 (y3 : Int), .int .i64 (f : Int), .int .i64 (o : Int), .int .i64 (y6 : Int), .int .i64 (y7 : Int), .int .i64 (y8 : Int), .int .u32 (y9 : Int), .int .u32 (y10 : Int)] 24)
  clear hret hb1 CP
  obtain ⟨q, hq⟩ : ∃ q, q = w.heap.size := ⟨_, rfl⟩
  rw [← hq] at hq2 hq3 HQ6 ⊢
  clear hq2' hq3'
  have HQ := Lib.hid hq
  clear hq
  go_wp2_with fail
  refine (CW.out _).mono ?_
  rintro e w2 ⟨rfl, hb2⟩
  have hq2 := hq2.below hb2 hq2.lt
  have hq3 := hq3.below hb2 hq3.lt
  have hq6 := hq6.below hb2 hq6.lt
  have hown := own_below hown hb2
  have hB := hB.trans (hb2.mono hB.size)
  clear hb2 CW
  have hc7 := hq6.cell 7
  simp only [List.getElem?_toArray, List.getElem?_cons_zero, List.getElem?_cons_succ] at hc7
  have hb6 : ((y7 : Int) == 6) = false := by have := HP7.out; simp; omega
  have hb17 : ((y7 : Int) == 17) = true := by have := HP7.out; simp; omega
  have CT := Lib.hid (udp_any A1 m c1 w2.heap.size (bodyP l) w2 (Reads.of_own hown) (Nat.le_refl _) hbl (own_cap hown) HBA.out)
  rw [HTC.out] at CT
  clear HP7
  go_wp2_with fail
  refine CT.out.mono ?_
  rintro e w3 ⟨rfl, hb3⟩
  have hq2 := hq2.below hb3 hq2.lt
  have hq3 := hq3.below hb3 hq3.lt
  have hq6 := hq6.below hb3 hq6.lt
  have hown := own_below hown hb3
  have hB := hB.trans (hb3.mono hB.size)
  clear hb3 CT hc7
  obtain ⟨w2, hww⟩ : ∃ w, w = w3 := ⟨_, rfl⟩
  subst hww
  have hc7 := hq6.cell 7
  simp only [List.getElem?_toArray, List.getElem?_cons_zero, List.getElem?_cons_succ] at hc7
  obtain ⟨g, hA1, hg1, hg2⟩ := own_head hown (by have := HLEN.out; have := (Reads.of_own hown).length; omega)
  have CN := Lib.hid (newreader_any A1 m c1 w2.heap.size (bodyP l) w2 (Reads.of_own hown) (Nat.le_refl _) hbl (fun h => by rw [h] at hA1; cases hA1))
  have hlm := (Reads.of_own hown).length
  have HL := Lib.hid (And.intro hlm HLEN.out)
  have CU := Lib.hid (fun p j w' (hj : j + 2 ≤ (bodyP l).length) => u16r_at p j (bodyP l) w' hj (by omega) HBA.out)
  clear hA1 hg1 hg2 hlm HLEN HBA
  go_wp2_with fail
  refine CN.out.mono ?_
  rintro e w3 ⟨p, rfl, hpp, hrb, hb3⟩
  clear CN
  have hc9 := (hq6.below hb3 hq6.lt).cell 9
  have hc10 := (hq6.below hb3 hq6.lt).cell 10
  have hc7 := (hq6.below hb3 hq6.lt).cell 7
  simp only [List.getElem?_toArray, List.getElem?_cons_zero, List.getElem?_cons_succ] at hc7 hc9 hc10
  go_wp2_with fail
  obtain ⟨qt, hqt⟩ : ∃ qt, qt = w3.heap.size := ⟨_, rfl⟩
  have hpt : p < qt := by rw [hqt]; exact hrb.lt
  have hT := Blk.new w3 43 #[.int .u32 (y9 : Int), .int .u32 (y10 : Int), .int .i64 (y7 : Int), .int .i64 0, .int .i64 0]
  have hbb : Below w2.heap.size w2 (w3.alloc (.cells #[.int .u32 (y9 : Int), .int .u32 (y10 : Int), .int .i64 (y7 : Int), .int .i64 0, .int .i64 0] 43)) := hb3.alloc hb3.size _
  have hrb0 : RBuf (w3.alloc (.cells #[.int .u32 (y9 : Int), .int .u32 (y10 : Int), .int .i64 (y7 : Int), .int .i64 0, .int .i64 0] 43)) p ((bodyP l).drop 0) := hrb.below ((Below.refl _ _).alloc (Nat.le_refl _) _)
  have hqs : w2.heap.size ≤ qt := by rw [hqt]; exact hb3.size
  rw [← hqt] at hT ⊢
  have HQT := Lib.hid hqt
  obtain ⟨w4, hw4⟩ : ∃ w4, w4 = w3.alloc (.cells #[.int .u32 (y9 : Int), .int .u32 (y10 : Int), .int .i64 (y7 : Int), .int .i64 0, .int .i64 0] 43) := ⟨_, rfl⟩
  rw [← hw4] at hT hbb hrb0 ⊢
  clear hqt hrb hb3 hw4
  refine (CU.out p 0 w4 (by have := HL.out; omega) hrb0).mono ?_
  rintro e w5 ⟨rfl, hrb2, hg⟩
  rw [← HS.out.1]
  have hT := hT.grown hg (by intro h; cases h; omega)
  have hbb := hbb.grown hg hbb.size (fun k hk => by cases hk; exact hpp)
  have tf3 := hT.frozen 3
  have tc3 := hT.cell 3
  have tf4 := hT.frozen 4
  have tc4 := hT.cell 4
  simp only [List.getElem?_toArray, List.getElem?_cons_zero, List.getElem?_cons_succ] at tc3 tc4
  clear hg hrb0
  go_wp2_with fail
  have hT5 := hT.set_ 3 (.int .i64 (s0 : Int))
  simp only [List.setIfInBounds_toArray, List.set_cons_zero, List.set_cons_succ] at hT5
  have hb56 : Below qt w5 (w5.setCell ⟨qt, 3, none⟩ (.int .i64 (s0 : Int))) := (Below.refl _ _).setCell (p := ⟨qt, 3, none⟩) (Nat.le_refl _) _
  have hrb2 := hrb2.behind hb56 hpt
  have hbb := hbb.trans (hb56.mono hqs)
  clear hT hb56 tf3 tc3 tf4 tc4
  obtain ⟨w6, hw6⟩ : ∃ w6, w6 = w5.setCell ⟨qt, 3, none⟩ (.int .i64 (s0 : Int)) := ⟨_, rfl⟩
  rw [← hw6] at hT5 hrb2 hbb ⊢
  clear hw6
  refine (CU.out p 2 w6 (by have := HL.out; omega) hrb2).mono ?_
  rintro e w7 ⟨rfl, hrb4, hg⟩
  rw [← HS.out.2]
  have hT := hT5.grown hg (by intro h; cases h; omega)
  have hbb := hbb.grown hg hbb.size (fun k hk => by cases hk; exact hpp)
  have tf4 := hT.frozen 4
  have tc4 := hT.cell 4
  simp only [List.getElem?_toArray, List.getElem?_cons_zero, List.getElem?_cons_succ] at tc4
  clear hg hrb2 hrb4
  go_wp2_with fail
  have hT8 := hT.set_ 4 (.int .i64 (s2 : Int))
  simp only [List.setIfInBounds_toArray, List.set_cons_zero, List.set_cons_succ] at hT8
  have hb78 : Below qt w7 (w7.setCell ⟨qt, 4, none⟩ (.int .i64 (s2 : Int))) := (Below.refl _ _).setCell (p := ⟨qt, 4, none⟩) (Nat.le_refl _) _
  have hbb := hbb.trans (hb78.mono hqs)
  obtain ⟨w8, hw8⟩ : ∃ w8, w8 = w7.setCell ⟨qt, 4, none⟩ (.int .i64 (s2 : Int)) := ⟨_, rfl⟩
  rw [← hw8] at hT8 hbb ⊢
  clear hw8 hb78 hT tf4 tc4 CU hpp hpt HQT
  have n2 := hq2.lt
  have n3 := hq3.lt
  have n6 := hq6.lt
  have hq2 := hq2.below hbb hq2.lt
  have hq3 := hq3.below hbb hq3.lt
  have hq6' := hq6.below hbb hq6.lt
  have hown := own_lower (own_below hown hbb) HBASE.out
  clear HBASE
  have hB := hB.trans (hbb.mono hB.size)
  obtain ⟨q6, hq6e⟩ : ∃ q6, q6 = w1.heap.size := ⟨_, rfl⟩
  rw [← hq6e] at hq6' n6 ⊢
  have e1 : ¬ q6 = q := by rw [hq6e]; have := HQ6.out.1; omega
  have e2 : ¬ q6 = q + 1 := by rw [hq6e]; have := HQ6.out.2; omega
  have e3 : ¬ qt = q := by omega
  have e4 : ¬ qt = q + 1 := by omega
  have e5 : ¬ q = q6 := fun h => e1 h.symm
  have e6 : ¬ q + 1 = q6 := fun h => e2 h.symm
  have e7 : ¬ q = qt := fun h => e3 h.symm
  have e8 : ¬ q + 1 = qt := fun h => e4 h.symm
  clear hq6 hq6e hbb n2 n3 n6 hqs HQ6
  have u0 := hT8.cell 0
  have u1 := hT8.cell 1
  have u2 := hT8.cell 2
  have u3 := hT8.cell 3
  have u4 := hT8.cell 4
  simp only [List.getElem?_toArray, List.getElem?_cons_zero, List.getElem?_cons_succ] at u0 u1 u2 u3 u4
  have v0 := hq6'.cell 0
  have v1 := hq6'.cell 1
  have v2 := hq6'.cell 2
  have v3 := hq6'.cell 3
  have v4 := hq6'.cell 4
  have v5 := hq6'.cell 5
  have v6 := hq6'.cell 6
  have v7 := hq6'.cell 7
  have v8 := hq6'.cell 8
  have v9 := hq6'.cell 9
  have v10 := hq6'.cell 10
  simp only [List.getElem?_toArray, List.getElem?_cons_zero, List.getElem?_cons_succ] at v0 v1 v2 v3 v4 v5 v6 v7 v8 v9 v10
  have ff0 := hq2.frozen 0
  have ff1 := hq2.frozen 1
  have ff2 := hq2.frozen 2
  have ff3 := hq2.frozen 3
  have ff4 := hq2.frozen 4
  have gg0 := hq3.frozen 0
  have gg1 := hq3.frozen 1
  have gg2 := hq3.frozen 2
  have gg3 := hq3.frozen 3
  have gg4 := hq3.frozen 4
  have gg5 := hq3.frozen 5
  have gg6 := hq3.frozen 6
  have gg7 := hq3.frozen 7
  have gg8 := hq3.frozen 8
  have gg9 := hq3.frozen 9
  have gg10 := hq3.frozen 10
  have fc0 := hq2.cell 0
  have fc1 := hq2.cell 1
  have fc2 := hq2.cell 2
  have fc3 := hq2.cell 3
  have fc4 := hq2.cell 4
  simp only [List.getElem?_toArray, List.getElem?_cons_zero, List.getElem?_cons_succ] at fc0 fc1 fc2 fc3 fc4
  have gc0 := hq3.cell 0
  have gc1 := hq3.cell 1
  have gc2 := hq3.cell 2
  have gc3 := hq3.cell 3
  have gc4 := hq3.cell 4
  have gc5 := hq3.cell 5
  have gc6 := hq3.cell 6
  have gc7 := hq3.cell 7
  have gc8 := hq3.cell 8
  have gc9 := hq3.cell 9
  have gc10 := hq3.cell 10
  simp only [List.getElem?_toArray, List.getElem?_cons_zero, List.getElem?_cons_succ] at gc0 gc1 gc2 gc3 gc4 gc5 gc6 gc7 gc8 gc9 gc10
  go_region
  go_wp2_with fail
  have O0 := hown
  have KA0 := hq2
  have KB0 := hq3
  have O1 := own_set_far O0 KA0 (by decide) 0 (.int .u32 (y9 : Int))
  have KA1 := KA0.set_ 0 (.int .u32 (y9 : Int))
  have KB1 := KB0.far (p := ⟨q, 0, none⟩) (by show q + 1 ≠ q; omega) (.int .u32 (y9 : Int))
  clear O0
  have O2 := own_set_far O1 KA1 (by decide) 1 (.int .u32 (y10 : Int))
  have KA2 := KA1.set_ 1 (.int .u32 (y10 : Int))
  have KB2 := KB1.far (p := ⟨q, 1, none⟩) (by show q + 1 ≠ q; omega) (.int .u32 (y10 : Int))
  clear O1
  have O3 := own_set_far O2 KA2 (by decide) 2 (.int .i64 (y7 : Int))
  have KA3 := KA2.set_ 2 (.int .i64 (y7 : Int))
  have KB3 := KB2.far (p := ⟨q, 2, none⟩) (by show q + 1 ≠ q; omega) (.int .i64 (y7 : Int))
  clear O2
  have O4 := own_set_far O3 KA3 (by decide) 3 (.int .i64 (s0 : Int))
  have KA4 := KA3.set_ 3 (.int .i64 (s0 : Int))
  have KB4 := KB3.far (p := ⟨q, 3, none⟩) (by show q + 1 ≠ q; omega) (.int .i64 (s0 : Int))
  clear O3
  have O5 := own_set_far O4 KA4 (by decide) 4 (.int .i64 (s2 : Int))
  have KA5 := KA4.set_ 4 (.int .i64 (s2 : Int))
  have KB5 := KB4.far (p := ⟨q, 4, none⟩) (by show q + 1 ≠ q; omega) (.int .i64 (s2 : Int))
  clear O4
  have O6 := own_set_far O5 KB5 (by decide) 0 (.int .i64 (y0 : Int))
  have KB6 := KB5.set_ 0 (.int .i64 (y0 : Int))
  clear O5
  have O7 := own_set_far O6 KB6 (by decide) 1 (.int .i64 (y1 : Int))
  have KB7 := KB6.set_ 1 (.int .i64 (y1 : Int))
  clear O6
  have O8 := own_set_far O7 KB7 (by decide) 2 (.int .i64 (y2 : Int))
  have KB8 := KB7.set_ 2 (.int .i64 (y2 : Int))
  clear O7
  have O9 := own_set_far O8 KB8 (by decide) 3 (.int .i64 (y3 : Int))
  have KB9 := KB8.set_ 3 (.int .i64 (y3 : Int))
  clear O8
  have O10 := own_set_far O9 KB9 (by decide) 4 (.int .i64 (f : Int))
  have KB10 := KB9.set_ 4 (.int .i64 (f : Int))
  clear O9
  have O11 := own_set_far O10 KB10 (by decide) 5 (.int .i64 (o : Int))
  have KB11 := KB10.set_ 5 (.int .i64 (o : Int))
  clear O10
  have O12 := own_set_far O11 KB11 (by decide) 6 (.int .i64 (y6 : Int))
  have KB12 := KB11.set_ 6 (.int .i64 (y6 : Int))
  clear O11
  have O13 := own_set_far O12 KB12 (by decide) 7 (.int .i64 (y7 : Int))
  have KB13 := KB12.set_ 7 (.int .i64 (y7 : Int))
  clear O12
  have O14 := own_set_far O13 KB13 (by decide) 8 (.int .i64 (y8 : Int))
  have KB14 := KB13.set_ 8 (.int .i64 (y8 : Int))
  clear O13
  have O15 := own_set_far O14 KB14 (by decide) 9 (.int .u32 (y9 : Int))
  have KB15 := KB14.set_ 9 (.int .u32 (y9 : Int))
  clear O14
  have O16 := own_set_far O15 KB15 (by decide) 10 (.int .u32 (y10 : Int))
  have KB16 := KB15.set_ 10 (.int .u32 (y10 : Int))
  clear O15
  obtain ⟨wz, hwz⟩ : ∃ wz, wz = (((((((((((((((((w8).setCell ⟨q, 0, none⟩ (.int .u32 (y9 : Int))).setCell ⟨q, 1, none⟩ (.int .u32 (y10 : Int))).setCell ⟨q, 2, none⟩ (.int .i64 (y7 : Int))).setCell ⟨q, 3, none⟩ (.int .i64 (s0 : Int))).setCell ⟨q, 4, none⟩ (.int .i64 (s2 : Int))).setCell ⟨q + 1, 0, none⟩ (.int .i64 (y0 : Int))).setCell ⟨q + 1, 1, none⟩ (.int .i64 (y1 : Int))).setCell ⟨q + 1, 2, none⟩ (.int .i64 (y2 : Int))).setCell ⟨q + 1, 3, none⟩ (.int .i64 (y3 : Int))).setCell ⟨q + 1, 4, none⟩ (.int .i64 (f : Int))).setCell ⟨q + 1, 5, none⟩ (.int .i64 (o : Int))).setCell ⟨q + 1, 6, none⟩ (.int .i64 (y6 : Int))).setCell ⟨q + 1, 7, none⟩ (.int .i64 (y7 : Int))).setCell ⟨q + 1, 8, none⟩ (.int .i64 (y8 : Int))).setCell ⟨q + 1, 9, none⟩ (.int .u32 (y9 : Int))).setCell ⟨q + 1, 10, none⟩ (.int .u32 (y10 : Int))).drew := ⟨_, rfl⟩
  have hz2 : Blk wz q 43 #[.int .u32 (y9 : Int), .int .u32 (y10 : Int), .int .i64 (y7 : Int), .int .i64 (s0 : Int), .int .i64 (s2 : Int)] := by
    rw [hwz]
    have hset := ((((((((((((((((hq2).set_ 0 (.int .u32 (y9 : Int))).set_ 1 (.int .u32 (y10 : Int))).set_ 2 (.int .i64 (y7 : Int))).set_ 3 (.int .i64 (s0 : Int))).set_ 4 (.int .i64 (s2 : Int))).far (p := ⟨q + 1, 0, none⟩) (by show q ≠ q + 1; omega) (.int .i64 (y0 : Int))).far (p := ⟨q + 1, 1, none⟩) (by show q ≠ q + 1; omega) (.int .i64 (y1 : Int))).far (p := ⟨q + 1, 2, none⟩) (by show q ≠ q + 1; omega) (.int .i64 (y2 : Int))).far (p := ⟨q + 1, 3, none⟩) (by show q ≠ q + 1; omega) (.int .i64 (y3 : Int))).far (p := ⟨q + 1, 4, none⟩) (by show q ≠ q + 1; omega) (.int .i64 (f : Int))).far (p := ⟨q + 1, 5, none⟩) (by show q ≠ q + 1; omega) (.int .i64 (o : Int))).far (p := ⟨q + 1, 6, none⟩) (by show q ≠ q + 1; omega) (.int .i64 (y6 : Int))).far (p := ⟨q + 1, 7, none⟩) (by show q ≠ q + 1; omega) (.int .i64 (y7 : Int))).far (p := ⟨q + 1, 8, none⟩) (by show q ≠ q + 1; omega) (.int .i64 (y8 : Int))).far (p := ⟨q + 1, 9, none⟩) (by show q ≠ q + 1; omega) (.int .u32 (y9 : Int))).far (p := ⟨q + 1, 10, none⟩) (by show q ≠ q + 1; omega) (.int .u32 (y10 : Int))
    simp only [List.setIfInBounds_toArray, List.set_cons_zero, List.set_cons_succ] at hset
    exact hset.drew
  have hz3 : Blk wz (q + 1) 24 #[.int .i64 (y0 : Int), .int .i64 (y1 : Int), .int .i64 (y2 : Int), .int .i64 (y3 : Int), .int .i64 (f : Int), .int .i64 (o : Int), .int .i64 (y6 : Int), .int .i64 (y7 : Int), .int .i64 (y8 : Int), .int .u32 (y9 : Int), .int .u32 (y10 : Int)] := by
    rw [hwz]
    have hset := ((((((((((((((((hq3).far (p := ⟨q, 0, none⟩) (by show q + 1 ≠ q; omega) (.int .u32 (y9 : Int))).far (p := ⟨q, 1, none⟩) (by show q + 1 ≠ q; omega) (.int .u32 (y10 : Int))).far (p := ⟨q, 2, none⟩) (by show q + 1 ≠ q; omega) (.int .i64 (y7 : Int))).far (p := ⟨q, 3, none⟩) (by show q + 1 ≠ q; omega) (.int .i64 (s0 : Int))).far (p := ⟨q, 4, none⟩) (by show q + 1 ≠ q; omega) (.int .i64 (s2 : Int))).set_ 0 (.int .i64 (y0 : Int))).set_ 1 (.int .i64 (y1 : Int))).set_ 2 (.int .i64 (y2 : Int))).set_ 3 (.int .i64 (y3 : Int))).set_ 4 (.int .i64 (f : Int))).set_ 5 (.int .i64 (o : Int))).set_ 6 (.int .i64 (y6 : Int))).set_ 7 (.int .i64 (y7 : Int))).set_ 8 (.int .i64 (y8 : Int))).set_ 9 (.int .u32 (y9 : Int))).set_ 10 (.int .u32 (y10 : Int))
    simp only [List.setIfInBounds_toArray, List.set_cons_zero, List.set_cons_succ] at hset
    exact hset.drew
  have hBz : Below w.heap.size w wz := by
    rw [hwz]
    exact (((((((((((((((((hB).setCell (p := ⟨q, 0, none⟩) (by rw [HQ.out]; exact Nat.le_refl _) _).setCell (p := ⟨q, 1, none⟩) (by rw [HQ.out]; exact Nat.le_refl _) _).setCell (p := ⟨q, 2, none⟩) (by rw [HQ.out]; exact Nat.le_refl _) _).setCell (p := ⟨q, 3, none⟩) (by rw [HQ.out]; exact Nat.le_refl _) _).setCell (p := ⟨q, 4, none⟩) (by rw [HQ.out]; exact Nat.le_refl _) _).setCell (p := ⟨q + 1, 0, none⟩) (by rw [HQ.out]; exact Nat.le_succ _) _).setCell (p := ⟨q + 1, 1, none⟩) (by rw [HQ.out]; exact Nat.le_succ _) _).setCell (p := ⟨q + 1, 2, none⟩) (by rw [HQ.out]; exact Nat.le_succ _) _).setCell (p := ⟨q + 1, 3, none⟩) (by rw [HQ.out]; exact Nat.le_succ _) _).setCell (p := ⟨q + 1, 4, none⟩) (by rw [HQ.out]; exact Nat.le_succ _) _).setCell (p := ⟨q + 1, 5, none⟩) (by rw [HQ.out]; exact Nat.le_succ _) _).setCell (p := ⟨q + 1, 6, none⟩) (by rw [HQ.out]; exact Nat.le_succ _) _).setCell (p := ⟨q + 1, 7, none⟩) (by rw [HQ.out]; exact Nat.le_succ _) _).setCell (p := ⟨q + 1, 8, none⟩) (by rw [HQ.out]; exact Nat.le_succ _) _).setCell (p := ⟨q + 1, 9, none⟩) (by rw [HQ.out]; exact Nat.le_succ _) _).setCell (p := ⟨q + 1, 10, none⟩) (by rw [HQ.out]; exact Nat.le_succ _) _).drew
  have hownz : wz.ownsRow w.heap.size 5 1 (.slice A1 m c1) m (bv (bodyP l)) := by
    rw [hwz]
    exact own_drew O16
  rw [← hwz]
  clear hwz
  have ra0 := hz2.cell 0
  have ra1 := hz2.cell 1
  have ra2 := hz2.cell 2
  have ra3 := hz2.cell 3
  have ra4 := hz2.cell 4
  simp only [List.getElem?_toArray, List.getElem?_cons_zero, List.getElem?_cons_succ] at ra0 ra1 ra2 ra3 ra4
  have rb0 := hz3.cell 0
  have rb1 := hz3.cell 1
  have rb2 := hz3.cell 2
  have rb3 := hz3.cell 3
  have rb4 := hz3.cell 4
  have rb5 := hz3.cell 5
  have rb6 := hz3.cell 6
  have rb7 := hz3.cell 7
  have rb8 := hz3.cell 8
  have rb9 := hz3.cell 9
  have rb10 := hz3.cell 10
  simp only [List.getElem?_toArray, List.getElem?_cons_zero, List.getElem?_cons_succ] at rb0 rb1 rb2 rb3 rb4 rb5 rb6 rb7 rb8 rb9 rb10
  exact bodyPost_ret (v := .tuple #[.agg #[.int .u32 (y9 : Int), .int .u32 (y10 : Int), .int .i64 (y7 : Int), .int .i64 (s0 : Int), .int .i64 (s2 : Int)], .agg #[.int .i64 (y0 : Int), .int .i64 (y1 : Int), .int .i64 (y2 : Int), .int .i64 (y3 : Int), .int .i64 (f : Int), .int .i64 (o : Int), .int .i64 (y6 : Int), .int .i64 (y7 : Int), .int .i64 (y8 : Int), .int .u32 (y9 : Int), .int .u32 (y10 : Int)], .slice A1 m c1, .int .i64 0]) (by simp [results, Try.results48, go_sem, ra0, ra1, ra2, ra3, ra4, rb0, rb1, rb2, rb3, rb4, rb5, rb6, rb7, rb8, rb9, rb10]) rfl ⟨by
    left
    refine ⟨HT.out, A1, c1, ?_, ?_⟩
    · rw [HTU.out, HY.out.2, ← HM.out]
    · rw [← HM.out]; exact hownz, hBz⟩
  end Go.Proofs.Ytpgbldpppdmdoaa
