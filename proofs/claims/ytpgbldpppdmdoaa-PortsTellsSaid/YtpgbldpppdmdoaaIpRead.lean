/- The walk of ip's read: a header out of bytes. -/
import Derived.Test.YtpgbldpppdmdoaaIpPlain
import Derived.BigRegion
import Derived.StillTailTactics
namespace Go.Proofs.Ytpgbldpppdmdoaa
set_option linter.unusedVariables false
set_option linter.unusedSimpArgs false
open Go.RowKit

theorem numLeft_at {p j k : Nat} {l : List Nat} {w w' : World} (h : NumLeft p k (l.drop j) w w') : RBuf w' p (l.drop (j + k)) ∧ w.grownBy w' (some p) := by
  obtain ⟨h1, h2⟩ := h
  rw [List.drop_drop] at h1
  exact ⟨h1, h2⟩
theorem u8r_at (p j : Nat) (l : List Nat) (w : World) (hj : j + 1 ≤ l.length) (hl : l.length ≤ 140737488355328) (ha : AllB l) (h : RBuf w p (l.drop j)) :
    Calls Try.prog 54 #[.pointer (some ⟨p, 0, none⟩)] w fun e w' => e = .returned (.int .i64 (at' l j : Nat)) ∧ RBuf w' p (l.drop (j + 1)) ∧ w.grownBy w' (some p) := by
  refine (u8r_any p (l.drop j) w (by simp; omega) (by simp; omega) (ha.drop j) h).mono ?_
  rintro e w' ⟨he, hn⟩
  rw [nb_at (by omega)] at he
  exact ⟨he, numLeft_at hn⟩
theorem u16r_at (p j : Nat) (l : List Nat) (w : World) (hj : j + 2 ≤ l.length) (hl : l.length ≤ 140737488355328) (ha : AllB l) (h : RBuf w p (l.drop j)) :
    Calls Try.prog 55 #[.pointer (some ⟨p, 0, none⟩)] w fun e w' => e = .returned (.int .i64 (two' l j : Nat)) ∧ RBuf w' p (l.drop (j + 2)) ∧ w.grownBy w' (some p) := by
  refine (u16r_any p (l.drop j) w (by simp; omega) (by simp; omega) (ha.drop j) h).mono ?_
  rintro e w' ⟨he, hn⟩
  rw [nb_two (by omega)] at he
  exact ⟨he, numLeft_at hn⟩
theorem u32r_at (p j : Nat) (l : List Nat) (w : World) (hj : j + 4 ≤ l.length) (hl : l.length ≤ 140737488355328) (ha : AllB l) (h : RBuf w p (l.drop j)) :
    Calls Try.prog 56 #[.pointer (some ⟨p, 0, none⟩)] w fun e w' => e = .returned (.int .u32 (four' l j : Nat)) ∧ RBuf w' p (l.drop (j + 4)) ∧ w.grownBy w' (some p) := by
  refine (u32r_any p (l.drop j) w (by simp; omega) (by simp; omega) (ha.drop j) h).mono ?_
  rintro e w' ⟨he, hn⟩
  rw [nb_four (by omega)] at he
  exact ⟨he, numLeft_at hn⟩

set_option maxHeartbeats 1000000 in
set_option maxRecDepth 100000 in
theorem read_any (A : Option Addr) (n c B : Nat) (l : List Nat) (w : World) (hr : Reads w B 1 A n (bv l)) (hB : B ≤ w.heap.size) (hn : n ≤ 140737488355328) (h20 : 20 ≤ n) (ha : AllB l) :
    Calls Try.prog 41 #[.slice A n c] w fun e w' => e = .returned (.tuple #[.int .i64 ((at' l 0 / 16 : Nat) : Int), .agg (hdP l).vals]) ∧ Below w.heap.size w w' := by
  have hlen := hr.length
  have hnil : A = none → c = 0 := by
    intro e
    obtain ⟨_, h, _⟩ := hr.2 (by omega)
    rw [e] at h; cases h
  have C1 := Lib.hid (fun w' (hb : Below w.heap.size w w') => newreader_any A n c w'.heap.size l w' ((hr.below (hb.mono hB)).more (Nat.le_trans hB hb.size)) (Nat.le_refl _) hn hnil)
  have U8 := Lib.hid (fun p j w => u8r_at p j l w)
  have U16 := Lib.hid (fun p j w => u16r_at p j l w)
  have U32 := Lib.hid (fun p j w => u32r_at p j l w)
  have HL := Lib.hid (And.intro (show 20 ≤ l.length by omega) (And.intro (show l.length ≤ 140737488355328 by omega) ha))
  obtain ⟨R, hR⟩ : ∃ R, R = Value.tuple #[.int .i64 ((at' l 0 / 16 : Nat) : Int), .agg (hdP l).vals] := ⟨_, rfl⟩
  rw [← hR]
  have HP : Hid (R = .tuple #[.int .i64 ((at' l 0 / 16 : Nat) : Int), .agg #[.int .i64 ((at' l 0 % 16 : Nat) : Int), .int .i64 (at' l 1 : Nat), .int .i64 (two' l 2 : Nat), .int .i64 (two' l 4 : Nat), .int .i64 ((two' l 6 / 8192 : Nat) : Int), .int .i64 ((two' l 6 % 8192 : Nat) : Int), .int .i64 (at' l 8 : Nat), .int .i64 (at' l 9 : Nat), .int .i64 (two' l 10 : Nat), .int .u32 (four' l 12 : Nat), .int .u32 (four' l 16 : Nat)]]) := hR
  clear hR
  have b0 := at_lt ha 0
  have b1 := at_lt ha 1
  have b2 := two_lt ha 2
  have b4 := two_lt ha 4
  have b6 := two_lt ha 6
  have b8 := at_lt ha 8
  have b9 := at_lt ha 9
  have b10 := two_lt ha 10
  have b12 := four_lt ha 12
  have b16 := four_lt ha 16
  clear hlen hnil hr hB ha
  go_enter Try.func41, Try.ntmps41
  go_wp2_with fail
  refine (C1.out _ ((Below.refl _ _).alloc (Nat.le_refl _) _)).mono ?_
  rintro e w1 ⟨p, rfl, hp, hrb, hb1⟩
  have hB1 : Below w.heap.size w w1 := ((Below.refl _ _).alloc (Nat.le_refl _) _).trans (hb1.mono (by simp))
  have hres := (Blk.new w 24 #[.int .i64 0, .int .i64 0, .int .i64 0, .int .i64 0, .int .i64 0, .int .i64 0, .int .i64 0, .int .i64 0, .int .i64 0, .int .u32 0, .int .u32 0]).below hb1 (by simp)
  have hpw : w.heap.size < p := by simp at hp; omega
  have hs1 := hB1.size
  obtain ⟨q, hq⟩ : ∃ q, q = w.heap.size := ⟨_, rfl⟩
  rw [← hq] at hres hpw ⊢
  have HQ := Lib.hid hq
  have hrb0 : RBuf w1 p (l.drop 0) := hrb
  clear hb1 hp hrb C1 hq
  go_wp2_with fail
  refine (U8.out p 0 w1 (by have := HL.out.1; omega) HL.out.2.1 HL.out.2.2 hrb0).mono ?_
  rintro e w2 ⟨rfl, hrb1, hg1⟩
  have hB2 : Below w.heap.size w w2 := hB1.grown hg1 hs1 (fun k hk => by cases hk; have := HQ.out; omega)
  have hres2 := hres.grown hg1 (by intro h; cases h; omega)
  clear hg1 hrb0 hres hB1 hs1
  have hmask : bits BinOp.and IntKind.i64 ((at' l 0 : Nat) : Int) 15 = ((at' l 0 % 16 : Nat) : Int) := by
    have := i64_and_nat (at' l 0) 15 (by omega) (by omega)
    rw [nat_mask4] at this
    exact this
  have hdiv : ((at' l 0 : Nat) : Int) / 16 = ((at' l 0 / 16 : Nat) : Int) := by omega
  have hmod := Lib.hid (show at' l 0 % 16 < 16 by omega)
  generalize at' l 0 = x0 at *
  go_wp2_with fail
  refine (U8.out p 1 w2 (by have := HL.out.1; omega) HL.out.2.1 HL.out.2.2 hrb1).mono ?_
  rintro e w3 ⟨rfl, hrb2, hg2⟩
  have hB3 : Below w.heap.size w w3 := hB2.grown hg2 hB2.size (fun k hk => by cases hk; have := HQ.out; omega)
  have hres3 := hres2.grown hg2 (by intro h; cases h; omega)
  clear hg2 hrb1 hres2 hB2 
  generalize at' l 1 = x1 at *
  go_wp2_with fail
  refine (U16.out p 2 w3 (by have := HL.out.1; omega) HL.out.2.1 HL.out.2.2 hrb2).mono ?_
  rintro e w4 ⟨rfl, hrb4, hg3⟩
  have hB4 : Below w.heap.size w w4 := hB3.grown hg3 hB3.size (fun k hk => by cases hk; have := HQ.out; omega)
  have hres4 := hres3.grown hg3 (by intro h; cases h; omega)
  clear hg3 hrb2 hres3 hB3
  generalize two' l 2 = x2 at *
  go_wp2_with fail
  refine (U16.out p 4 w4 (by have := HL.out.1; omega) HL.out.2.1 HL.out.2.2 hrb4).mono ?_
  rintro e w5 ⟨rfl, hrb6, hg4⟩
  have hB5 : Below w.heap.size w w5 := hB4.grown hg4 hB4.size (fun k hk => by cases hk; have := HQ.out; omega)
  have hres5 := hres4.grown hg4 (by intro h; cases h; omega)
  clear hg4 hrb4 hres4 hB4
  generalize two' l 4 = x4 at *
  go_wp2_with fail
  obtain ⟨w6, hw6⟩ : ∃ w6, w6 = w5.alloc (.cells #[.int .i64 ((x0 : Int) % 16), .int .i64 (x1 : Int), .int .i64 (x2 : Int), .int .i64 (x4 : Int), .int .i64 0, .int .i64 0, .int .i64 0, .int .i64 0, .int .i64 0, .int .u32 0, .int .u32 0] 24) := ⟨_, rfl⟩
  obtain ⟨ph, hph⟩ : ∃ ph, ph = w5.heap.size := ⟨_, rfl⟩
  have hbh : Blk w6 ph 24 #[.int .i64 ((x0 : Int) % 16), .int .i64 (x1 : Int), .int .i64 (x2 : Int), .int .i64 (x4 : Int), .int .i64 0, .int .i64 0, .int .i64 0, .int .i64 0, .int .i64 0, .int .u32 0, .int .u32 0] := by rw [hw6, hph]; exact Blk.new _ _ _
  have hrb6' : RBuf w6 p (l.drop 6) := by rw [hw6]; exact hrb6.below ((Below.refl _ _).alloc (Nat.le_refl _) _)
  have hres6 := hres5.alloc (.cells #[.int .i64 ((x0 : Int) % 16), .int .i64 (x1 : Int), .int .i64 (x2 : Int), .int .i64 (x4 : Int), .int .i64 0, .int .i64 0, .int .i64 0, .int .i64 0, .int .i64 0, .int .u32 0, .int .u32 0] 24)
  have hB6 : Below w.heap.size w w6 := by rw [hw6]; exact hB5.alloc hB5.size _
  have hpp : p < ph := by rw [hph]; exact hrb6.lt
  rw [← hw6] at hres6 ⊢
  rw [← hph]
  have hqh : q < ph := by omega
  clear hw6 hph hres5 hB5 hrb6
  refine (U16.out p 6 w6 (by have := HL.out.1; omega) HL.out.2.1 HL.out.2.2 hrb6').mono ?_
  rintro e w7 ⟨rfl, hrb8, hg6⟩
  have hB7 : Below w.heap.size w w7 := hB6.grown hg6 hB6.size (fun k hk => by cases hk; have := HQ.out; omega)
  have hres7 := hres6.grown hg6 (by intro h; cases h; omega)
  have hbh7 := hbh.grown hg6 (by intro h; cases h; omega)
  have hf4 := hbh7.frozen 4
  have hf5 := hbh7.frozen 5
  have hc4 := hbh7.cell 4
  have hc5 := hbh7.cell 5
  simp only [List.getElem?_toArray, List.getElem?_cons_zero, List.getElem?_cons_succ] at hc4 hc5
  clear hg6 hrb6' hres6 hB6 hbh
  have hmask6 : bits BinOp.and IntKind.i64 ((two' l 6 : Nat) : Int) 8191 = ((two' l 6 : Nat) : Int) % 8192 := by
    have := i64_and_nat (two' l 6) 8191 (by omega) (by omega)
    rw [nat_mask13] at this
    exact this.trans (by omega)
  generalize two' l 6 = x6 at *
  go_wp2_with fail
  obtain ⟨w8, hw8⟩ : ∃ w8, w8 = (w7.setCell ⟨ph, 4, none⟩ (.int .i64 ((x6 : Int) / 8192))).setCell ⟨ph, 5, none⟩ (.int .i64 ((x6 : Int) % 8192)) := ⟨_, rfl⟩
  have hb78 : Below ph w7 w8 := by rw [hw8]; exact ((Below.refl _ _).setCell (p := ⟨ph, 4, none⟩) (Nat.le_refl _) _).setCell (p := ⟨ph, 5, none⟩) (Nat.le_refl _) _
  have hbh8 := (hbh7.set_ 4 (.int .i64 ((x6 : Int) / 8192))).set_ 5 (.int .i64 ((x6 : Int) % 8192))
  rw [← hw8] at hbh8 ⊢
  have hrb8' := hrb8.behind hb78 hpp
  have hres8 := hres7.below hb78 hqh
  have hB8 : Below w.heap.size w w8 := hB7.trans (hb78.mono (by have := HQ.out; omega))
  clear hw8 hb78 hbh7 hrb8 hres7 hB7 hf4 hf5 hc4 hc5
  refine (U8.out p 8 w8 (by have := HL.out.1; omega) HL.out.2.1 HL.out.2.2 hrb8').mono ?_
  rintro e w9 ⟨rfl, hrb9, hg8⟩
  have hB9 : Below w.heap.size w w9 := hB8.grown hg8 hB8.size (fun k hk => by cases hk; have := HQ.out; omega)
  have hres9 := hres8.grown hg8 (by intro h; cases h; omega)
  have hbh9 := hbh8.grown hg8 (by intro h; cases h; omega)
  clear hg8 hrb8' hres8 hB8 hbh8
  generalize at' l 8 = x8 at *
  go_wp2_with fail
  refine (U8.out p 9 w9 (by have := HL.out.1; omega) HL.out.2.1 HL.out.2.2 hrb9).mono ?_
  rintro e w10 ⟨rfl, hrb10, hg9⟩
  have hB10 : Below w.heap.size w w10 := hB9.grown hg9 hB9.size (fun k hk => by cases hk; have := HQ.out; omega)
  have hres10 := hres9.grown hg9 (by intro h; cases h; omega)
  have hbh10 := hbh9.grown hg9 (by intro h; cases h; omega)
  clear hg9 hrb9 hres9 hB9 hbh9
  generalize at' l 9 = x9 at *
  go_wp2_with fail
  refine (U16.out p 10 w10 (by have := HL.out.1; omega) HL.out.2.1 HL.out.2.2 hrb10).mono ?_
  rintro e w11 ⟨rfl, hrb12, hg10⟩
  have hB11 : Below w.heap.size w w11 := hB10.grown hg10 hB10.size (fun k hk => by cases hk; have := HQ.out; omega)
  have hres11 := hres10.grown hg10 (by intro h; cases h; omega)
  have hbh11 := hbh10.grown hg10 (by intro h; cases h; omega)
  clear hg10 hrb10 hres10 hB10 hbh10
  generalize two' l 10 = x10 at *
  have hf6 := hbh11.frozen 6
  have hf7 := hbh11.frozen 7
  have hf8 := hbh11.frozen 8
  have hc6 := hbh11.cell 6
  have hc7 := hbh11.cell 7
  have hc8 := hbh11.cell 8
  simp only [Array.getElem?_setIfInBounds, List.getElem?_toArray, List.getElem?_cons_zero, List.getElem?_cons_succ] at hc6 hc7 hc8
  simp at hc6 hc7 hc8
  go_wp2_with fail
  obtain ⟨w12, hw12⟩ : ∃ w12, w12 = ((w11.setCell ⟨ph, 6, none⟩ (.int .i64 (x8 : Int))).setCell ⟨ph, 7, none⟩ (.int .i64 (x9 : Int))).setCell ⟨ph, 8, none⟩ (.int .i64 (x10 : Int)) := ⟨_, rfl⟩
  have hb1112 : Below ph w11 w12 := by rw [hw12]; exact (((Below.refl _ _).setCell (p := ⟨ph, 6, none⟩) (Nat.le_refl _) _).setCell (p := ⟨ph, 7, none⟩) (Nat.le_refl _) _).setCell (p := ⟨ph, 8, none⟩) (Nat.le_refl _) _
  have hbh12 := ((hbh11.set_ 6 (.int .i64 (x8 : Int))).set_ 7 (.int .i64 (x9 : Int))).set_ 8 (.int .i64 (x10 : Int))
  rw [← hw12] at hbh12 ⊢
  have hrb12' := hrb12.behind hb1112 hpp
  have hres12 := hres11.below hb1112 hqh
  have hB12 : Below w.heap.size w w12 := hB11.trans (hb1112.mono (by have := HQ.out; omega))
  clear hw12 hb1112 hbh11 hrb12 hres11 hB11 hf6 hf7 hf8 hc6 hc7 hc8
  refine (U32.out p 12 w12 (by have := HL.out.1; omega) HL.out.2.1 HL.out.2.2 hrb12').mono ?_
  rintro e w13 ⟨rfl, hrb16, hg12⟩
  have hB13 : Below w.heap.size w w13 := hB12.grown hg12 hB12.size (fun k hk => by cases hk; have := HQ.out; omega)
  have hres13 := hres12.grown hg12 (by intro h; cases h; omega)
  have hbh13 := hbh12.grown hg12 (by intro h; cases h; omega)
  clear hg12 hrb12' hres12 hB12 hbh12
  generalize four' l 12 = x12 at *
  go_wp2_with fail
  refine (U32.out p 16 w13 (by have := HL.out.1; omega) HL.out.2.1 HL.out.2.2 hrb16).mono ?_
  rintro e w14 ⟨rfl, hrb20, hg16⟩
  have hB14 : Below w.heap.size w w14 := hB13.grown hg16 hB13.size (fun k hk => by cases hk; have := HQ.out; omega)
  have hres14 := hres13.grown hg16 (by intro h; cases h; omega)
  have hbh14 := hbh13.grown hg16 (by intro h; cases h; omega)
  clear hg16 hrb16 hrb20 hres13 hB13 hbh13
  generalize four' l 16 = x16 at *
  have hf9 := hbh14.frozen 9
  have hf10 := hbh14.frozen 10
  have hc9 := hbh14.cell 9
  have hc10 := hbh14.cell 10
  simp at hc9 hc10
  go_wp2_with fail
  obtain ⟨w15, hw15⟩ : ∃ w15, w15 = (w14.setCell ⟨ph, 9, none⟩ (.int .u32 (x12 : Int))).setCell ⟨ph, 10, none⟩ (.int .u32 (x16 : Int)) := ⟨_, rfl⟩
  have hb1415 : Below ph w14 w15 := by rw [hw15]; exact ((Below.refl _ _).setCell (p := ⟨ph, 9, none⟩) (Nat.le_refl _) _).setCell (p := ⟨ph, 10, none⟩) (Nat.le_refl _) _
  have hbh15 : Blk w15 ph 24 #[.int .i64 ((x0 : Int) % 16), .int .i64 (x1 : Int), .int .i64 (x2 : Int), .int .i64 (x4 : Int), .int .i64 ((x6 : Int) / 8192), .int .i64 ((x6 : Int) % 8192), .int .i64 (x8 : Int), .int .i64 (x9 : Int), .int .i64 (x10 : Int), .int .u32 (x12 : Int), .int .u32 (x16 : Int)] := by
    rw [hw15]
    exact (hbh14.set_ 9 (.int .u32 (x12 : Int))).set_ 10 (.int .u32 (x16 : Int))
  rw [← hw15]
  have hres15 := hres14.below hb1415 hqh
  have hB15 : Below w.heap.size w w15 := hB14.trans (hb1415.mono (by have := HQ.out; omega))
  clear hw15 hb1415 hbh14 hres14 hB14 hf9 hf10 hc9 hc10
  clear U8 U16 U32 HL b0 b1 b2 b4 b6 b8 b9 b10 b12 b16 hmask hdiv hmod hmask6
  refine wp_region_still_tail 4 (by kernel_rfl) (by kernel_rfl) ?_
  change wpStill _ _ (World.drew w15) (fun a' => wpList _ _ _ _ a' (World.drew w15)) _ _
  have hbh16 := hbh15.drew
  have hres16 := hres15.drew
  have hB16 := hB15.drew
  clear hbh15 hres15 hB15
  generalize World.drew w15 = w16 at *
  have hc0 := hbh16.cell 0
  have hc1 := hbh16.cell 1
  have hc2 := hbh16.cell 2
  have hc3 := hbh16.cell 3
  have hc4 := hbh16.cell 4
  have hc5 := hbh16.cell 5
  have hc6 := hbh16.cell 6
  have hc7 := hbh16.cell 7
  have hc8 := hbh16.cell 8
  have hc9 := hbh16.cell 9
  have hc10 := hbh16.cell 10
  simp only [List.getElem?_toArray, List.getElem?_cons_zero, List.getElem?_cons_succ] at hc0 hc1 hc2 hc3 hc4 hc5 hc6 hc7 hc8 hc9 hc10
  simp only [List.take_succ_cons, List.take_zero, List.drop_succ_cons, List.drop_zero]
  repeat still_step
  refine wpStill_nil ?_
  clear hc0 hc1 hc2 hc3 hc4 hc5 hc6 hc7 hc8 hc9 hc10
  have he0 := hres16.cell 0
  have he1 := hres16.cell 1
  have he2 := hres16.cell 2
  have he3 := hres16.cell 3
  have he4 := hres16.cell 4
  have he5 := hres16.cell 5
  have he6 := hres16.cell 6
  have he7 := hres16.cell 7
  have he8 := hres16.cell 8
  have he9 := hres16.cell 9
  have he10 := hres16.cell 10
  simp only [List.getElem?_toArray, List.getElem?_cons_zero, List.getElem?_cons_succ] at he0 he1 he2 he3 he4 he5 he6 he7 he8 he9 he10
  have hf0 := hres16.frozen 0
  have hf1 := hres16.frozen 1
  have hf2 := hres16.frozen 2
  have hf3 := hres16.frozen 3
  have hf4 := hres16.frozen 4
  have hf5 := hres16.frozen 5
  have hf6 := hres16.frozen 6
  have hf7 := hres16.frozen 7
  have hf8 := hres16.frozen 8
  have hf9 := hres16.frozen 9
  have hf10 := hres16.frozen 10
  go_wp2_with fail
  obtain ⟨w17, hw17⟩ : ∃ w17, w17 = (((((((((((w16).setCell ⟨q, 0, none⟩ (.int .i64 ((x0 : Int) % 16))).setCell ⟨q, 1, none⟩ (.int .i64 (x1 : Int))).setCell ⟨q, 2, none⟩ (.int .i64 (x2 : Int))).setCell ⟨q, 3, none⟩ (.int .i64 (x4 : Int))).setCell ⟨q, 4, none⟩ (.int .i64 ((x6 : Int) / 8192))).setCell ⟨q, 5, none⟩ (.int .i64 ((x6 : Int) % 8192))).setCell ⟨q, 6, none⟩ (.int .i64 (x8 : Int))).setCell ⟨q, 7, none⟩ (.int .i64 (x9 : Int))).setCell ⟨q, 8, none⟩ (.int .i64 (x10 : Int))).setCell ⟨q, 9, none⟩ (.int .u32 (x12 : Int))).setCell ⟨q, 10, none⟩ (.int .u32 (x16 : Int)) := ⟨_, rfl⟩
  have hbr17 : Blk w17 q 24 #[.int .i64 ((x0 : Int) % 16), .int .i64 (x1 : Int), .int .i64 (x2 : Int), .int .i64 (x4 : Int), .int .i64 ((x6 : Int) / 8192), .int .i64 ((x6 : Int) % 8192), .int .i64 (x8 : Int), .int .i64 (x9 : Int), .int .i64 (x10 : Int), .int .u32 (x12 : Int), .int .u32 (x16 : Int)] := by
    rw [hw17]
    have hset := (((((((((((hres16).set_ 0 (.int .i64 ((x0 : Int) % 16))).set_ 1 (.int .i64 (x1 : Int))).set_ 2 (.int .i64 (x2 : Int))).set_ 3 (.int .i64 (x4 : Int))).set_ 4 (.int .i64 ((x6 : Int) / 8192))).set_ 5 (.int .i64 ((x6 : Int) % 8192))).set_ 6 (.int .i64 (x8 : Int))).set_ 7 (.int .i64 (x9 : Int))).set_ 8 (.int .i64 (x10 : Int))).set_ 9 (.int .u32 (x12 : Int))).set_ 10 (.int .u32 (x16 : Int))
    simp only [List.setIfInBounds_toArray, List.set_cons_zero, List.set_cons_succ] at hset
    exact hset
  have hB17 : Below w.heap.size w w17 := by
    rw [hw17]
    exact hB16.trans (((((((((((((Below.refl q w16).setCell (p := ⟨q, 0, none⟩) (Nat.le_refl _) _).setCell (p := ⟨q, 1, none⟩) (Nat.le_refl _) _).setCell (p := ⟨q, 2, none⟩) (Nat.le_refl _) _).setCell (p := ⟨q, 3, none⟩) (Nat.le_refl _) _).setCell (p := ⟨q, 4, none⟩) (Nat.le_refl _) _).setCell (p := ⟨q, 5, none⟩) (Nat.le_refl _) _).setCell (p := ⟨q, 6, none⟩) (Nat.le_refl _) _).setCell (p := ⟨q, 7, none⟩) (Nat.le_refl _) _).setCell (p := ⟨q, 8, none⟩) (Nat.le_refl _) _).setCell (p := ⟨q, 9, none⟩) (Nat.le_refl _) _).setCell (p := ⟨q, 10, none⟩) (Nat.le_refl _) _ : Below q w16 _).mono (by have := HQ.out; omega))
  rw [← hw17]
  clear hw17
  have hr0 := hbr17.cell 0
  have hr1 := hbr17.cell 1
  have hr2 := hbr17.cell 2
  have hr3 := hbr17.cell 3
  have hr4 := hbr17.cell 4
  have hr5 := hbr17.cell 5
  have hr6 := hbr17.cell 6
  have hr7 := hbr17.cell 7
  have hr8 := hbr17.cell 8
  have hr9 := hbr17.cell 9
  have hr10 := hbr17.cell 10
  simp only [List.getElem?_toArray, List.getElem?_cons_zero, List.getElem?_cons_succ] at hr0 hr1 hr2 hr3 hr4 hr5 hr6 hr7 hr8 hr9 hr10
  refine bodyPost_ret (v := .tuple #[.int .i64 ((x0 : Int) / 16), .agg #[.int .i64 ((x0 : Int) % 16), .int .i64 (x1 : Int), .int .i64 (x2 : Int), .int .i64 (x4 : Int), .int .i64 ((x6 : Int) / 8192), .int .i64 ((x6 : Int) % 8192), .int .i64 (x8 : Int), .int .i64 (x9 : Int), .int .i64 (x10 : Int), .int .u32 (x12 : Int), .int .u32 (x16 : Int)]]) (by simp [results, Try.results41, go_sem, hr0, hr1, hr2, hr3, hr4, hr5, hr6, hr7, hr8, hr9, hr10]) rfl ⟨?_, hB17⟩
  rw [HP.out]
  simp only [Int.natCast_ediv, Int.natCast_emod]
  rfl
end Go.Proofs.Ytpgbldpppdmdoaa
