/- The walk of ChoiceStays. -/
import Derived.Test.YtaamflhleommlaaSetGone
import Derived.Test.YtaamflhleommlaaOpenTus
import Derived.Test.YtaamflhleommlaaOpenInts
import Derived.Deep.Cut
namespace Go.Proofs.Ytaamflhleommlaa.choiceStays
set_option linter.unusedVariables false
set_option linter.unusedSimpArgs false
open Go.RowKit

theorem may61 : mayN 61 = true := by decide +kernel

set_option maxHeartbeats 8000000 in
set_option maxRecDepth 100000 in
theorem lawWalk (A : Option Addr) (n c : Nat) (l : List Be) (A2 : Option Addr) (n2 c2 : Nat) (out : List Int) (A3 : Option Addr) (n3 c3 : Nat) (ks : List Tu) (w : World) (hi : BesIn w A n c l) (hi2 : IntsIn w A2 n2 c2 out) (hi3 : TusIn w A3 n3 c3 ks) :
    Calls Try.prog 8 #[.slice A n c, .slice A2 n2 c2, .slice A3 n3 c3] w fun e w' => e = .returned (.bool true) ∧ Below w.heap.size w w' := by
  have hr := hi.reads
  have hok := hi.ok
  have hnil := hi.nil
  have hn : n ≤ 46912496118442 := by have := hi.le; have := hi.reach; omega
  have hnc := hi.le
  have hlen := hr.be_length
  have hr2 := hi2.reads
  have hr3 := hi3.reads
  have hk3 := hi3.ok
  have hn2b : n2 ≤ 17592186043904 := by have := hi2.le; have := hi2.reach; omega
  have hn3b : n3 ≤ 17592186043904 := by have := hi3.le; have := hi3.reach; omega
  clear hi hi2 hi3
  have CM := Lib.hid (maybs_any A n c w.heap.size l w hr (Nat.le_refl _) hok hn hnc)
  have awk : ∀ (h : ¬ MayBs n l ∨ 20 < n2 ∨ 40 < n3), Calls Try.prog 8 #[.slice A n c, .slice A2 n2 c2, .slice A3 n3 c3] w fun e w' => e = .returned (.bool true) ∧ Below w.heap.size w w' := by
    intro h
    have H := Lib.hid h
    clear h
    go_enter Try.func8, Try.ntmps8
    go_wp2_with fail
    refine CM.out.mono ?_
    rintro e w1 ⟨⟨bb, rfl, hbb⟩, hb1⟩
    have HB := Lib.hid hbb
    clear hbb CM
    cases bb
    · go_wp2_with fail
      refine (awake19_any _).mono ?_
      rintro e w9 ⟨rfl, hb9⟩
      go_wp2_with fail
      go_ret
      exact ⟨rfl, hb1.trans (hb9.mono hb1.size)⟩
    · have hmy := HB.out.1 rfl
      by_cases h20 : 20 < n2
      · go_wp2_with fail
        refine (awake19_any _).mono ?_
        rintro e w9 ⟨rfl, hb9⟩
        go_wp2_with fail
        go_ret
        exact ⟨rfl, hb1.trans (hb9.mono hb1.size)⟩
      · have h40 : 40 < n3 := by
          rcases H.out with h | h | h
          · exact absurd hmy h
          · omega
          · exact h
        have hd20 : decide ((20 : Int) < (n2 : Int)) = false := decide_eq_false (by omega)
        go_wp2_with fail
        refine (awake19_any _).mono ?_
        rintro e w9 ⟨rfl, hb9⟩
        go_wp2_with fail
        go_ret
        exact ⟨rfl, hb1.trans (hb9.mono hb1.size)⟩
  by_cases hmy : MayBs n l
  case neg => exact awk (.inl hmy)
  by_cases h20 : 20 < n2
  case pos => exact awk (.inr (.inl h20))
  by_cases h40 : 40 < n3
  case pos => exact awk (.inr (.inr h40))
  clear awk
  have hd20 : decide ((20 : Int) < (n2 : Int)) = false := decide_eq_false (by omega)
  have hd40 : decide ((40 : Int) < (n3 : Int)) = false := decide_eq_false (by omega)
  have HM := Lib.hid hmy
  have hn16 := hmy.1
  clear hmy
  go_enter Try.func8, Try.ntmps8
  go_wp2_with fail
  refine CM.out.mono ?_
  rintro e w1 ⟨⟨bb, rfl, hbb⟩, hb1⟩
  obtain rfl := hbb.2 HM.out
  clear hbb CM
  have HR := Lib.hid (And.intro hr (And.intro hr2 (And.intro hr3 (And.intro hok hk3))))
  clear hr hr2 hr3 hok hk3
  go_wp2_with fail
  refine (new_yes 61 (by omega) may61 w1).mono ?_
  rintro e w2 ⟨pc, rfl, hpc, hcc, hb2⟩
  go_wp2_with fail
  refine (new_yes 61 (by omega) may61 w2).mono ?_
  rintro e w3 ⟨pd, rfl, hpd, hcd, hb3⟩
  have hne : pc ≠ pd := by have := hcc.lt; omega
  have hcc3 := hcc.below hb3
  have hB2 := hb1.trans (hb2.mono hb1.size)
  have hB3 := hB2.trans (hb3.mono hB2.size)
  have hpcw : w.heap.size ≤ pc := Nat.le_trans hb1.size hpc
  have hpdw : w.heap.size ≤ pd := Nat.le_trans hB2.size hpd
  have HC := Lib.hid (And.intro hcc3 (And.intro hcd (And.intro hB3 (And.intro hpcw (And.intro hpdw hne)))))
  clear hcc3 hcc hcd hB3 hB2 hb1 hb2 hb3 hpcw hpdw hne hpc hpd
  go_wp2_with fail
  refine (gone_any A2 n2 c2 w3).mono ?_
  rintro e w' ⟨rfl, rfl⟩
  have hal := (Below.refl w3.heap.size w3).alloc (Nat.le_refl _) (.cells #[.slice A2 n2 c2] 22)
  have hB4 := HC.out.2.2.1.trans (hal.mono HC.out.2.2.1.size)
  have hg4 := (Blk.new w3 22 #[.slice A2 n2 c2]).cell 0
  simp only [List.getElem?_toArray, List.getElem?_cons_zero, List.getElem?_cons_succ] at hg4
  have CS := Lib.hid (set_gone pc 61 [] _ 0 A n c w.heap.size w3.heap.size l A2 n2 c2 out _ (HC.out.1.below hal) may61 (HR.out.1.below hB4) hB4.size (HR.out.2.1.below hB4) HR.out.2.2.2.1 hnc hnil HM.out (by omega) (by omega) hg4)
  have hcd4 := HC.out.2.1.below hal
  have HD := Lib.hid (And.intro hB4 hcd4)
  have hcc4 := Lib.hid (HC.out.1.below hal)
  clear hg4 hcd4 hB4 hal
  go_wp2_with fail
  refine CS.out.mono ?_
  rintro e w5 ⟨rfl, hcc5, hbut5⟩
  obtain ⟨_, hpb⟩ := hcc4.out.blk
  have hcd5 := HD.out.2.but hpb hbut5 HC.out.2.2.2.2.2.symm
  have hB5 := HD.out.1.trans (hbut5.below HC.out.2.2.2.1 HD.out.1.size)
  have HE := Lib.hid (And.intro hcc5 (And.intro hcd5 hB5))
  clear hcc5 hcd5 hB5 hbut5 hpb hcc4 CS HD
  go_wp2_with fail
  refine (gone_any A2 n2 c2 w5).mono ?_
  rintro e w' ⟨rfl, rfl⟩
  have hal := (Below.refl w5.heap.size w5).alloc (Nat.le_refl _) (.cells #[.slice A2 n2 c2] 22)
  have hB6 := HE.out.2.2.trans (hal.mono HE.out.2.2.size)
  have hg6 := (Blk.new w5 22 #[.slice A2 n2 c2]).cell 0
  simp only [List.getElem?_toArray, List.getElem?_cons_zero, List.getElem?_cons_succ] at hg6
  have CS := Lib.hid (set_gone pd 61 [] _ 0 A n c w.heap.size w5.heap.size l A2 n2 c2 out _ (HE.out.2.1.below hal) may61 (HR.out.1.below hB6) hB6.size (HR.out.2.1.below hB6) HR.out.2.2.2.1 hnc hnil HM.out (by omega) (by omega) hg6)
  have HF := Lib.hid (And.intro hB6 (And.intro (HE.out.1.below hal) (HE.out.2.1.below hal)))
  clear hg6 hB6 hal
  go_wp2_with fail
  refine CS.out.mono ?_
  rintro e w7 ⟨rfl, hcd7, hbut7⟩
  obtain ⟨_, hpb⟩ := HF.out.2.2.blk
  have hcc7 := HF.out.2.1.but hpb hbut7 HC.out.2.2.2.2.2
  have hB7 := HF.out.1.trans (hbut7.below HC.out.2.2.2.2.1 HF.out.1.size)
  have HG := Lib.hid (And.intro hcc7 (And.intro hcd7 hB7))
  clear hcc7 hcd7 hB7 hbut7 hpb CS HF HE HC
  go_wp2_with fail
  refine (refwo_any A n c w.heap.size l A2 n2 c2 out w7 (HR.out.1.below HG.out.2.2) HG.out.2.2.size (HR.out.2.1.below HG.out.2.2) (by omega) (by omega)).mono ?_
  rintro e w8 ⟨A8, m8, c8, rfl, hm8, hown8, hb8⟩
  have hr8 := Reads.of_own hown8
  have hB8 := HG.out.2.2.trans (hb8.mono HG.out.2.2.size)
  have HH := Lib.hid (And.intro hr8 (And.intro (HG.out.1.below hb8) (And.intro (HG.out.2.1.below hb8) (And.intro hB8 hm8))))
  clear hr8 hB8 hm8 hown8 hb8 HG
  go_wp2_with fail
  have PL := Lib.hid (fun (k : Tu) => pick_left (k := k) (out := out) HM.out hlen may61)
  have CPc := Lib.hid (fun (k : Tu) (hk : TuOk k) (W : World) (hb : Below w8.heap.size w8 W) => chpick_yes pc 61 l _ _ k hk W (HH.out.2.1.below hb) may61)
  have CPd := Lib.hid (fun (k : Tu) (hk : TuOk k) (W : World) (hb : Below w8.heap.size w8 W) => chpick_yes pd 61 l _ _ k hk W (HH.out.2.2.1.below hb) may61)
  have CFb := Lib.hid (fun (id : Int) (W : World) (hb : Below w8.heap.size w8 W) => findb_any A8 m8 c8 w8.heap.size (leftBe l out) id W (HH.out.1.below hb) hb.size (by have := HH.out.2.2.2.2; have := (List.filter_sublist (l := l) (p := fun b => decide (b.id ∉ out))).length_le; unfold leftBe at *; omega))
  generalize tableF (leftBe l out) 61 = T at *
  go_loopw [59] (fun i wr => ∃ k : Nat, k ≤ n3 ∧ i = .int .i64 (k : Int) ∧ Below w8.heap.size w8 wr) (fun i _ => n3 - (intOf i).toNat)
  case atStart => exact ⟨0, by omega, rfl, Below.refl _ _⟩
  case round =>
    obtain ⟨k, hk, rfl, hbr⟩ := hrel
    by_cases hkn : k < n3
    · obtain ⟨b3, off3, hl3, rfl, hz0, hz1, hz2, hz3, hz4⟩ := (HR.out.2.2.1.below (HH.out.2.2.2.1.trans (hbr.mono HH.out.2.2.2.1.size))).tu hkn
      have hkok := HR.out.2.2.2.2 _ (List.getElem_mem hl3)
      have PLk := PL.out ks[k]
      have CPck := CPc.out ks[k] hkok
      have CPdk := CPd.out ks[k] hkok
      have CMk := Lib.hid (fun W => maytuple_any ks[k] W)
      obtain ⟨r, hr⟩ : ∃ r, pickBe l T 61 ks[k] = r := ⟨_, rfl⟩
      rw [hr] at PLk CPck CPdk
      clear hr hkok
      obtain ⟨kk, hkk⟩ : ∃ kk, ks[k] = kk := ⟨_, rfl⟩
      rw [hkk] at PLk CMk CPck CPdk hz0 hz1 hz2 hz3 hz4
      clear hkk
      obtain ⟨mt, hmt⟩ : ∃ b, mayTu kk = b := ⟨_, rfl⟩
      rw [hmt] at PLk CMk
      clear hmt
      obtain ⟨src, dst, proto, sport, dport⟩ := kk
      obtain ⟨⟨x, ad, wt⟩, ok⟩ := r
      dsimp only [Tu.vals, Be.cells] at PLk CMk CPck CPdk hz0 hz1 hz2 hz3 hz4
      have HPL := Lib.hid PLk
      have HPc := Lib.hid CPck
      have HPd := Lib.hid CPdk
      have hq10 := Blk.new wr 54 #[.int .u32 (src : Int), .int .u32 (dst : Int), .int .i64 proto, .int .i64 sport, .int .i64 dport]
      have hb10 := hbr.alloc hbr.size (.cells #[.int .u32 (src : Int), .int .u32 (dst : Int), .int .i64 proto, .int .i64 sport, .int .i64 dport] 54)
      have HQ := Lib.hid (And.intro hq10 hb10)
      clear PLk CPck CPdk hq10 hb10 hbr
      go_upto_region 10 with fail
      obtain ⟨q, hq⟩ : ∃ q, q = wr.heap.size := ⟨_, rfl⟩
      rw [← hq] at HQ ⊢
      clear hz0 hz1 hz2 hz3 hz4
      generalize wr.alloc (.cells #[.int .u32 (src : Int), .int .u32 (dst : Int), .int .i64 proto, .int .i64 sport, .int .i64 dport] 54) = w10 at *
      clear hq
      have d0 := HQ.out.1.cell 0
      have d1 := HQ.out.1.cell 1
      have d2 := HQ.out.1.cell 2
      have d3 := HQ.out.1.cell 3
      have d4 := HQ.out.1.cell 4
      simp only [List.getElem?_toArray, List.getElem?_cons_zero, List.getElem?_cons_succ] at d0 d1 d2 d3 d4
      go_wp2_with fail
      refine (HPc.out _ HQ.out.2).mono ?_
      rintro e w11 ⟨rfl, hb11⟩
      clear d0 d1 d2 d3 d4
      have hB11 := HQ.out.2.trans (hb11.mono HQ.out.2.size)
      have hq11 := HQ.out.1.below hb11 HQ.out.1.lt
      have HQ1 := Lib.hid (And.intro (hq11.alloc (.cells #[.int .i64 x, .int .u32 (ad : Int), .int .i64 wt] 27)) (And.intro (hB11.alloc hB11.size (.cells #[.int .i64 x, .int .u32 (ad : Int), .int .i64 wt] 27)) (Blk.new w11 27 #[.int .i64 x, .int .u32 (ad : Int), .int .i64 wt])))
      clear hb11 hB11 hq11
      go_upto_region 11 with fail
      obtain ⟨p1, hp1⟩ : ∃ p1, p1 = w11.heap.size := ⟨_, rfl⟩
      rw [← hp1] at HQ1 ⊢
      generalize w11.alloc (.cells #[.int .i64 x, .int .u32 (ad : Int), .int .i64 wt] 27) = w12 at *
      clear hp1
      have d0 := HQ1.out.1.cell 0
      have d1 := HQ1.out.1.cell 1
      have d2 := HQ1.out.1.cell 2
      have d3 := HQ1.out.1.cell 3
      have d4 := HQ1.out.1.cell 4
      simp only [List.getElem?_toArray, List.getElem?_cons_zero, List.getElem?_cons_succ] at d0 d1 d2 d3 d4
      go_wp2_with fail
      refine (HPd.out _ HQ1.out.2.1).mono ?_
      rintro e w13 ⟨rfl, hb13⟩
      clear d0 d1 d2 d3 d4
      have hB13 := HQ1.out.2.1.trans (hb13.mono HQ1.out.2.1.size)
      have HQ2 := Lib.hid (And.intro ((HQ1.out.1.below hb13 HQ1.out.1.lt).alloc (.cells #[.int .i64 x, .int .u32 (ad : Int), .int .i64 wt] 27)) (And.intro (hB13.alloc hB13.size (.cells #[.int .i64 x, .int .u32 (ad : Int), .int .i64 wt] 27)) (And.intro ((HQ1.out.2.2.below hb13 HQ1.out.2.2.lt).alloc (.cells #[.int .i64 x, .int .u32 (ad : Int), .int .i64 wt] 27)) (Blk.new w13 27 #[.int .i64 x, .int .u32 (ad : Int), .int .i64 wt]))))
      clear hb13 hB13
      go_upto_region 12 with fail
      obtain ⟨p2, hp2⟩ : ∃ p2, p2 = w13.heap.size := ⟨_, rfl⟩
      rw [← hp2] at HQ2 ⊢
      generalize w13.alloc (.cells #[.int .i64 x, .int .u32 (ad : Int), .int .i64 wt] 27) = w14 at *
      clear hp2
      have d0 := HQ2.out.1.cell 0
      have d1 := HQ2.out.1.cell 1
      have d2 := HQ2.out.1.cell 2
      have d3 := HQ2.out.1.cell 3
      have d4 := HQ2.out.1.cell 4
      simp only [List.getElem?_toArray, List.getElem?_cons_zero, List.getElem?_cons_succ] at d0 d1 d2 d3 d4
      go_wp2_with fail
      refine (HPc.out _ HQ2.out.2.1).mono ?_
      rintro e w15 ⟨rfl, hb15⟩
      clear d0 d1 d2 d3 d4
      have hB15 := HQ2.out.2.1.trans (hb15.mono HQ2.out.2.1.size)
      have HQ3 := Lib.hid (And.intro ((HQ2.out.1.below hb15 HQ2.out.1.lt).alloc (.cells #[.int .i64 x, .int .u32 (ad : Int), .int .i64 wt] 27)) (And.intro (hB15.alloc hB15.size (.cells #[.int .i64 x, .int .u32 (ad : Int), .int .i64 wt] 27)) (And.intro ((HQ2.out.2.2.1.below hb15 HQ2.out.2.2.1.lt).alloc (.cells #[.int .i64 x, .int .u32 (ad : Int), .int .i64 wt] 27)) (And.intro ((HQ2.out.2.2.2.below hb15 HQ2.out.2.2.2.lt).alloc (.cells #[.int .i64 x, .int .u32 (ad : Int), .int .i64 wt] 27)) (Blk.new w15 27 #[.int .i64 x, .int .u32 (ad : Int), .int .i64 wt])))))
      clear hb15 hB15
      go_upto_region 13 with fail
      obtain ⟨p3, hp3⟩ : ∃ p3, p3 = w15.heap.size := ⟨_, rfl⟩
      rw [← hp3] at HQ3 ⊢
      generalize w15.alloc (.cells #[.int .i64 x, .int .u32 (ad : Int), .int .i64 wt] 27) = w16 at *
      clear hp3 HQ HQ1 HQ2 HPc HPd
      have d0 := HQ3.out.1.cell 0
      have d1 := HQ3.out.1.cell 1
      have d2 := HQ3.out.1.cell 2
      have d3 := HQ3.out.1.cell 3
      have d4 := HQ3.out.1.cell 4
      simp only [List.getElem?_toArray, List.getElem?_cons_zero, List.getElem?_cons_succ] at d0 d1 d2 d3 d4
      have a0 := HQ3.out.2.2.1.cell 0
      have a1 := HQ3.out.2.2.1.cell 1
      have a2 := HQ3.out.2.2.1.cell 2
      simp only [List.getElem?_toArray, List.getElem?_cons_zero, List.getElem?_cons_succ] at a0 a1 a2
      have b0 := HQ3.out.2.2.2.1.cell 0
      have b1 := HQ3.out.2.2.2.1.cell 1
      have b2 := HQ3.out.2.2.2.1.cell 2
      simp only [List.getElem?_toArray, List.getElem?_cons_zero, List.getElem?_cons_succ] at b0 b1 b2
      have e0 := HQ3.out.2.2.2.2.cell 0
      have e1 := HQ3.out.2.2.2.2.cell 1
      have e2 := HQ3.out.2.2.2.2.cell 2
      simp only [List.getElem?_toArray, List.getElem?_cons_zero, List.getElem?_cons_succ] at e0 e1 e2
      have hLm : Hid (m8 = (leftBe l out).length) := HH.out.2.2.2.2
      by_cases hm0 : 0 < m8
      · have hdl : decide ((0 : Int) < (m8 : Int)) = true := decide_eq_true (by omega)
        have hd2 : decide (0 < m8) = true := decide_eq_true hm0
        have hdL : decide (0 < (leftBe l out).length) = true := decide_eq_true (by have := hLm.out; omega)
        cases mt with
        | false =>
          have hok : ok = false := by rw [HPL.out.1, Bool.and_false]
          subst hok
          obtain ⟨⟨⟨x', ad', wt'⟩, ok'⟩, hfr⟩ : ∃ r, findBe (leftBe l out) x = r := ⟨_, rfl⟩
          have HF2 := Lib.hid (CFb.out x)
          rw [hfr] at HF2
          dsimp only [Be.cells] at HF2
          clear hfr
          clear hdL hLm
          go_wp2_with fail
          refine (CMk.out w16).mono ?_
          rintro e w17 ⟨rfl, hb17⟩
          have hB17 := HQ3.out.2.1.trans (hb17.mono HQ3.out.2.1.size)
          have hp1 := HQ3.out.2.2.1.below hb17 HQ3.out.2.2.1.lt
          clear a0 a1 a2 b0 b1 b2 e0 e1 e2 d0 d1 d2 d3 d4 hb17
          have a0 := hp1.cell 0
          simp only [List.getElem?_toArray, List.getElem?_cons_zero, List.getElem?_cons_succ] at a0
          go_wp2_with fail
          refine (HF2.out _ hB17).mono ?_
          rintro e w18 ⟨rfl, hb18⟩
          have hB18 := hB17.trans (hb18.mono hB17.size)
          clear a0
          go_wp2_with fail
          go_roundw
          case rel => exact ⟨k + 1, by omega, by go_num, hB18.alloc hB18.size _⟩
          case measure => simp [intOf]; omega
        | true =>
          have hok : ok = true := by rw [HPL.out.1, hdL]; rfl
          subst hok
          have hfnd := HPL.out.2 rfl
          have HF2 := Lib.hid (CFb.out x)
          rw [hfnd] at HF2
          dsimp only [Be.cells] at HF2
          clear hfnd
          clear hdL hLm
          go_wp2_with fail
          refine (CMk.out w16).mono ?_
          rintro e w17 ⟨rfl, hb17⟩
          have hB17 := HQ3.out.2.1.trans (hb17.mono HQ3.out.2.1.size)
          have hp1 := HQ3.out.2.2.1.below hb17 HQ3.out.2.2.1.lt
          clear a0 a1 a2 b0 b1 b2 e0 e1 e2 d0 d1 d2 d3 d4 hb17
          have a0 := hp1.cell 0
          simp only [List.getElem?_toArray, List.getElem?_cons_zero, List.getElem?_cons_succ] at a0
          go_wp2_with fail
          refine (HF2.out _ hB17).mono ?_
          rintro e w18 ⟨rfl, hb18⟩
          have hB18 := hB17.trans (hb18.mono hB17.size)
          have hp2 := (hp1.below hb18 hp1.lt).alloc (.cells #[.int .i64 x, .int .u32 (ad : Int), .int .i64 wt] 27)
          clear a0
          have a0 := hp2.cell 0
          have a1 := hp2.cell 1
          have a2 := hp2.cell 2
          simp only [List.getElem?_toArray, List.getElem?_cons_zero, List.getElem?_cons_succ] at a0 a1 a2
          have HB18 := Lib.hid (hB18.alloc hB18.size (.cells #[.int .i64 x, .int .u32 (ad : Int), .int .i64 wt] 27))
          clear hB18 hp1 hp2 hB17 hb18
          go_wp2_with fail
          go_roundw
          case rel => exact ⟨k + 1, by omega, by go_num, HB18.out⟩
          case measure => simp [intOf]; omega
      · have hm00 : m8 = 0 := by omega
        have hdl : decide ((0 : Int) < (m8 : Int)) = false := decide_eq_false (by omega)
        have hd2 : decide (0 < m8) = false := decide_eq_false hm0
        have hdL : decide (0 < (leftBe l out).length) = false := decide_eq_false (by have := hLm.out; omega)
        have hok : ok = false := by rw [HPL.out.1, hdL, Bool.false_and]
        subst hok
        obtain ⟨⟨⟨x', ad', wt'⟩, ok'⟩, hfr⟩ : ∃ r, findBe (leftBe l out) x = r := ⟨_, rfl⟩
        have HF2 := Lib.hid (CFb.out x)
        rw [hfr] at HF2
        dsimp only [Be.cells] at HF2
        clear hfr
        have hB17 := HQ3.out.2.1
        clear hdL hLm hm00
        go_wp2_with fail
        refine (HF2.out _ hB17).mono ?_
        rintro e w18 ⟨rfl, hb18⟩
        have hB18 := hB17.trans (hb18.mono hB17.size)
        clear a0 a1 a2 b0 b1 b2 e0 e1 e2 d0 d1 d2 d3 d4
        go_wp2_with fail
        go_roundw
        case rel => exact ⟨k + 1, by omega, by go_num, hB18.alloc hB18.size _⟩
        case measure => simp [intOf]; omega
    · have hkk : k = n3 := by omega
      subst hkk
      clear CPc CPd CFb PL
      go_wp2_with fail
      have FM := Lib.hid (fun (b : Be) (hb : b ∈ l) => find_of_mem (ids_lt HM.out hlen) hb)
      have CFc := Lib.hid (fun (id : Int) (W : World) (hb : Below w8.heap.size w8 W) => chfind_yes pc 61 l T _ id W (HH.out.2.1.below hb))
      go_loopw [130] (fun i wq => ∃ j : Nat, j ≤ n ∧ i = .int .i64 (j : Int) ∧ Below w8.heap.size w8 wq) (fun i _ => n - (intOf i).toNat)
      case atStart => exact ⟨0, by omega, rfl, hbr⟩
      case round =>
        obtain ⟨j, hj, rfl, hbq⟩ := hrel
        clear hbr
        by_cases hjn : j < n
        · obtain ⟨b3, off3, hl3, rfl, hz0, hz1, hz2⟩ := (HR.out.1.below (HH.out.2.2.2.1.trans (hbq.mono HH.out.2.2.2.1.size))).be hjn
          have hfj := FM.out _ (List.getElem_mem hl3)
          obtain ⟨bb, hbb⟩ : ∃ bb, l[j] = bb := ⟨_, rfl⟩
          rw [hbb] at hfj hz0 hz1 hz2
          clear hbb
          obtain ⟨x, ad, wt⟩ := bb
          have CFx := CFc.out x
          dsimp only at hfj hz0 hz1 hz2
          rw [hfj] at CFx
          dsimp only [Be.cells] at CFx
          have HFx := Lib.hid CFx
          have hq10 := Blk.new wr 27 #[.int .i64 x, .int .u32 (ad : Int), .int .i64 wt]
          have hb10 := hbq.alloc hbq.size (.cells #[.int .i64 x, .int .u32 (ad : Int), .int .i64 wt] 27)
          have HQ := Lib.hid (And.intro hq10 hb10)
          clear CFx hq10 hb10 hbq hfj
          go_upto_region 22 with fail
          obtain ⟨q, hq⟩ : ∃ q, q = wr.heap.size := ⟨_, rfl⟩
          rw [← hq] at HQ ⊢
          clear hz0 hz1 hz2
          generalize wr.alloc (.cells #[.int .i64 x, .int .u32 (ad : Int), .int .i64 wt] 27) = w10 at *
          clear hq
          have d0 := HQ.out.1.cell 0
          have d1 := HQ.out.1.cell 1
          have d2 := HQ.out.1.cell 2
          simp only [List.getElem?_toArray, List.getElem?_cons_zero, List.getElem?_cons_succ] at d0 d1 d2
          go_wp2_with fail
          refine (HFx.out _ HQ.out.2).mono ?_
          rintro e w11 ⟨rfl, hb11⟩
          clear d0 d1 d2
          have hB11 := HQ.out.2.trans (hb11.mono HQ.out.2.size)
          have hq11 := HQ.out.1.below hb11 HQ.out.1.lt
          have HQ1 := Lib.hid (And.intro (hq11.alloc (.cells #[.int .i64 x, .int .u32 (ad : Int), .int .i64 wt] 27)) (And.intro (hB11.alloc hB11.size (.cells #[.int .i64 x, .int .u32 (ad : Int), .int .i64 wt] 27)) (Blk.new w11 27 #[.int .i64 x, .int .u32 (ad : Int), .int .i64 wt])))
          clear hb11 hB11 hq11
          go_upto_region 23 with fail
          obtain ⟨p1, hp1⟩ : ∃ p1, p1 = w11.heap.size := ⟨_, rfl⟩
          rw [← hp1] at HQ1 ⊢
          generalize w11.alloc (.cells #[.int .i64 x, .int .u32 (ad : Int), .int .i64 wt] 27) = w12 at *
          clear hp1
          have d0 := HQ1.out.1.cell 0
          have d1 := HQ1.out.1.cell 1
          have d2 := HQ1.out.1.cell 2
          simp only [List.getElem?_toArray, List.getElem?_cons_zero, List.getElem?_cons_succ] at d0 d1 d2
          have a0 := HQ1.out.2.2.cell 0
          have a1 := HQ1.out.2.2.cell 1
          have a2 := HQ1.out.2.2.cell 2
          simp only [List.getElem?_toArray, List.getElem?_cons_zero, List.getElem?_cons_succ] at a0 a1 a2
          go_wp2_with fail
          go_roundw
          case rel => exact ⟨j + 1, by omega, by go_num, HQ1.out.2.1⟩
          case measure => simp [intOf]; omega
        · have hjj : j = n := by omega
          subst hjj
          go_wp2_with fail
          refine (awake19_any _).mono ?_
          rintro e w9 ⟨rfl, hb9⟩
          have hB9 := HH.out.2.2.2.1.trans ((hbq.trans (hb9.mono hbq.size)).mono HH.out.2.2.2.1.size)
          go_wp2_with fail
          go_ret
          exact ⟨rfl, hB9⟩
end Go.Proofs.Ytaamflhleommlaa.choiceStays
