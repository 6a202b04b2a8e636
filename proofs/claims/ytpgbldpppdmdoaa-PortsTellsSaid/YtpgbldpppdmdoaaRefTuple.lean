/- The walk of goitref20.Tuple (wip/genreftuple.py). -/
import Derived.Test.YtpgbldpppdmdoaaPortsLaws
import Derived.Test.YtpgbldpppdmdoaaRefParse
import Derived.Test.YtpgbldpppdmdoaaEncapPlain
import Derived.StillTailTactics
import Derived.Deep.RegionHeld3
import Derived.Test.YtpgbldpppdmdoaaIpParseOk
namespace Go.Proofs.Ytpgbldpppdmdoaa
set_option linter.unusedVariables false
set_option linter.unusedSimpArgs false
open Go.RowKit

theorem wholeZ_nat (f o : Nat) : wholeZ (f : Int) (o : Int) = wholeN f o := by
  unfold wholeZ wholeN
  rw [decide_eq_decide]
  omega
theorem i64_join (x y : Nat) (hx : x < 256) (hy : y < 256) : bits .or .i64 ((x : Int) * 256) (y : Int) = ((x * 256 + y : Nat) : Int) := or_bytes x y (by omega) hy

theorem own_at {w : World} {base n c g : Nat} {l : List Nat} (h : w.ownsRow base 5 1 (.slice (some ⟨g, 0, none⟩) n c) n (bv l)) {j : Nat} (hj : j < n) (hl : l.length = n) : w.cell? ⟨g, j, none⟩ = some (.int .u8 ((at' l j : Nat) : Int)) := by
  rw [ownb_cell h j hj (by omega)]
  unfold at'
  rw [List.getD_eq_getElem?_getD, List.getElem?_eq_getElem (by omega)]
  rfl
theorem drew_far (w : World) (a : Addr) : w.drew.cell? a = w.cell? a := rfl
theorem whyT_long {l : List Nat} (h : whyT l = 0) : 8 ≤ (bodyP l).length := by
  unfold whyT at h
  split at h
  · omega
  · split at h
    · omega
    · split at h
      · split at h
        · rename_i ht
          have := (of_decide_eq_true ht : _ ∧ _).1
          omega
        · omega
      · split at h
        · split at h
          · rename_i ht
            exact (of_decide_eq_true ht : _ ∧ _).1
          · omega
        · omega

set_option maxHeartbeats 16000000 in
set_option maxRecDepth 100000 in
theorem reftuple_any (A : Option Addr) (n c B : Nat) (l : List Nat) (w : World) (hr : Reads w B 1 A n (bv l)) (hB : B ≤ w.heap.size) (hn : n ≤ 140737488355328) (hnc : n ≤ c) (ha : AllB l) :
    Calls Try.prog 25 #[.slice A n c] w fun e w' => e = .returned (.tuple #[.agg (tuT l).vals, .agg (hdT l).vals, .int .i64 (whyT l : Nat)]) ∧ Below w.heap.size w w' := by
  have CP := Lib.hid (fun w' (hb : Below w.heap.size w w') => refparse_any A n c w'.heap.size l w' ((hr.below (hb.mono hB)).more (Nat.le_trans hB hb.size)) (Nat.le_refl _) hn hnc ha)
  have hlen := hr.length
  have hq := (Blk.new w 43 #[.int .u32 0, .int .u32 0, .int .i64 0, .int .i64 0, .int .i64 0]).alloc (.cells #[.int .i64 0, .int .i64 0, .int .i64 0, .int .i64 0, .int .i64 0, .int .i64 0, .int .i64 0, .int .i64 0, .int .i64 0, .int .u32 0, .int .u32 0] 24)
  have hp : Blk ((w.alloc (.cells #[.int .u32 0, .int .u32 0, .int .i64 0, .int .i64 0, .int .i64 0] 43)).alloc (.cells #[.int .i64 0, .int .i64 0, .int .i64 0, .int .i64 0, .int .i64 0, .int .i64 0, .int .i64 0, .int .i64 0, .int .i64 0, .int .u32 0, .int .u32 0] 24)) (w.heap.size + 1) 24 #[.int .i64 0, .int .i64 0, .int .i64 0, .int .i64 0, .int .i64 0, .int .i64 0, .int .i64 0, .int .i64 0, .int .i64 0, .int .u32 0, .int .u32 0] := Blk.new_ (by simp)
  have hBa := ((Below.refl w.heap.size w).alloc (Nat.le_refl _) (.cells #[.int .u32 0, .int .u32 0, .int .i64 0, .int .i64 0, .int .i64 0] 43)).alloc (by simp) (.cells #[.int .i64 0, .int .i64 0, .int .i64 0, .int .i64 0, .int .i64 0, .int .i64 0, .int .i64 0, .int .i64 0, .int .i64 0, .int .u32 0, .int .u32 0] 24)
  by_cases hy : whyP l = 0
  · obtain ⟨k1, k2, k3, k4, k5, k6, k7⟩ := why_zero hy
    obtain ⟨L, hL⟩ : ∃ x, x = lenP l := ⟨_, rfl⟩
    obtain ⟨x8, hx8⟩ : ∃ x, x = at' l 8 := ⟨_, rfl⟩
    obtain ⟨s, hs1⟩ : ∃ x, x = ihlP l := ⟨_, rfl⟩
    obtain ⟨x1, hx1⟩ : ∃ x, x = at' l 1 := ⟨_, rfl⟩
    obtain ⟨x4, hx4⟩ : ∃ x, x = two' l 4 := ⟨_, rfl⟩
    obtain ⟨f, hf⟩ : ∃ x, x = two' l 6 / 8192 := ⟨_, rfl⟩
    obtain ⟨o, ho⟩ : ∃ x, x = two' l 6 % 8192 := ⟨_, rfl⟩
    obtain ⟨x9, hx9⟩ : ∃ x, x = at' l 9 := ⟨_, rfl⟩
    obtain ⟨x10, hx10⟩ : ∃ x, x = two' l 10 := ⟨_, rfl⟩
    obtain ⟨x12, hx12⟩ : ∃ x, x = four' l 12 := ⟨_, rfl⟩
    obtain ⟨x16, hx16⟩ : ∃ x, x = four' l 16 := ⟨_, rfl⟩
    have hvals : (hdP l).vals = #[.int .i64 (s : Int), .int .i64 (x1 : Int), .int .i64 (L : Int), .int .i64 (x4 : Int), .int .i64 (f : Int), .int .i64 (o : Int), .int .i64 (x8 : Int), .int .i64 (x9 : Int), .int .i64 (x10 : Int), .int .u32 (x12 : Int), .int .u32 (x16 : Int)] := by
      unfold hdP Hd.vals
      dsimp only
      rw [← hL, ← hx8, ← hs1, ← hx1, ← hx4, ← hf, ← ho, ← hx9, ← hx10, ← hx12, ← hx16]
    have HV := Lib.hid hvals
    have hba : AllB (bodyP l) := (ha.take _).drop _
    have hbl2 : (bodyP l).length = lenP l - 4 * ihlP l := by unfold bodyP; rw [List.length_drop, List.length_take]; omega
    obtain ⟨m, hm⟩ : ∃ m, m = lenP l - 4 * ihlP l := ⟨_, rfl⟩
    have hml : (bodyP l).length = m := by rw [hm]; exact hbl2
    have hms : m ≤ 140737488355328 := by omega
    obtain ⟨bd, hbd⟩ : ∃ b, b = bodyP l := ⟨_, rfl⟩
    have HWT : Hid (whyT l = if wholeN f o = false then 6 else if x9 = 6 then (if tcpB bd = true then 0 else 9) else if x9 = 17 then (if udpB bd = true then 0 else 9) else 8) := by
      show _ = _
      unfold whyT wholeL
      rw [← hf, ← ho, ← hx9, ← hbd, if_neg (by omega)]
    have HTU : Hid (tuP l = ⟨x12, x16, (x9 : Int), ((two' bd 0 : Nat) : Int), ((two' bd 2 : Nat) : Int)⟩) := by
      show _ = _
      unfold tuP
      rw [← hx12, ← hx16, ← hx9, ← hbd]
    have HM := Lib.hid hm
    rw [← hbd] at hba hml
    have HBD := Lib.hid hbd
    have HBA := Lib.hid (And.intro hba hml)
    have HYE := Lib.hid hy
    have x9l : x9 < 256 := by rw [hx9]; exact at_lt ha 9
    clear hr ha hL hx8 hs1 hx1 hx4 hf ho hx9 hx10 hx12 hx16 hvals k1 k2 k3 k4 k5 k6 k7 hlen hy hbl2 hm hbd hba hml
    go_enter Try.func25, Try.ntmps25
    go_wp2_with fail
    refine (CP.out _ hBa).mono ?_
    rintro e w1 ⟨hret, hb1⟩
    obtain ⟨A1, c1, rfl, hown1⟩ := hret.yes HYE.out
    rw [HV.out, ← HM.out]
    rw [← HM.out, ← HBD.out] at hown1
    have hmc := own_cap hown1
    have hq1 := (hq.below hb1 hq.lt).alloc (.cells #[.int .i64 (s : Int), .int .i64 (x1 : Int), .int .i64 (L : Int), .int .i64 (x4 : Int), .int .i64 (f : Int), .int .i64 (o : Int), .int .i64 (x8 : Int), .int .i64 (x9 : Int), .int .i64 (x10 : Int), .int .u32 (x12 : Int), .int .u32 (x16 : Int)] 24)
    have hp1 := (hp.below hb1 hp.lt).alloc (.cells #[.int .i64 (s : Int), .int .i64 (x1 : Int), .int .i64 (L : Int), .int .i64 (x4 : Int), .int .i64 (f : Int), .int .i64 (o : Int), .int .i64 (x8 : Int), .int .i64 (x9 : Int), .int .i64 (x10 : Int), .int .u32 (x12 : Int), .int .u32 (x16 : Int)] 24)
    have hB1 := hBa.trans (hb1.mono hBa.size)
    have hB2 := hB1.alloc hB1.size (.cells #[.int .i64 (s : Int), .int .i64 (x1 : Int), .int .i64 (L : Int), .int .i64 (x4 : Int), .int .i64 (f : Int), .int .i64 (o : Int), .int .i64 (x8 : Int), .int .i64 (x9 : Int), .int .i64 (x10 : Int), .int .u32 (x12 : Int), .int .u32 (x16 : Int)] 24)
    have hh2 := Blk.new w1 24 #[.int .i64 (s : Int), .int .i64 (x1 : Int), .int .i64 (L : Int), .int .i64 (x4 : Int), .int .i64 (f : Int), .int .i64 (o : Int), .int .i64 (x8 : Int), .int .i64 (x9 : Int), .int .i64 (x10 : Int), .int .u32 (x12 : Int), .int .u32 (x16 : Int)]
    have hO2 := hown1.alloc (.cells #[.int .i64 (s : Int), .int .i64 (x1 : Int), .int .i64 (L : Int), .int .i64 (x4 : Int), .int .i64 (f : Int), .int .i64 (o : Int), .int .i64 (x8 : Int), .int .i64 (x9 : Int), .int .i64 (x10 : Int), .int .u32 (x12 : Int), .int .u32 (x16 : Int)] 24)
    have hlt : w.heap.size + 1 < w1.heap.size := by have := hb1.size; simp at this; omega
    obtain ⟨q, hqe⟩ : ∃ q, q = w.heap.size := ⟨_, rfl⟩
    rw [← hqe] at hq1 hp1 hlt ⊢
    have HQ := Lib.hid hqe
    clear hqe hret hb1 CP hq hp hBa hown1 hB1
    go_upto_block 0 with fail
    obtain ⟨ph, hph⟩ : ∃ ph, ph = w1.heap.size := ⟨_, rfl⟩
    rw [← hph] at hh2 hlt ⊢
    have HB2 := Lib.hid hB2
    have HBK := Lib.hid (And.intro hq1 (And.intro hp1 hh2))
    have HO2 := Lib.hid hO2
    generalize w1.alloc (.cells #[.int .i64 (s : Int), .int .i64 (x1 : Int), .int .i64 (L : Int), .int .i64 (x4 : Int), .int .i64 (f : Int), .int .i64 (o : Int), .int .i64 (x8 : Int), .int .i64 (x9 : Int), .int .i64 (x10 : Int), .int .u32 (x12 : Int), .int .u32 (x16 : Int)] 24) = w2 at *
    clear hph hB2 hq1 hp1 hh2 hO2
    obtain ⟨r, hr⟩ : ∃ r, r = whyT l := ⟨_, rfl⟩
    rw [← hr] at HWT
    have HR := Lib.hid hr
    clear hr
    go_cut [8] (fun v wx => v = .int .i64 (r : Int) ∧ Below w2.heap.size w2 wx)
    case first =>
      have CWH := Lib.hid (fun w' => refwholez_any (s : Int) (x1 : Int) (L : Int) (x4 : Int) (f : Int) (o : Int) (x8 : Int) (x9 : Int) (x10 : Int) x12 x16 w')
      rw [wholeZ_nat] at CWH
      have e0 := HBK.out.2.2.cell 0
      have e1 := HBK.out.2.2.cell 1
      have e2 := HBK.out.2.2.cell 2
      have e3 := HBK.out.2.2.cell 3
      have e4 := HBK.out.2.2.cell 4
      have e5 := HBK.out.2.2.cell 5
      have e6 := HBK.out.2.2.cell 6
      have e7 := HBK.out.2.2.cell 7
      have e8 := HBK.out.2.2.cell 8
      have e9 := HBK.out.2.2.cell 9
      have e10 := HBK.out.2.2.cell 10
      simp only [List.getElem?_toArray, List.getElem?_cons_zero, List.getElem?_cons_succ] at e0 e1 e2 e3 e4 e5 e6 e7 e8 e9 e10
      go_wp2_with fail
      refine (CWH.out w2).mono ?_
      rintro e wx ⟨rfl, hbx⟩
      have hhx := HBK.out.2.2.below hbx HBK.out.2.2.lt
      have hOx := own_below HO2.out hbx
      have HBX := Lib.hid hbx
      have HBXD : Hid (∀ k, Below w2.heap.size w2 (wx.drewN k)) := fun k => hbx.trans ⟨rfl, rfl, rfl, Nat.le_refl _, fun _ _ => rfl⟩
      clear CWH e0 e1 e2 e3 e4 e5 e6 e7 e8 e9 e10 hbx
      have e7 := hhx.cell 7
      simp only [List.getElem?_toArray, List.getElem?_cons_zero, List.getElem?_cons_succ] at e7
      clear hhx
      cases hb : wholeN f o with
      | false =>
        obtain rfl : r = 6 := by have := HWT.out; rw [hb, if_pos rfl] at this; exact this
        clear hOx hb
        go_wp2_with fail
        go_meet
        exact ⟨rfl, HBX.out⟩
      | true =>
        have hw1 := HWT.out
        rw [hb, if_neg (by decide)] at hw1
        clear hb
        by_cases h6 : x9 = 6
        · rw [if_pos h6] at hw1
          have b6 : ((x9 : Int) == 6) = true := by simp; omega
          have b6' : ((x9 : Int) != 6) = false := by simp; omega
          have b17 : ((x9 : Int) == 17) = false := by simp; omega
          by_cases t1 : m < 20
          · obtain rfl : r = 9 := by rw [hw1, if_neg]; intro ht; have := (of_decide_eq_true ht : _ ∧ _).1; have := HBA.out.2; omega
            have d1 : decide ((m : Int) < 20) = true := decide_eq_true (by omega)
            clear hOx hw1 h6
            go_wp2_with fail
            go_meet
            exact ⟨rfl, HBX.out⟩
          · have d1 : decide ((m : Int) < 20) = false := decide_eq_false (by omega)
            obtain ⟨g, rfl, _, _⟩ := own_head hOx (by omega)
            have c12 := own_at hOx (j := 12) (by omega) HBA.out.2
            have hx12l := at_lt HBA.out.1 12
            have HTC : Hid (tcpB bd = decide (20 ≤ m ∧ 5 ≤ at' bd 12 / 16 ∧ 4 * (at' bd 12 / 16) ≤ m)) := by show _ = _; unfold tcpB; rw [HBA.out.2]
            generalize at' bd 12 = x at *
            obtain ⟨v, hv⟩ : ∃ v, v = x / 16 := ⟨_, rfl⟩
            have dv : (x : Int) / 16 = (v : Int) := by omega
            rw [← hv] at HTC
            have v16 : v < 16 := by omega
            have i12 : (12 : Int) < (m : Int) := by omega
            clear hv hOx
            by_cases t2 : v < 5
            · obtain rfl : r = 9 := by rw [hw1, HTC.out, if_neg]; intro ht; have := of_decide_eq_true ht; omega
              have d2 : decide ((v : Int) < 5) = true := decide_eq_true (by omega)
              clear hw1 h6
              go_wp2_with fail
              go_meet
              exact ⟨rfl, HBX.out⟩
            · have d2 : decide ((v : Int) < 5) = false := decide_eq_false (by omega)
              by_cases t3 : m < 4 * v
              · obtain rfl : r = 9 := by rw [hw1, HTC.out, if_neg]; intro ht; have := of_decide_eq_true ht; omega
                have d3 : decide ((m : Int) < 4 * (v : Int)) = true := decide_eq_true (by omega)
                clear hw1 h6
                go_wp2_with fail
                go_meet
                exact ⟨rfl, HBX.out⟩
              · obtain rfl : r = 0 := by rw [hw1, HTC.out, if_pos]; exact decide_eq_true (by omega)
                have d3 : decide ((m : Int) < 4 * (v : Int)) = false := decide_eq_false (by omega)
                clear hw1 h6
                go_wp2_with fail
                go_quiet (fail)
                go_wp2_with fail
                go_meet
                exact ⟨rfl, HBXD.out _⟩
        · rw [if_neg h6] at hw1
          have b6 : ((x9 : Int) == 6) = false := by simp; omega
          have b6' : ((x9 : Int) != 6) = true := by simp; omega
          by_cases h17 : x9 = 17
          · rw [if_pos h17] at hw1
            have b17 : ((x9 : Int) == 17) = true := by simp; omega
            have b17' : ((x9 : Int) != 17) = false := by simp; omega
            by_cases t1 : m < 8
            · obtain rfl : r = 9 := by rw [hw1, if_neg]; intro ht; have := (of_decide_eq_true ht : _ ∧ _).1; have := HBA.out.2; omega
              have d1 : decide ((m : Int) < 8) = true := decide_eq_true (by omega)
              clear hOx hw1 h6 h17
              go_wp2_with fail
              go_quiet (fail)
              go_wp2_with fail
              go_meet
              exact ⟨rfl, HBXD.out _⟩
            · have d1 : decide ((m : Int) < 8) = false := decide_eq_false (by omega)
              obtain ⟨g, rfl, _, _⟩ := own_head hOx (by omega)
              have c4 := own_at hOx (j := 4) (by omega) HBA.out.2
              have c5 := own_at hOx (j := 5) (by omega) HBA.out.2
              have hl4 := at_lt HBA.out.1 4
              have hl5 := at_lt HBA.out.1 5
              have HTC : Hid (udpB bd = decide (8 ≤ m ∧ 8 ≤ at' bd 4 * 256 + at' bd 5 ∧ at' bd 4 * 256 + at' bd 5 ≤ m)) := by show _ = _; unfold udpB two'; rw [HBA.out.2]
              generalize at' bd 4 = xa at *
              generalize at' bd 5 = xb at *
              obtain ⟨v, hv⟩ : ∃ v, v = xa * 256 + xb := ⟨_, rfl⟩
              have dv := i64_join xa xb hl4 hl5
              rw [← hv] at HTC dv
              have v16 : v < 65536 := by omega
              have i4 : (4 : Int) < (m : Int) := by omega
              have i5 : (5 : Int) < (m : Int) := by omega
              clear hv hOx
              by_cases t2 : v < 8
              · obtain rfl : r = 9 := by rw [hw1, HTC.out, if_neg]; intro ht; have := of_decide_eq_true ht; omega
                have d2 : decide ((v : Int) < 8) = true := decide_eq_true (by omega)
                clear hw1 h6 h17
                go_wp2_with fail
                go_quiet (fail)
                go_wp2_with fail
                go_meet
                exact ⟨rfl, HBXD.out _⟩
              · have d2 : decide ((v : Int) < 8) = false := decide_eq_false (by omega)
                by_cases t3 : m < v
                · obtain rfl : r = 9 := by rw [hw1, HTC.out, if_neg]; intro ht; have := of_decide_eq_true ht; omega
                  have d3 : decide ((m : Int) < (v : Int)) = true := decide_eq_true (by omega)
                  clear hw1 h6 h17
                  go_wp2_with fail
                  go_quiet (fail)
                  go_wp2_with fail
                  go_meet
                  exact ⟨rfl, HBXD.out _⟩
                · obtain rfl : r = 0 := by rw [hw1, HTC.out, if_pos]; exact decide_eq_true (by omega)
                  have d3 : decide ((m : Int) < (v : Int)) = false := decide_eq_false (by omega)
                  clear hw1 h6 h17
                  go_wp2_with fail
                  go_quiet (fail)
                  go_wp2_with fail
                  go_meet
                  exact ⟨rfl, HBXD.out _⟩
          · obtain rfl : r = 8 := by rw [hw1, if_neg h17]
            have b17' : ((x9 : Int) != 17) = true := by simp; omega
            clear hOx hw1 h6 h17
            go_wp2_with fail
            go_meet
            exact ⟨rfl, HBX.out⟩
    case rest =>
      obtain ⟨rfl, hbc⟩ := hcut
      have hB9' := HB2.out.trans (hbc.mono HB2.out.size)
      have hq9 := HBK.out.1.below hbc HBK.out.1.lt
      have hp9 := HBK.out.2.1.below hbc HBK.out.2.1.lt
      have hh9 := HBK.out.2.2.below hbc HBK.out.2.2.lt
      have hO9 := own_below HO2.out hbc
      have HX := Lib.hid (And.intro hq9 (And.intro hp9 hB9'))
      clear hbc HBK HO2 HB2
      by_cases h0 : r = 0
      · have hyt : whyT l = 0 := by rw [← HR.out]; exact h0
        have h8 : 8 ≤ m := by
          have h1 := whyT_long hyt
          rw [← HBD.out] at h1
          have := HBA.out.2
          omega
        obtain ⟨g, rfl, hgb, _⟩ := own_head hO9 (by omega)
        have hgq : q + 1 < g := by have := HQ.out; simp at hgb; omega
        have hOd := hO9
        have hqd := hq9
        have hpd := hp9
        have hhd := hh9
        have hBd := hB9'
        have hl0 := at_lt HBA.out.1 0
        have hl1 := at_lt HBA.out.1 1
        have hl2 := at_lt HBA.out.1 2
        have hl3 := at_lt HBA.out.1 3
        obtain ⟨p0, hp0⟩ : ∃ x, x = at' bd 0 := ⟨_, rfl⟩
        obtain ⟨p1, hp1⟩ : ∃ x, x = at' bd 1 := ⟨_, rfl⟩
        obtain ⟨p2, hp2⟩ : ∃ x, x = at' bd 2 := ⟨_, rfl⟩
        obtain ⟨p3, hp3⟩ : ∃ x, x = at' bd 3 := ⟨_, rfl⟩
        rw [← hp0] at hl0
        rw [← hp1] at hl1
        rw [← hp2] at hl2
        rw [← hp3] at hl3
        have hor1 := i64_join p0 p1 hl0 hl1
        have hor2 := i64_join p2 p3 hl2 hl3
        obtain ⟨sp, hsp⟩ : ∃ x, x = p0 * 256 + p1 := ⟨_, rfl⟩
        obtain ⟨dp, hdp⟩ : ∃ x, x = p2 * 256 + p3 := ⟨_, rfl⟩
        rw [← hsp] at hor1
        rw [← hdp] at hor2
        have jx1 : bits .or .i64 (IntKind.i64.wrap (IntKind.i64.wrap (p0 : Int) * 256)) (IntKind.i64.wrap (p1 : Int)) = (sp : Int) := by
          rw [IntWalk.i64_in (p0 : Int) (by omega), IntWalk.i64_in ((p0 : Int) * 256) (by omega), IntWalk.i64_in (p1 : Int) (by omega)]
          exact hor1
        have jx2 : bits .or .i64 (IntKind.i64.wrap (IntKind.i64.wrap (p2 : Int) * 256)) (IntKind.i64.wrap (p3 : Int)) = (dp : Int) := by
          rw [IntWalk.i64_in (p2 : Int) (by omega), IntWalk.i64_in ((p2 : Int) * 256) (by omega), IntWalk.i64_in (p3 : Int) (by omega)]
          exact hor2
        have HRES : Hid ((tuT l).vals = #[.int .u32 (x12 : Int), .int .u32 (x16 : Int), .int .i64 (x9 : Int), .int .i64 (sp : Int), .int .i64 (dp : Int)] ∧ (hdT l).vals = #[.int .i64 (s : Int), .int .i64 (x1 : Int), .int .i64 (L : Int), .int .i64 (x4 : Int), .int .i64 (f : Int), .int .i64 (o : Int), .int .i64 (x8 : Int), .int .i64 (x9 : Int), .int .i64 (x10 : Int), .int .u32 (x12 : Int), .int .u32 (x16 : Int)] ∧ whyT l = 0) := by
          refine ⟨?_, by rw [hdT_yes hyt]; exact HV.out, hyt⟩
          rw [tuT_yes hyt, HTU.out]
          have t0 : two' bd 0 = sp := by unfold two'; rw [hsp, hp0, hp1]
          have t2 : two' bd 2 = dp := by unfold two'; rw [hdp, hp2, hp3]
          rw [t0, t2]
          rfl
        have hb0 : ((r : Int) != 0) = false := by simp; omega
        have HY2 := Lib.hid (And.intro hOd (And.intro hqd (And.intro hpd (And.intro hhd hBd))))
        have HPP := Lib.hid (And.intro hp0 (And.intro hp1 (And.intro hp2 hp3)))
        clear hyt h0 hOd hqd hpd hhd hBd hp0 hp1 hp2 hp3 hsp hdp hgb hq9 hp9 hh9 hO9 hB9' HX
        go_wp2_with fail
        have e1z : ¬ ph = q := by omega
        have e2z : ¬ ph = q + 1 := by omega
        have e5z : ¬ q = ph := by omega
        have e6z : ¬ q + 1 = ph := by omega
        have e7z : ¬ g = q := by omega
        have e8z : ¬ g = q + 1 := by omega
        have c0 := own_at (own_drew HY2.out.1) (j := 0) (by omega) HBA.out.2
        have c1x := own_at (own_drew HY2.out.1) (j := 1) (by omega) HBA.out.2
        have c2x := own_at (own_drew HY2.out.1) (j := 2) (by omega) HBA.out.2
        have c3x := own_at (own_drew HY2.out.1) (j := 3) (by omega) HBA.out.2
        rw [← HPP.out.1] at c0
        rw [← HPP.out.2.1] at c1x
        rw [← HPP.out.2.2.1] at c2x
        rw [← HPP.out.2.2.2] at c3x
        have j0 : (0 : Int) < (m : Int) := by omega
        have j0n : 0 < m := by omega
        have j1n : 1 < m := by omega
        have j2n : 2 < m := by omega
        have j3n : 3 < m := by omega
        have j1 : (1 : Int) < (m : Int) := by omega
        have j2 : (2 : Int) < (m : Int) := by omega
        have j3 : (3 : Int) < (m : Int) := by omega
        have e0 := HY2.out.2.2.2.1.drew.cell 0
        have e1 := HY2.out.2.2.2.1.drew.cell 1
        have e2 := HY2.out.2.2.2.1.drew.cell 2
        have e3 := HY2.out.2.2.2.1.drew.cell 3
        have e4 := HY2.out.2.2.2.1.drew.cell 4
        have e5 := HY2.out.2.2.2.1.drew.cell 5
        have e6 := HY2.out.2.2.2.1.drew.cell 6
        have e7 := HY2.out.2.2.2.1.drew.cell 7
        have e8 := HY2.out.2.2.2.1.drew.cell 8
        have e9 := HY2.out.2.2.2.1.drew.cell 9
        have e10 := HY2.out.2.2.2.1.drew.cell 10
        simp only [List.getElem?_toArray, List.getElem?_cons_zero, List.getElem?_cons_succ] at e0 e1 e2 e3 e4 e5 e6 e7 e8 e9 e10
        have ca0 := HY2.out.2.1.drew.cell 0
        have ca1 := HY2.out.2.1.drew.cell 1
        have ca2 := HY2.out.2.1.drew.cell 2
        have ca3 := HY2.out.2.1.drew.cell 3
        have ca4 := HY2.out.2.1.drew.cell 4
        simp only [List.getElem?_toArray, List.getElem?_cons_zero, List.getElem?_cons_succ] at ca0 ca1 ca2 ca3 ca4
        have fa0 := HY2.out.2.1.drew.frozen 0
        have fa1 := HY2.out.2.1.drew.frozen 1
        have fa2 := HY2.out.2.1.drew.frozen 2
        have fa3 := HY2.out.2.1.drew.frozen 3
        have fa4 := HY2.out.2.1.drew.frozen 4
        have cb0 := HY2.out.2.2.1.drew.cell 0
        have cb1 := HY2.out.2.2.1.drew.cell 1
        have cb2 := HY2.out.2.2.1.drew.cell 2
        have cb3 := HY2.out.2.2.1.drew.cell 3
        have cb4 := HY2.out.2.2.1.drew.cell 4
        have cb5 := HY2.out.2.2.1.drew.cell 5
        have cb6 := HY2.out.2.2.1.drew.cell 6
        have cb7 := HY2.out.2.2.1.drew.cell 7
        have cb8 := HY2.out.2.2.1.drew.cell 8
        have cb9 := HY2.out.2.2.1.drew.cell 9
        have cb10 := HY2.out.2.2.1.drew.cell 10
        simp only [List.getElem?_toArray, List.getElem?_cons_zero, List.getElem?_cons_succ] at cb0 cb1 cb2 cb3 cb4 cb5 cb6 cb7 cb8 cb9 cb10
        have fb0 := HY2.out.2.2.1.drew.frozen 0
        have fb1 := HY2.out.2.2.1.drew.frozen 1
        have fb2 := HY2.out.2.2.1.drew.frozen 2
        have fb3 := HY2.out.2.2.1.drew.frozen 3
        have fb4 := HY2.out.2.2.1.drew.frozen 4
        have fb5 := HY2.out.2.2.1.drew.frozen 5
        have fb6 := HY2.out.2.2.1.drew.frozen 6
        have fb7 := HY2.out.2.2.1.drew.frozen 7
        have fb8 := HY2.out.2.2.1.drew.frozen 8
        have fb9 := HY2.out.2.2.1.drew.frozen 9
        have fb10 := HY2.out.2.2.1.drew.frozen 10
        have uca0 := HY2.out.2.1.cell 0
        have uca1 := HY2.out.2.1.cell 1
        have uca2 := HY2.out.2.1.cell 2
        have uca3 := HY2.out.2.1.cell 3
        have uca4 := HY2.out.2.1.cell 4
        simp only [List.getElem?_toArray, List.getElem?_cons_zero, List.getElem?_cons_succ] at uca0 uca1 uca2 uca3 uca4
        have ufa0 := HY2.out.2.1.frozen 0
        have ufa1 := HY2.out.2.1.frozen 1
        have ufa2 := HY2.out.2.1.frozen 2
        have ufa3 := HY2.out.2.1.frozen 3
        have ufa4 := HY2.out.2.1.frozen 4
        have ucb0 := HY2.out.2.2.1.cell 0
        have ucb1 := HY2.out.2.2.1.cell 1
        have ucb2 := HY2.out.2.2.1.cell 2
        have ucb3 := HY2.out.2.2.1.cell 3
        have ucb4 := HY2.out.2.2.1.cell 4
        have ucb5 := HY2.out.2.2.1.cell 5
        have ucb6 := HY2.out.2.2.1.cell 6
        have ucb7 := HY2.out.2.2.1.cell 7
        have ucb8 := HY2.out.2.2.1.cell 8
        have ucb9 := HY2.out.2.2.1.cell 9
        have ucb10 := HY2.out.2.2.1.cell 10
        simp only [List.getElem?_toArray, List.getElem?_cons_zero, List.getElem?_cons_succ] at ucb0 ucb1 ucb2 ucb3 ucb4 ucb5 ucb6 ucb7 ucb8 ucb9 ucb10
        have ufb0 := HY2.out.2.2.1.frozen 0
        have ufb1 := HY2.out.2.2.1.frozen 1
        have ufb2 := HY2.out.2.2.1.frozen 2
        have ufb3 := HY2.out.2.2.1.frozen 3
        have ufb4 := HY2.out.2.2.1.frozen 4
        have ufb5 := HY2.out.2.2.1.frozen 5
        have ufb6 := HY2.out.2.2.1.frozen 6
        have ufb7 := HY2.out.2.2.1.frozen 7
        have ufb8 := HY2.out.2.2.1.frozen 8
        have ufb9 := HY2.out.2.2.1.frozen 9
        have ufb10 := HY2.out.2.2.1.frozen 10
        have uc0 : wc.cell? ⟨g, 0, none⟩ = _ := c0
        have uc1 : wc.cell? ⟨g, 1, none⟩ = _ := c1x
        have uc2 : wc.cell? ⟨g, 2, none⟩ = _ := c2x
        have uc3 : wc.cell? ⟨g, 3, none⟩ = _ := c3x
        have ue0 : wc.cell? ⟨ph, 0, none⟩ = _ := e0
        have ue1 : wc.cell? ⟨ph, 1, none⟩ = _ := e1
        have ue2 : wc.cell? ⟨ph, 2, none⟩ = _ := e2
        have ue3 : wc.cell? ⟨ph, 3, none⟩ = _ := e3
        have ue4 : wc.cell? ⟨ph, 4, none⟩ = _ := e4
        have ue5 : wc.cell? ⟨ph, 5, none⟩ = _ := e5
        have ue6 : wc.cell? ⟨ph, 6, none⟩ = _ := e6
        have ue7 : wc.cell? ⟨ph, 7, none⟩ = _ := e7
        have ue8 : wc.cell? ⟨ph, 8, none⟩ = _ := e8
        have ue9 : wc.cell? ⟨ph, 9, none⟩ = _ := e9
        have ue10 : wc.cell? ⟨ph, 10, none⟩ = _ := e10
        go_region_held3 (fun wS => wS.cell? ⟨ph, 0, none⟩ = some (.int .i64 (s : Int)) ∧ wS.cell? ⟨ph, 1, none⟩ = some (.int .i64 (x1 : Int)) ∧ wS.cell? ⟨ph, 2, none⟩ = some (.int .i64 (L : Int)) ∧ wS.cell? ⟨ph, 3, none⟩ = some (.int .i64 (x4 : Int)) ∧ wS.cell? ⟨ph, 4, none⟩ = some (.int .i64 (f : Int)) ∧ wS.cell? ⟨ph, 5, none⟩ = some (.int .i64 (o : Int)) ∧ wS.cell? ⟨ph, 6, none⟩ = some (.int .i64 (x8 : Int)) ∧ wS.cell? ⟨ph, 7, none⟩ = some (.int .i64 (x9 : Int)) ∧ wS.cell? ⟨ph, 8, none⟩ = some (.int .i64 (x10 : Int)) ∧ wS.cell? ⟨ph, 9, none⟩ = some (.int .u32 (x12 : Int)) ∧ wS.cell? ⟨ph, 10, none⟩ = some (.int .u32 (x16 : Int)) ∧ wS.cell? ⟨g, 0, none⟩ = some (.int .u8 (p0 : Int)) ∧ wS.cell? ⟨g, 1, none⟩ = some (.int .u8 (p1 : Int)) ∧ wS.cell? ⟨g, 2, none⟩ = some (.int .u8 (p2 : Int)) ∧ wS.cell? ⟨g, 3, none⟩ = some (.int .u8 (p3 : Int))) (first | with_reducible exact ⟨e0, e1, e2, e3, e4, e5, e6, e7, e8, e9, e10, c0, c1x, c2x, c3x⟩ | (simp only [drew_far, cell_far e1z, cell_far e2z, cell_far e7z, cell_far e8z, ue0, ue1, ue2, ue3, ue4, ue5, ue6, ue7, ue8, ue9, ue10, uc0, uc1, uc2, uc3, and_self])) (fail)

        go_wp2_with fail
        obtain ⟨w9, hw9⟩ : ∃ w9, w9 = (((((((((((((((((wc).setCell ⟨q, 0, none⟩ (.int .u32 (x12 : Int))).setCell ⟨q, 1, none⟩ (.int .u32 (x16 : Int))).setCell ⟨q, 2, none⟩ (.int .i64 (x9 : Int))).setCell ⟨q, 3, none⟩ (.int .i64 (sp : Int))).setCell ⟨q, 4, none⟩ (.int .i64 (dp : Int))).setCell ⟨q + 1, 0, none⟩ (.int .i64 (s : Int))).setCell ⟨q + 1, 1, none⟩ (.int .i64 (x1 : Int))).setCell ⟨q + 1, 2, none⟩ (.int .i64 (L : Int))).setCell ⟨q + 1, 3, none⟩ (.int .i64 (x4 : Int))).setCell ⟨q + 1, 4, none⟩ (.int .i64 (f : Int))).setCell ⟨q + 1, 5, none⟩ (.int .i64 (o : Int))).setCell ⟨q + 1, 6, none⟩ (.int .i64 (x8 : Int))).setCell ⟨q + 1, 7, none⟩ (.int .i64 (x9 : Int))).setCell ⟨q + 1, 8, none⟩ (.int .i64 (x10 : Int))).setCell ⟨q + 1, 9, none⟩ (.int .u32 (x12 : Int))).setCell ⟨q + 1, 10, none⟩ (.int .u32 (x16 : Int))).drew := ⟨_, rfl⟩
        have hz2 : Blk w9 q 43 #[.int .u32 (x12 : Int), .int .u32 (x16 : Int), .int .i64 (x9 : Int), .int .i64 (sp : Int), .int .i64 (dp : Int)] := by
          rw [hw9]
          have hset := ((((((((((((((((HY2.out.2.1).set_ 0 (.int .u32 (x12 : Int))).set_ 1 (.int .u32 (x16 : Int))).set_ 2 (.int .i64 (x9 : Int))).set_ 3 (.int .i64 (sp : Int))).set_ 4 (.int .i64 (dp : Int))).far (p := ⟨q + 1, 0, none⟩) (by show q ≠ q + 1; omega) (.int .i64 (s : Int))).far (p := ⟨q + 1, 1, none⟩) (by show q ≠ q + 1; omega) (.int .i64 (x1 : Int))).far (p := ⟨q + 1, 2, none⟩) (by show q ≠ q + 1; omega) (.int .i64 (L : Int))).far (p := ⟨q + 1, 3, none⟩) (by show q ≠ q + 1; omega) (.int .i64 (x4 : Int))).far (p := ⟨q + 1, 4, none⟩) (by show q ≠ q + 1; omega) (.int .i64 (f : Int))).far (p := ⟨q + 1, 5, none⟩) (by show q ≠ q + 1; omega) (.int .i64 (o : Int))).far (p := ⟨q + 1, 6, none⟩) (by show q ≠ q + 1; omega) (.int .i64 (x8 : Int))).far (p := ⟨q + 1, 7, none⟩) (by show q ≠ q + 1; omega) (.int .i64 (x9 : Int))).far (p := ⟨q + 1, 8, none⟩) (by show q ≠ q + 1; omega) (.int .i64 (x10 : Int))).far (p := ⟨q + 1, 9, none⟩) (by show q ≠ q + 1; omega) (.int .u32 (x12 : Int))).far (p := ⟨q + 1, 10, none⟩) (by show q ≠ q + 1; omega) (.int .u32 (x16 : Int))
          simp only [List.setIfInBounds_toArray, List.set_cons_zero, List.set_cons_succ] at hset
          exact hset.drew
        have hz3 : Blk w9 (q + 1) 24 #[.int .i64 (s : Int), .int .i64 (x1 : Int), .int .i64 (L : Int), .int .i64 (x4 : Int), .int .i64 (f : Int), .int .i64 (o : Int), .int .i64 (x8 : Int), .int .i64 (x9 : Int), .int .i64 (x10 : Int), .int .u32 (x12 : Int), .int .u32 (x16 : Int)] := by
          rw [hw9]
          have hset := ((((((((((((((((HY2.out.2.2.1).far (p := ⟨q, 0, none⟩) (by show q + 1 ≠ q; omega) (.int .u32 (x12 : Int))).far (p := ⟨q, 1, none⟩) (by show q + 1 ≠ q; omega) (.int .u32 (x16 : Int))).far (p := ⟨q, 2, none⟩) (by show q + 1 ≠ q; omega) (.int .i64 (x9 : Int))).far (p := ⟨q, 3, none⟩) (by show q + 1 ≠ q; omega) (.int .i64 (sp : Int))).far (p := ⟨q, 4, none⟩) (by show q + 1 ≠ q; omega) (.int .i64 (dp : Int))).set_ 0 (.int .i64 (s : Int))).set_ 1 (.int .i64 (x1 : Int))).set_ 2 (.int .i64 (L : Int))).set_ 3 (.int .i64 (x4 : Int))).set_ 4 (.int .i64 (f : Int))).set_ 5 (.int .i64 (o : Int))).set_ 6 (.int .i64 (x8 : Int))).set_ 7 (.int .i64 (x9 : Int))).set_ 8 (.int .i64 (x10 : Int))).set_ 9 (.int .u32 (x12 : Int))).set_ 10 (.int .u32 (x16 : Int))
          simp only [List.setIfInBounds_toArray, List.set_cons_zero, List.set_cons_succ] at hset
          exact hset.drew
        have hB9 : Below w.heap.size w w9 := by
          rw [hw9]
          exact (HY2.out.2.2.2.2.trans ((((((((((((((((((Below.refl q wc).setCell (p := ⟨q, 0, none⟩) (Nat.le_refl _) _).setCell (p := ⟨q, 1, none⟩) (Nat.le_refl _) _).setCell (p := ⟨q, 2, none⟩) (Nat.le_refl _) _).setCell (p := ⟨q, 3, none⟩) (Nat.le_refl _) _).setCell (p := ⟨q, 4, none⟩) (Nat.le_refl _) _).setCell (p := ⟨q + 1, 0, none⟩) (Nat.le_succ _) _).setCell (p := ⟨q + 1, 1, none⟩) (Nat.le_succ _) _).setCell (p := ⟨q + 1, 2, none⟩) (Nat.le_succ _) _).setCell (p := ⟨q + 1, 3, none⟩) (Nat.le_succ _) _).setCell (p := ⟨q + 1, 4, none⟩) (Nat.le_succ _) _).setCell (p := ⟨q + 1, 5, none⟩) (Nat.le_succ _) _).setCell (p := ⟨q + 1, 6, none⟩) (Nat.le_succ _) _).setCell (p := ⟨q + 1, 7, none⟩) (Nat.le_succ _) _).setCell (p := ⟨q + 1, 8, none⟩) (Nat.le_succ _) _).setCell (p := ⟨q + 1, 9, none⟩) (Nat.le_succ _) _).setCell (p := ⟨q + 1, 10, none⟩) (Nat.le_succ _) _ : Below q wc _).mono (by rw [HQ.out]; exact Nat.le_refl _))).drew
        rw [← hw9]
        clear hw9
        have ra0 := hz2.cell 0
        have ra1 := hz2.cell 1
        have ra2 := hz2.cell 2
        have ra3 := hz2.cell 3
        have ra4 := hz2.cell 4
        simp only [List.getElem?_toArray, List.getElem?_cons_zero, List.getElem?_cons_succ] at ra0 ra1 ra2 ra3 ra4
        have rb0 := hz3.cell 0
        have rb1 := hz3.cell 1
        have rb2 := hz3.cell 2
        have rb3 := hz3.cell 3
        have rb4 := hz3.cell 4
        have rb5 := hz3.cell 5
        have rb6 := hz3.cell 6
        have rb7 := hz3.cell 7
        have rb8 := hz3.cell 8
        have rb9 := hz3.cell 9
        have rb10 := hz3.cell 10
        simp only [List.getElem?_toArray, List.getElem?_cons_zero, List.getElem?_cons_succ] at rb0 rb1 rb2 rb3 rb4 rb5 rb6 rb7 rb8 rb9 rb10
        exact bodyPost_ret (v := .tuple #[.agg #[.int .u32 (x12 : Int), .int .u32 (x16 : Int), .int .i64 (x9 : Int), .int .i64 (sp : Int), .int .i64 (dp : Int)], .agg #[.int .i64 (s : Int), .int .i64 (x1 : Int), .int .i64 (L : Int), .int .i64 (x4 : Int), .int .i64 (f : Int), .int .i64 (o : Int), .int .i64 (x8 : Int), .int .i64 (x9 : Int), .int .i64 (x10 : Int), .int .u32 (x12 : Int), .int .u32 (x16 : Int)], .int .i64 0]) (by simp [results, Try.results25, go_sem, ra0, ra1, ra2, ra3, ra4, rb0, rb1, rb2, rb3, rb4, rb5, rb6, rb7, rb8, rb9, rb10]) rfl ⟨by rw [HRES.out.1, HRES.out.2.1, HRES.out.2.2]; rfl, hB9⟩
      · have hb0 : ((r : Int) != 0) = true := by simp; omega
        have HR0 := Lib.hid h0
        clear h0 hq9 hp9 hh9 hO9 hB9'
        have ca0 := HX.out.1.cell 0
        have ca1 := HX.out.1.cell 1
        have ca2 := HX.out.1.cell 2
        have ca3 := HX.out.1.cell 3
        have ca4 := HX.out.1.cell 4
        simp only [List.getElem?_toArray, List.getElem?_cons_zero, List.getElem?_cons_succ] at ca0 ca1 ca2 ca3 ca4
        have fa0 := HX.out.1.frozen 0
        have fa1 := HX.out.1.frozen 1
        have fa2 := HX.out.1.frozen 2
        have fa3 := HX.out.1.frozen 3
        have fa4 := HX.out.1.frozen 4
        have cb0 := HX.out.2.1.cell 0
        have cb1 := HX.out.2.1.cell 1
        have cb2 := HX.out.2.1.cell 2
        have cb3 := HX.out.2.1.cell 3
        have cb4 := HX.out.2.1.cell 4
        have cb5 := HX.out.2.1.cell 5
        have cb6 := HX.out.2.1.cell 6
        have cb7 := HX.out.2.1.cell 7
        have cb8 := HX.out.2.1.cell 8
        have cb9 := HX.out.2.1.cell 9
        have cb10 := HX.out.2.1.cell 10
        simp only [List.getElem?_toArray, List.getElem?_cons_zero, List.getElem?_cons_succ] at cb0 cb1 cb2 cb3 cb4 cb5 cb6 cb7 cb8 cb9 cb10
        have fb0 := HX.out.2.1.frozen 0
        have fb1 := HX.out.2.1.frozen 1
        have fb2 := HX.out.2.1.frozen 2
        have fb3 := HX.out.2.1.frozen 3
        have fb4 := HX.out.2.1.frozen 4
        have fb5 := HX.out.2.1.frozen 5
        have fb6 := HX.out.2.1.frozen 6
        have fb7 := HX.out.2.1.frozen 7
        have fb8 := HX.out.2.1.frozen 8
        have fb9 := HX.out.2.1.frozen 9
        have fb10 := HX.out.2.1.frozen 10
        go_wp2_with fail
        obtain ⟨w9, hw9⟩ : ∃ w9, w9 = ((((((((((((((((wc).setCell ⟨q, 0, none⟩ (.int .u32 0)).setCell ⟨q, 1, none⟩ (.int .u32 0)).setCell ⟨q, 2, none⟩ (.int .i64 0)).setCell ⟨q, 3, none⟩ (.int .i64 0)).setCell ⟨q, 4, none⟩ (.int .i64 0)).setCell ⟨q + 1, 0, none⟩ (.int .i64 0)).setCell ⟨q + 1, 1, none⟩ (.int .i64 0)).setCell ⟨q + 1, 2, none⟩ (.int .i64 0)).setCell ⟨q + 1, 3, none⟩ (.int .i64 0)).setCell ⟨q + 1, 4, none⟩ (.int .i64 0)).setCell ⟨q + 1, 5, none⟩ (.int .i64 0)).setCell ⟨q + 1, 6, none⟩ (.int .i64 0)).setCell ⟨q + 1, 7, none⟩ (.int .i64 0)).setCell ⟨q + 1, 8, none⟩ (.int .i64 0)).setCell ⟨q + 1, 9, none⟩ (.int .u32 0)).setCell ⟨q + 1, 10, none⟩ (.int .u32 0) := ⟨_, rfl⟩
        have hz2 : Blk w9 q 43 #[.int .u32 0, .int .u32 0, .int .i64 0, .int .i64 0, .int .i64 0] := by
          rw [hw9]
          have hset := ((((((((((((((((HX.out.1).set_ 0 (.int .u32 0)).set_ 1 (.int .u32 0)).set_ 2 (.int .i64 0)).set_ 3 (.int .i64 0)).set_ 4 (.int .i64 0)).far (p := ⟨q + 1, 0, none⟩) (by show q ≠ q + 1; omega) (.int .i64 0)).far (p := ⟨q + 1, 1, none⟩) (by show q ≠ q + 1; omega) (.int .i64 0)).far (p := ⟨q + 1, 2, none⟩) (by show q ≠ q + 1; omega) (.int .i64 0)).far (p := ⟨q + 1, 3, none⟩) (by show q ≠ q + 1; omega) (.int .i64 0)).far (p := ⟨q + 1, 4, none⟩) (by show q ≠ q + 1; omega) (.int .i64 0)).far (p := ⟨q + 1, 5, none⟩) (by show q ≠ q + 1; omega) (.int .i64 0)).far (p := ⟨q + 1, 6, none⟩) (by show q ≠ q + 1; omega) (.int .i64 0)).far (p := ⟨q + 1, 7, none⟩) (by show q ≠ q + 1; omega) (.int .i64 0)).far (p := ⟨q + 1, 8, none⟩) (by show q ≠ q + 1; omega) (.int .i64 0)).far (p := ⟨q + 1, 9, none⟩) (by show q ≠ q + 1; omega) (.int .u32 0)).far (p := ⟨q + 1, 10, none⟩) (by show q ≠ q + 1; omega) (.int .u32 0)
          simp only [List.setIfInBounds_toArray, List.set_cons_zero, List.set_cons_succ] at hset
          exact hset
        have hz3 : Blk w9 (q + 1) 24 #[.int .i64 0, .int .i64 0, .int .i64 0, .int .i64 0, .int .i64 0, .int .i64 0, .int .i64 0, .int .i64 0, .int .i64 0, .int .u32 0, .int .u32 0] := by
          rw [hw9]
          have hset := ((((((((((((((((HX.out.2.1).far (p := ⟨q, 0, none⟩) (by show q + 1 ≠ q; omega) (.int .u32 0)).far (p := ⟨q, 1, none⟩) (by show q + 1 ≠ q; omega) (.int .u32 0)).far (p := ⟨q, 2, none⟩) (by show q + 1 ≠ q; omega) (.int .i64 0)).far (p := ⟨q, 3, none⟩) (by show q + 1 ≠ q; omega) (.int .i64 0)).far (p := ⟨q, 4, none⟩) (by show q + 1 ≠ q; omega) (.int .i64 0)).set_ 0 (.int .i64 0)).set_ 1 (.int .i64 0)).set_ 2 (.int .i64 0)).set_ 3 (.int .i64 0)).set_ 4 (.int .i64 0)).set_ 5 (.int .i64 0)).set_ 6 (.int .i64 0)).set_ 7 (.int .i64 0)).set_ 8 (.int .i64 0)).set_ 9 (.int .u32 0)).set_ 10 (.int .u32 0)
          simp only [List.setIfInBounds_toArray, List.set_cons_zero, List.set_cons_succ] at hset
          exact hset
        have hB9 : Below w.heap.size w w9 := by
          rw [hw9]
          exact HX.out.2.2.trans ((((((((((((((((((Below.refl q wc).setCell (p := ⟨q, 0, none⟩) (Nat.le_refl _) _).setCell (p := ⟨q, 1, none⟩) (Nat.le_refl _) _).setCell (p := ⟨q, 2, none⟩) (Nat.le_refl _) _).setCell (p := ⟨q, 3, none⟩) (Nat.le_refl _) _).setCell (p := ⟨q, 4, none⟩) (Nat.le_refl _) _).setCell (p := ⟨q + 1, 0, none⟩) (Nat.le_succ _) _).setCell (p := ⟨q + 1, 1, none⟩) (Nat.le_succ _) _).setCell (p := ⟨q + 1, 2, none⟩) (Nat.le_succ _) _).setCell (p := ⟨q + 1, 3, none⟩) (Nat.le_succ _) _).setCell (p := ⟨q + 1, 4, none⟩) (Nat.le_succ _) _).setCell (p := ⟨q + 1, 5, none⟩) (Nat.le_succ _) _).setCell (p := ⟨q + 1, 6, none⟩) (Nat.le_succ _) _).setCell (p := ⟨q + 1, 7, none⟩) (Nat.le_succ _) _).setCell (p := ⟨q + 1, 8, none⟩) (Nat.le_succ _) _).setCell (p := ⟨q + 1, 9, none⟩) (Nat.le_succ _) _).setCell (p := ⟨q + 1, 10, none⟩) (Nat.le_succ _) _ : Below q wc _).mono (by rw [HQ.out]; exact Nat.le_refl _))
        rw [← hw9]
        clear hw9
        have ra0 := hz2.cell 0
        have ra1 := hz2.cell 1
        have ra2 := hz2.cell 2
        have ra3 := hz2.cell 3
        have ra4 := hz2.cell 4
        simp only [List.getElem?_toArray, List.getElem?_cons_zero, List.getElem?_cons_succ] at ra0 ra1 ra2 ra3 ra4
        have rb0 := hz3.cell 0
        have rb1 := hz3.cell 1
        have rb2 := hz3.cell 2
        have rb3 := hz3.cell 3
        have rb4 := hz3.cell 4
        have rb5 := hz3.cell 5
        have rb6 := hz3.cell 6
        have rb7 := hz3.cell 7
        have rb8 := hz3.cell 8
        have rb9 := hz3.cell 9
        have rb10 := hz3.cell 10
        simp only [List.getElem?_toArray, List.getElem?_cons_zero, List.getElem?_cons_succ] at rb0 rb1 rb2 rb3 rb4 rb5 rb6 rb7 rb8 rb9 rb10
        exact bodyPost_ret (v := .tuple #[.agg #[.int .u32 0, .int .u32 0, .int .i64 0, .int .i64 0, .int .i64 0], .agg #[.int .i64 0, .int .i64 0, .int .i64 0, .int .i64 0, .int .i64 0, .int .i64 0, .int .i64 0, .int .i64 0, .int .i64 0, .int .u32 0, .int .u32 0], .int .i64 (r : Int)]) (by simp [results, Try.results25, go_sem, ra0, ra1, ra2, ra3, ra4, rb0, rb1, rb2, rb3, rb4, rb5, rb6, rb7, rb8, rb9, rb10]) rfl ⟨by rw [tuT_no (by rw [← HR.out]; exact HR0.out), hdT_no (by rw [← HR.out]; exact HR0.out), ← HR.out]; rfl, hB9⟩
  · obtain ⟨r, hrr, hr0⟩ : ∃ r, whyP l = r ∧ r ≠ 0 := ⟨_, rfl, hy⟩
    have HW : Hid (whyT l = r) := by show _ = _; unfold whyT; rw [if_pos hy, hrr]
    have HR := Lib.hid hrr
    have HY := Lib.hid hy
    have hb0 : ((r : Int) != 0) = true := by simp; omega
    have HR0 := Lib.hid hr0
    clear hr hrr hy hr0
    go_enter Try.func25, Try.ntmps25
    go_wp2_with fail
    refine (CP.out _ hBa).mono ?_
    rintro e w1 ⟨hret, hb1⟩
    obtain rfl := hret.no HY.out
    rw [HR.out]
    have hB1 := hBa.trans (hb1.mono hBa.size)
    have hB2 := hB1.alloc hB1.size (.cells #[.int .i64 0, .int .i64 0, .int .i64 0, .int .i64 0, .int .i64 0, .int .i64 0, .int .i64 0, .int .i64 0, .int .i64 0, .int .u32 0, .int .u32 0] 24)
    have hq1 := (hq.below hb1 hq.lt).alloc (.cells #[.int .i64 0, .int .i64 0, .int .i64 0, .int .i64 0, .int .i64 0, .int .i64 0, .int .i64 0, .int .i64 0, .int .i64 0, .int .u32 0, .int .u32 0] 24)
    have hp1 := (hp.below hb1 hp.lt).alloc (.cells #[.int .i64 0, .int .i64 0, .int .i64 0, .int .i64 0, .int .i64 0, .int .i64 0, .int .i64 0, .int .i64 0, .int .i64 0, .int .u32 0, .int .u32 0] 24)
    have hlt : w.heap.size + 1 < w1.heap.size := by have := hb1.size; simp at this; omega
    obtain ⟨q, hqe⟩ : ∃ q, q = w.heap.size := ⟨_, rfl⟩
    rw [← hqe] at hq1 hp1 hlt ⊢
    have HQ := Lib.hid hqe
    have HX := Lib.hid (And.intro hq1 (And.intro hp1 hB2))
    unfold hd0 Hd.vals
    clear hret CP hb1 hqe hq hp hBa hB1 hB2
    go_upto_region 2 with fail
    generalize w1.alloc (.cells #[.int .i64 0, .int .i64 0, .int .i64 0, .int .i64 0, .int .i64 0, .int .i64 0, .int .i64 0, .int .i64 0, .int .i64 0, .int .u32 0, .int .u32 0] 24) = wc at *
    clear hq1 hp1
    have ca0 := HX.out.1.cell 0
    have ca1 := HX.out.1.cell 1
    have ca2 := HX.out.1.cell 2
    have ca3 := HX.out.1.cell 3
    have ca4 := HX.out.1.cell 4
    simp only [List.getElem?_toArray, List.getElem?_cons_zero, List.getElem?_cons_succ] at ca0 ca1 ca2 ca3 ca4
    have fa0 := HX.out.1.frozen 0
    have fa1 := HX.out.1.frozen 1
    have fa2 := HX.out.1.frozen 2
    have fa3 := HX.out.1.frozen 3
    have fa4 := HX.out.1.frozen 4
    have cb0 := HX.out.2.1.cell 0
    have cb1 := HX.out.2.1.cell 1
    have cb2 := HX.out.2.1.cell 2
    have cb3 := HX.out.2.1.cell 3
    have cb4 := HX.out.2.1.cell 4
    have cb5 := HX.out.2.1.cell 5
    have cb6 := HX.out.2.1.cell 6
    have cb7 := HX.out.2.1.cell 7
    have cb8 := HX.out.2.1.cell 8
    have cb9 := HX.out.2.1.cell 9
    have cb10 := HX.out.2.1.cell 10
    simp only [List.getElem?_toArray, List.getElem?_cons_zero, List.getElem?_cons_succ] at cb0 cb1 cb2 cb3 cb4 cb5 cb6 cb7 cb8 cb9 cb10
    have fb0 := HX.out.2.1.frozen 0
    have fb1 := HX.out.2.1.frozen 1
    have fb2 := HX.out.2.1.frozen 2
    have fb3 := HX.out.2.1.frozen 3
    have fb4 := HX.out.2.1.frozen 4
    have fb5 := HX.out.2.1.frozen 5
    have fb6 := HX.out.2.1.frozen 6
    have fb7 := HX.out.2.1.frozen 7
    have fb8 := HX.out.2.1.frozen 8
    have fb9 := HX.out.2.1.frozen 9
    have fb10 := HX.out.2.1.frozen 10
    go_wp2_with fail
    obtain ⟨w9, hw9⟩ : ∃ w9, w9 = ((((((((((((((((wc).setCell ⟨q, 0, none⟩ (.int .u32 0)).setCell ⟨q, 1, none⟩ (.int .u32 0)).setCell ⟨q, 2, none⟩ (.int .i64 0)).setCell ⟨q, 3, none⟩ (.int .i64 0)).setCell ⟨q, 4, none⟩ (.int .i64 0)).setCell ⟨q + 1, 0, none⟩ (.int .i64 0)).setCell ⟨q + 1, 1, none⟩ (.int .i64 0)).setCell ⟨q + 1, 2, none⟩ (.int .i64 0)).setCell ⟨q + 1, 3, none⟩ (.int .i64 0)).setCell ⟨q + 1, 4, none⟩ (.int .i64 0)).setCell ⟨q + 1, 5, none⟩ (.int .i64 0)).setCell ⟨q + 1, 6, none⟩ (.int .i64 0)).setCell ⟨q + 1, 7, none⟩ (.int .i64 0)).setCell ⟨q + 1, 8, none⟩ (.int .i64 0)).setCell ⟨q + 1, 9, none⟩ (.int .u32 0)).setCell ⟨q + 1, 10, none⟩ (.int .u32 0) := ⟨_, rfl⟩
    have hz2 : Blk w9 q 43 #[.int .u32 0, .int .u32 0, .int .i64 0, .int .i64 0, .int .i64 0] := by
      rw [hw9]
      have hset := ((((((((((((((((HX.out.1).set_ 0 (.int .u32 0)).set_ 1 (.int .u32 0)).set_ 2 (.int .i64 0)).set_ 3 (.int .i64 0)).set_ 4 (.int .i64 0)).far (p := ⟨q + 1, 0, none⟩) (by show q ≠ q + 1; omega) (.int .i64 0)).far (p := ⟨q + 1, 1, none⟩) (by show q ≠ q + 1; omega) (.int .i64 0)).far (p := ⟨q + 1, 2, none⟩) (by show q ≠ q + 1; omega) (.int .i64 0)).far (p := ⟨q + 1, 3, none⟩) (by show q ≠ q + 1; omega) (.int .i64 0)).far (p := ⟨q + 1, 4, none⟩) (by show q ≠ q + 1; omega) (.int .i64 0)).far (p := ⟨q + 1, 5, none⟩) (by show q ≠ q + 1; omega) (.int .i64 0)).far (p := ⟨q + 1, 6, none⟩) (by show q ≠ q + 1; omega) (.int .i64 0)).far (p := ⟨q + 1, 7, none⟩) (by show q ≠ q + 1; omega) (.int .i64 0)).far (p := ⟨q + 1, 8, none⟩) (by show q ≠ q + 1; omega) (.int .i64 0)).far (p := ⟨q + 1, 9, none⟩) (by show q ≠ q + 1; omega) (.int .u32 0)).far (p := ⟨q + 1, 10, none⟩) (by show q ≠ q + 1; omega) (.int .u32 0)
      simp only [List.setIfInBounds_toArray, List.set_cons_zero, List.set_cons_succ] at hset
      exact hset
    have hz3 : Blk w9 (q + 1) 24 #[.int .i64 0, .int .i64 0, .int .i64 0, .int .i64 0, .int .i64 0, .int .i64 0, .int .i64 0, .int .i64 0, .int .i64 0, .int .u32 0, .int .u32 0] := by
      rw [hw9]
      have hset := ((((((((((((((((HX.out.2.1).far (p := ⟨q, 0, none⟩) (by show q + 1 ≠ q; omega) (.int .u32 0)).far (p := ⟨q, 1, none⟩) (by show q + 1 ≠ q; omega) (.int .u32 0)).far (p := ⟨q, 2, none⟩) (by show q + 1 ≠ q; omega) (.int .i64 0)).far (p := ⟨q, 3, none⟩) (by show q + 1 ≠ q; omega) (.int .i64 0)).far (p := ⟨q, 4, none⟩) (by show q + 1 ≠ q; omega) (.int .i64 0)).set_ 0 (.int .i64 0)).set_ 1 (.int .i64 0)).set_ 2 (.int .i64 0)).set_ 3 (.int .i64 0)).set_ 4 (.int .i64 0)).set_ 5 (.int .i64 0)).set_ 6 (.int .i64 0)).set_ 7 (.int .i64 0)).set_ 8 (.int .i64 0)).set_ 9 (.int .u32 0)).set_ 10 (.int .u32 0)
      simp only [List.setIfInBounds_toArray, List.set_cons_zero, List.set_cons_succ] at hset
      exact hset
    have hB9 : Below w.heap.size w w9 := by
      rw [hw9]
      exact HX.out.2.2.trans ((((((((((((((((((Below.refl q wc).setCell (p := ⟨q, 0, none⟩) (Nat.le_refl _) _).setCell (p := ⟨q, 1, none⟩) (Nat.le_refl _) _).setCell (p := ⟨q, 2, none⟩) (Nat.le_refl _) _).setCell (p := ⟨q, 3, none⟩) (Nat.le_refl _) _).setCell (p := ⟨q, 4, none⟩) (Nat.le_refl _) _).setCell (p := ⟨q + 1, 0, none⟩) (Nat.le_succ _) _).setCell (p := ⟨q + 1, 1, none⟩) (Nat.le_succ _) _).setCell (p := ⟨q + 1, 2, none⟩) (Nat.le_succ _) _).setCell (p := ⟨q + 1, 3, none⟩) (Nat.le_succ _) _).setCell (p := ⟨q + 1, 4, none⟩) (Nat.le_succ _) _).setCell (p := ⟨q + 1, 5, none⟩) (Nat.le_succ _) _).setCell (p := ⟨q + 1, 6, none⟩) (Nat.le_succ _) _).setCell (p := ⟨q + 1, 7, none⟩) (Nat.le_succ _) _).setCell (p := ⟨q + 1, 8, none⟩) (Nat.le_succ _) _).setCell (p := ⟨q + 1, 9, none⟩) (Nat.le_succ _) _).setCell (p := ⟨q + 1, 10, none⟩) (Nat.le_succ _) _ : Below q wc _).mono (by rw [HQ.out]; exact Nat.le_refl _))
    rw [← hw9]
    clear hw9
    have ra0 := hz2.cell 0
    have ra1 := hz2.cell 1
    have ra2 := hz2.cell 2
    have ra3 := hz2.cell 3
    have ra4 := hz2.cell 4
    simp only [List.getElem?_toArray, List.getElem?_cons_zero, List.getElem?_cons_succ] at ra0 ra1 ra2 ra3 ra4
    have rb0 := hz3.cell 0
    have rb1 := hz3.cell 1
    have rb2 := hz3.cell 2
    have rb3 := hz3.cell 3
    have rb4 := hz3.cell 4
    have rb5 := hz3.cell 5
    have rb6 := hz3.cell 6
    have rb7 := hz3.cell 7
    have rb8 := hz3.cell 8
    have rb9 := hz3.cell 9
    have rb10 := hz3.cell 10
    simp only [List.getElem?_toArray, List.getElem?_cons_zero, List.getElem?_cons_succ] at rb0 rb1 rb2 rb3 rb4 rb5 rb6 rb7 rb8 rb9 rb10
    exact bodyPost_ret (v := .tuple #[.agg #[.int .u32 0, .int .u32 0, .int .i64 0, .int .i64 0, .int .i64 0], .agg #[.int .i64 0, .int .i64 0, .int .i64 0, .int .i64 0, .int .i64 0, .int .i64 0, .int .i64 0, .int .i64 0, .int .i64 0, .int .u32 0, .int .u32 0], .int .i64 (r : Int)]) (by simp [results, Try.results25, go_sem, ra0, ra1, ra2, ra3, ra4, rb0, rb1, rb2, rb3, rb4, rb5, rb6, rb7, rb8, rb9, rb10]) rfl ⟨by rw [tuT_no (by rw [HW.out]; exact HR0.out), hdT_no (by rw [HW.out]; exact HR0.out), HW.out]; rfl, hB9⟩
end Go.Proofs.Ytpgbldpppdmdoaa
