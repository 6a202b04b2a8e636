/- The walk of MaglevLeaves. -/
import Derived.Test.YtaamflhleommlaaLeavesPlain
import Derived.Deep.RegionLaw
import Derived.Deep.DeepCutAuto
namespace Go.Proofs.Ytaamflhleommlaa.maglevLeaves
set_option linter.unusedVariables false
set_option linter.unusedSimpArgs false
open Go.RowKit Go.Maps

def Rest (w wr : World) (v : Value) (l : List Be) (n k : Nat) : Prop :=
  ∃ A4 c4, v = .slice A4 (n - 1) c4 ∧ wr.ownsRow w.heap.size 27 3 (.slice A4 (n - 1) c4) (n - 1) (bks (lessK l k)) ∧ Below w.heap.size w wr

set_option maxHeartbeats 2000000 in
set_option maxRecDepth 100000 in
theorem lawWalk (A : Option Addr) (n c : Nat) (l : List Be) (at_ pick : Int) (w : World) (hi : BesIn w A n c l) (ha : -9223372036854775808 ≤ at_ ∧ at_ ≤ 9223372036854775807) (hp : -9223372036854775808 ≤ pick ∧ pick ≤ 9223372036854775807) :
    Calls Try.prog 7 #[.slice A n c, .int .i64 at_, .int .i64 pick] w fun e w' => e = .returned (.bool true) ∧ Below w.heap.size w w' := by
  have hr := hi.reads
  have hok := hi.ok
  have hn : n ≤ 46912496118442 := by have := hi.le; have := hi.reach; omega
  have hnc := hi.le
  have hlen := hr.be_length
  clear hi
  have CM := Lib.hid (maybs_any A n c w.heap.size l w hr (Nat.le_refl _) hok hn hnc)
  have awk : ∀ (h : ¬ MayBs n l ∨ n = 0), Calls Try.prog 7 #[.slice A n c, .int .i64 at_, .int .i64 pick] w fun e w' => e = .returned (.bool true) ∧ Below w.heap.size w w' := by
    intro h
    have H := Lib.hid h
    clear h
    go_enter Try.func7, Try.ntmps7
    go_wp2_with fail
    refine CM.out.mono ?_
    rintro e w1 ⟨⟨bb, rfl, hbb⟩, hb1⟩
    have HB := Lib.hid hbb
    clear hbb CM
    cases bb
    · go_wp2_with fail
      refine (awake18_any _).mono ?_
      rintro e w9 ⟨rfl, hb9⟩
      go_wp2_with fail
      go_ret
      exact ⟨rfl, hb1.trans (hb9.mono hb1.size)⟩
    · have hn0 : n = 0 := H.out.resolve_left (fun hh => hh (HB.out.1 rfl))
      have hbz : ((n : Int) == 0) = true := by simp [hn0]
      clear hn0
      go_wp2_with fail
      refine (awake18_any _).mono ?_
      rintro e w9 ⟨rfl, hb9⟩
      go_wp2_with fail
      go_ret
      exact ⟨rfl, hb1.trans (hb9.mono hb1.size)⟩
  by_cases hmb : MayBs n l
  · by_cases hn0 : n = 0
    · exact awk (.inr hn0)
    · clear awk
      have H16 := hmb.1
      have hoks := hmb.2
      rw [← hlen] at hoks
      have HOK := Lib.hid hoks
      have HMB := Lib.hid hmb
      have hbz : ((n : Int) == 0) = false := by simp; omega
      obtain ⟨j, hj, hje0⟩ := idx_rem pick 4 (by omega)
      have hje : (IntKind.u64.wrap pick).tmod 4 = (j : Int) := hje0
      clear hje0
      obtain ⟨s, hss, hcell⟩ := cells4 7 13 61 251 j hj
      have hm : mayN s = true := may_primes (by omega)
      obtain ⟨h3, h251⟩ := may_bounds hm
      obtain ⟨k, hk, hke⟩ := idx_rem at_ n (by omega)
      obtain ⟨b, off, hl, hA, hc0, hq1, hq2⟩ := hr.be hk
      clear hq1 hq2
      subst hA
      have hid := HOK.out k hl
      obtain ⟨hq1, hg0, hg1, hq2⟩ := hid
      clear hq2
      have HT := Lib.hid (less_table hm hl (by omega) HOK.out)
      have HA := Lib.hid (all_table hm (by omega) (by omega) HOK.out)
      have HR := Lib.hid hr
      have HL := Lib.hid hlen
      have HM := Lib.hid hm
      have HK := Lib.hid hok
      obtain ⟨x, hx⟩ : ∃ x, x = l[k].id := ⟨_, rfl⟩
      rw [← hx] at hc0 hg0 hg1 HT
      clear hmb hoks hss hm hx hr hlen hok
      go_enter Try.func7, Try.ntmps7
      go_wp2_with fail
      refine CM.out.mono ?_
      rintro e w1 ⟨⟨bb, rfl, hbb⟩, hb1⟩
      obtain rfl : bb = true := hbb.2 HMB.out
      clear hbb CM HMB
      have hs1 := hb1.size
      have hcn : (w1.alloc (.cells #[.int .i64 7, .int .i64 13, .int .i64 61, .int .i64 251] 34)).cell? ⟨w1.heap.size, j, none⟩ = some (.int .i64 (s : Int)) := by
        rw [(Blk.new w1 34 #[.int .i64 7, .int .i64 13, .int .i64 61, .int .i64 251]).cell j]
        exact hcell
      have hcb : (w1.alloc (.cells #[.int .i64 7, .int .i64 13, .int .i64 61, .int .i64 251] 34)).cell? ⟨b, off + k * 3, none⟩ = some (.int .i64 x) := by
        have hlt := World.block_lt_of_cell? w _ hc0
        have h1 : w1.cell? ⟨b, off + k * 3, none⟩ = some (.int .i64 x) := (hb1.cell (p := ⟨b, off + k * 3, none⟩) hlt).trans hc0
        rw [World.cell?_alloc_lt _ _ _ (World.block_lt_of_cell? w1 _ h1)]
        exact h1
      have hB2 := hb1.alloc hs1 (.cells #[.int .i64 7, .int .i64 13, .int .i64 61, .int .i64 251] 34)
      clear hcell hc0 hb1 hs1
      go_wp2_with fail
      have hs2 := hB2.size
      generalize w1.alloc (.cells #[.int .i64 7, .int .i64 13, .int .i64 61, .int .i64 251] 34) = w2 at *
      have R1 := Lib.hid (fun w' (hb : Below w.heap.size w w') => ((HR.out.below hb).more hb.size).take3 (k := k) (by omega))
      have hcut := Lib.hid (fun w' (hb : Below w.heap.size w w') => ((HR.out.below hb).more hb.size).cut (k := k + 1) (cap := c) (by omega) hnc)
      have R2 : Hid (∀ w' (hb : Below w.heap.size w w'), Reads w' w'.heap.size 3 (if c = k + 1 then some ⟨b, off, none⟩ else (some (⟨b, off, none⟩ : Addr)).map (·.add ((k + 1) * 3))) (n - (k + 1)) (bks (l.drop (k + 1)))) := fun w' hb => by
        have h1 := hcut.out w' hb
        rw [bks_drop l (k + 1) (by rw [HL.out]; omega)] at h1
        exact h1
      clear hcut
      have e1 : IntKind.i64.wrap ((k : Int) + 1) = (k : Int) + 1 := IntWalk.i64_in _ (by omega)
      have e2 : ((k : Int) + 1).toNat = k + 1 := by omega
      have i1 : (0 : Int) ≤ (k : Int) + 1 := by omega
      have i2 : (k : Int) + 1 ≤ (n : Int) := by omega
      have i3 : (n : Int) ≤ (c : Int) := by omega
      have i4 : (k : Int) ≤ (c : Int) := by omega
      have i5 : (k : Int) ≤ (n : Int) := by omega
      clear hcn hcb hje hke
      go_cut [10] (fun v wx => Rest w wx v l n k)
      case first =>
        by_cases hck : c = k + 1
        · have R2' := R2
          rw [if_pos hck] at R2'
          clear R2
          subst hck
          have i6 : (k : Int) ≤ (k : Int) + 1 := by omega
          have i7 : k ≤ k + 1 := by omega
          have i8 : (n : Int) ≤ (k : Int) + 1 := by omega
          have i9 : ¬ ((k : Int) + 1 < (k : Int)) := by omega
          have i10 : n ≤ k + 1 := by omega
          go_region_law (first
            | (refine step_append_be rfl (.const (.slice none 0 0)) (.tmp 45) rfl w.heap.size (.slice none 0 0) 0 [] (by simp [Act.eval, Act.put]) (World.ownsRow_nil _ _ _ _) _ (some ⟨b, off, none⟩) k (k + 1) (l.take k) (by simp [Act.eval, Act.put]) (R1.out _ hB2.drew) k (by omega) (by omega) hB2.drew.size ?_; intro A3 c3 w3 hown3 hb3 hg3 hat3)
            | (refine step_append_be rfl (.tmp 46) (.tmp 50) rfl w.heap.size (.slice A3 k c3) k (l.take k) (by simp [Act.eval, Act.put]) hown3 _ (some ⟨b, off, none⟩) (n - (k + 1)) 0 (l.drop (k + 1)) (by simp [Act.eval, Act.put]; omega) (R2'.out _ (hB2.drew.trans hb3)) (n - 1) (by omega) (by omega) (hB2.drew.trans hb3).size ?_; intro A4 c4 w4 hown4 hb4 hg4 hat4))
          all_goals
            go_wp2_with fail
            go_meet
            exact ⟨A4, c4, rfl, hown4, (hB2.drew.trans hb3).trans hb4⟩
        · have R2' := R2
          rw [if_neg hck] at R2'
          simp only [Option.map_some, Addr.add_lit] at R2'
          clear R2
          have hck2 : ¬ c = k + 1 := hck
          go_region_law (first
            | (refine step_append_be rfl (.const (.slice none 0 0)) (.tmp 45) rfl w.heap.size (.slice none 0 0) 0 [] (by simp [Act.eval, Act.put]) (World.ownsRow_nil _ _ _ _) _ (some ⟨b, off, none⟩) k c (l.take k) (by simp [Act.eval, Act.put]) (R1.out _ hB2.drew) k (by omega) (by omega) hB2.drew.size ?_; intro A3 c3 w3 hown3 hb3 hg3 hat3)
            | (refine step_append_be rfl (.tmp 46) (.tmp 50) rfl w.heap.size (.slice A3 k c3) k (l.take k) (by simp [Act.eval, Act.put]) hown3 _ (some ⟨b, off + (k + 1) * 3, none⟩) (n - (k + 1)) (c - (k + 1)) (l.drop (k + 1)) (by simp [Act.eval, Act.put, hck2]) (R2'.out _ (hB2.drew.trans hb3)) (n - 1) (by omega) (by omega) (hB2.drew.trans hb3).size ?_; intro A4 c4 w4 hown4 hb4 hg4 hat4))
          all_goals
            go_wp2_with fail
            go_meet
            exact ⟨A4, c4, rfl, hown4, (hB2.drew.trans hb3).trans hb4⟩
      case rest =>
        obtain ⟨A4, c4, rfl, hown4, hB4⟩ := hcut
        have hs4 := hB4.size
        clear R1 R2 hB2 hs2 e1 e2 i1 i2 i3 i4 i5
        have C1 := Lib.hid (fun w' (hb : Below w.heap.size w w') => table_may (some ⟨b, off, none⟩) n c w'.heap.size s l w' ((HR.out.below hb).more hb.size) (Nat.le_refl _) HK.out hn hnc HM.out)
        have C2 := Lib.hid (fun w' (hb : Below wc.heap.size wc w') => table_may A4 (n - 1) c4 w'.heap.size s (lessK l k) w' (Reads.of_own (own_below hown4 hb)) (Nat.le_refl _) (lessK_bes HK.out) (by omega) (be_cap hown4) HM.out)
        go_wp2_with fail
        refine (C1.out wc hB4).mono ?_
        rintro e w5 ⟨A5, c5, rfl, hown5, hb5⟩
        have hB5 := hB4.trans (hb5.mono hs4)
        have hs5 := hB5.size
        have hO5 := Lib.hid hown5
        have hb45 := Lib.hid hb5
        clear hown5 hb5 C1 hown4
        go_wp2_with fail
        refine (C2.out w5 hb45.out).mono ?_
        rintro e w6 ⟨A6, c6, rfl, hown6, hb6⟩
        have hB6 := hB5.trans (hb6.mono hs5)
        have hs6 := hB6.size
        have hO56 := own_below hO5.out hb6
        obtain ⟨g5, hA5, _, _⟩ := own_head hO56 (by omega)
        subst hA5
        obtain ⟨g6, hA6, _, _⟩ := own_head hown6 (by omega)
        subst hA6
        have HO5 := Lib.hid hO56
        have HO6 := Lib.hid hown6
        obtain ⟨ta, hta⟩ : ∃ ta, ta = tableF l s := ⟨_, rfl⟩
        obtain ⟨tb, htb⟩ : ∃ tb, tb = tableF (lessK l k) s := ⟨_, rfl⟩
        rw [← hta] at HO5 HA
        rw [← htb] at HO6 HT
        clear hta htb hO5 hO56 hown6 hb6 C2 hb45 hB5 hs5 hB4 hs4
        go_wp2_with fail
        have hlA : ta.length = s := HA.out.1
        have hlB : tb.length = s := HT.out.1
        have HLA := Lib.hid hlA
        have HLB := Lib.hid hlB
        clear hlA hlB
        go_loopw [13, 70] (fun v i wr => ∃ q : Nat, q ≤ s ∧ i = .int .i64 (q : Int) ∧ v = .int .i64 ((diffK ta tb q : Nat) : Int) ∧ Below w6.heap.size w6 wr) (fun _ i _ => s - (intOf i).toNat)
        case atStart => exact ⟨0, Nat.zero_le _, rfl, rfl, Below.refl _ _⟩
        case round =>
          obtain ⟨q, hq, rfl, rfl, hbr⟩ := hrel
          have hdl := diffK_le ta tb q
          by_cases hqs : q < s
          · have hla : q < ta.length := by rw [HLA.out]; exact hqs
            have hlb : q < tb.length := by rw [HLB.out]; exact hqs
            have hca := owni_cell (own_below HO5.out hbr) q hqs hla
            have hcb := owni_cell (own_below HO6.out hbr) q hqs hlb
            obtain ⟨b1, b2, b3, b4⟩ := HT.out.2 _ (List.getElem_mem hlb)
            obtain ⟨a1, a2⟩ := HA.out.2 _ (List.getElem_mem hla)
            have hgd : ta.getD q 0 = ta[q] := by simp [hla]
            have hgd' : tb.getD q 0 = tb[q] := by simp [hlb]
            have hnx1 : Hid (ta[q] = tb[q] → diffK ta tb (q + 1) = diffK ta tb q) := fun h => by rw [diffK, hgd, hgd', if_pos h, Nat.add_zero]
            have hnx2 : Hid (ta[q] ≠ tb[q] → diffK ta tb (q + 1) = diffK ta tb q + 1) := fun h => by rw [diffK, hgd, hgd', if_neg h]
            have hb2 : Hid (tb[q] < 0 ↔ n = 1) := by show _ ↔ _; rw [b2, HL.out]
            clear hgd hgd' b2
            generalize ta[q] = u at *
            generalize tb[q] = v at *
            generalize diffK ta tb q = d at *
            have hvx : (v == x) = false := by simpa using b1
            clear hla hlb b1
            by_cases hn1 : n = 1
            · have hv0 : decide (v < 0) = true := decide_eq_true (hb2.out.2 hn1)
              have hn2 : (((n - 1 : Nat) : Int) == 0) = true := by simp; omega
              have hn3 : n - 1 = 0 := by omega
              have huv : u ≠ v := by have := hb2.out.2 hn1; omega
              have HNX := Lib.hid (hnx2.out huv)
              have hne : (u != v) = true := by simpa using huv
              have hne' : (u == v) = false := by simpa using huv
              clear hb2 hnx1 hnx2 huv hn1
              by_cases hux : u = x
              · have hux1 : (u == x) = true := by simpa using hux
                clear hux
                go_wp2_with fail
                go_quiet (fail)
                go_wp2_with fail
                go_roundw
                case rel => exact ⟨q + 1, by omega, by go_num, by rw [HNX.out]; go_num, hbr.trans ⟨rfl, rfl, rfl, Nat.le_refl _, fun _ _ => rfl⟩⟩
                case measure => simp [intOf]; omega
              · have hux1 : (u == x) = false := by simpa using hux
                clear hux
                go_wp2_with fail
                go_quiet (fail)
                go_wp2_with fail
                go_roundw
                case rel => exact ⟨q + 1, by omega, by go_num, by rw [HNX.out]; go_num, hbr.trans ⟨rfl, rfl, rfl, Nat.le_refl _, fun _ _ => rfl⟩⟩
                case measure => simp [intOf]; omega
            · have hv0 : decide (v < 0) = false := decide_eq_false (fun h => hn1 (hb2.out.1 h))
              have hn2 : (((n - 1 : Nat) : Int) == 0) = false := by simp; omega
              have hn3 : ((n - 1 : Nat) == 0) = false := by simp; omega
              have hn4 : ¬ n - 1 = 0 := by omega
              clear hb2 hn1
              by_cases huv : u = v
              · have HNX := Lib.hid (hnx1.out huv)
                have hne : (u != v) = false := by simpa using huv
                have hux1 : (u == x) = false := by rw [huv]; exact hvx
                clear hnx1 hnx2 huv
                go_wp2_with fail
                go_quiet (fail)
                go_wp2_with fail
                go_roundw
                case rel => exact ⟨q + 1, by omega, by go_num, by rw [HNX.out], hbr.trans ⟨rfl, rfl, rfl, Nat.le_refl _, fun _ _ => rfl⟩⟩
                case measure => simp [intOf]; omega
              · have HNX := Lib.hid (hnx2.out huv)
                have hne : (u != v) = true := by simpa using huv
                have hne' : (u == v) = false := by simpa using huv
                clear hnx1 hnx2 huv
                by_cases hux : u = x
                · have hux1 : (u == x) = true := by simpa using hux
                  clear hux
                  go_wp2_with fail
                  go_quiet (fail)
                  go_wp2_with fail
                  go_roundw
                  case rel => exact ⟨q + 1, by omega, by go_num, by rw [HNX.out]; go_num, hbr.trans ⟨rfl, rfl, rfl, Nat.le_refl _, fun _ _ => rfl⟩⟩
                  case measure => simp [intOf]; omega
                · have hux1 : (u == x) = false := by simpa using hux
                  clear hux
                  go_wp2_with fail
                  go_quiet (fail)
                  go_wp2_with fail
                  go_roundw
                  case rel => exact ⟨q + 1, by omega, by go_num, by rw [HNX.out]; go_num, hbr.trans ⟨rfl, rfl, rfl, Nat.le_refl _, fun _ _ => rfl⟩⟩
                  case measure => simp [intOf]; omega
          · have hqq : q = s := by omega
            have hMv : Hid (movedN ta tb = diffK ta tb q) := by
              show _ = _
              unfold movedN
              rw [HLA.out, HLB.out, hqq]
              simp
            have hcnt : ta.count x ≤ diffK ta tb q := by
              have h1 := count_diff (x := x) (HLA.out.trans HLB.out.symm) (fun y hy => (HT.out.2 y hy).1) s (by rw [HLA.out]; exact Nat.le_refl _)
              rw [← HLA.out, List.take_length, HLA.out] at h1
              rw [hqq]; exact h1
            have hB7 := hB6.trans (hbr.mono hs6)
            have CV := Lib.hid (moved_any (some ⟨g5, 0, none⟩) (some ⟨g6, 0, none⟩) s c5 s c6 wr.heap.size ta tb wr (Reads.of_own (own_below HO5.out hbr)) (Reads.of_own (own_below HO6.out hbr)) (Nat.le_refl _) (by omega) (by omega))
            rw [hMv.out] at CV
            have hs7 := hB7.size
            have HOQ := Lib.hid (own_below HO5.out hbr)
            have hint : Hid (IntsOk ta) := fun y hy => by have := HA.out.2 y hy; omega
            clear hqq hMv
            generalize diffK ta tb q = d at *
            go_wp2_with fail
            refine CV.out.mono ?_
            rintro e w8 ⟨rfl, hb8⟩
            have hB8 := hB7.trans (hb8.mono hs7)
            have hs8 := hB8.size
            have CS := Lib.hid (shares_any (some ⟨g5, 0, none⟩) s c5 w8.heap.size ta w8 (Reads.of_own (own_below HOQ.out hb8)) (Nat.le_refl _) hint.out (by omega))
            clear hb8 CV
            go_wp2_with fail
            refine CS.out.mono ?_
            rintro e w9 ⟨rfl, hmap, hb9⟩
            have hB9 := hB8.trans (hb9.mono hs8)
            have hsh := share_run hmap HLA.out hg0 hg1
            generalize ta.count x = cx at *
            clear hmap hb9 CS
            go_wp2_with fail
            refine (awake18_any _).mono ?_
            rintro e w10 ⟨rfl, hb10⟩
            go_wp2_with fail
            go_ret
            exact ⟨rfl, hB9.trans (hb10.mono hB9.size)⟩
  · exact awk (.inl hmb)
end Go.Proofs.Ytaamflhleommlaa.maglevLeaves
