/- The walk of goitref20.Wrap (wip/genencap.py). -/
import Derived.Test.YtpgbldpppdmdoaaWrap
namespace Go.Proofs.Ytpgbldpppdmdoaa
set_option linter.unusedVariables false
set_option linter.unusedSimpArgs false
open Go.RowKit

set_option maxHeartbeats 8000000 in
set_option maxRecDepth 100000 in
theorem refwrap_any (A : Option Addr) (n c B : Nat) (l : List Nat) (self dest : Nat) (mtu : Int) (w : World) (hr : Reads w B 1 A n (bv l)) (hB : B ≤ w.heap.size) (hn : n ≤ 1000000) (hnc : n ≤ c) (ha : AllB l) (hs : self < 4294967296) (hd : dest < 4294967296) :
    Calls Try.prog 31 #[.slice A n c, .int .u32 (self : Int), .int .u32 (dest : Int), .int .i64 mtu] w fun e w' => WrapRet l self dest mtu w e w' ∧ Below w.heap.size w w' := by
  have CP := Lib.hid (refparse_any A n c B l w hr hB (by omega) hnc ha)
  by_cases hy : whyP l = 0
  · obtain ⟨k1, k2, k3, k4, k5, k6, k7⟩ := why_zero hy
    have hlen := hr.length
    obtain ⟨ad, rfl, _, _⟩ := hr.2 (by omega)
    obtain ⟨L, hL⟩ : ∃ x, x = lenP l := ⟨_, rfl⟩
    obtain ⟨x8, hx8⟩ : ∃ x, x = at' l 8 := ⟨_, rfl⟩
    obtain ⟨s, hs1⟩ : ∃ x, x = ihlP l := ⟨_, rfl⟩
    obtain ⟨x1, hx1⟩ : ∃ x, x = at' l 1 := ⟨_, rfl⟩
    obtain ⟨x4, hx4⟩ : ∃ x, x = two' l 4 := ⟨_, rfl⟩
    obtain ⟨f, hf⟩ : ∃ x, x = two' l 6 / 8192 := ⟨_, rfl⟩
    obtain ⟨o, ho⟩ : ∃ x, x = two' l 6 % 8192 := ⟨_, rfl⟩
    obtain ⟨x9, hx9⟩ : ∃ x, x = at' l 9 := ⟨_, rfl⟩
    obtain ⟨x10, hx10⟩ : ∃ x, x = two' l 10 := ⟨_, rfl⟩
    obtain ⟨x12, hx12⟩ : ∃ x, x = four' l 12 := ⟨_, rfl⟩
    obtain ⟨x16, hx16⟩ : ∃ x, x = four' l 16 := ⟨_, rfl⟩
    have hvals : (hdP l).vals = #[.int .i64 (s : Int), .int .i64 (x1 : Int), .int .i64 (L : Int), .int .i64 (x4 : Int), .int .i64 (f : Int), .int .i64 (o : Int), .int .i64 (x8 : Int), .int .i64 (x9 : Int), .int .i64 (x10 : Int), .int .u32 (x12 : Int), .int .u32 (x16 : Int)] := by
      unfold hdP Hd.vals
      dsimp only
      rw [← hL, ← hx8, ← hs1, ← hx1, ← hx4, ← hf, ← ho, ← hx9, ← hx10, ← hx12, ← hx16]
    have h6 := two_lt ha 6
    have f8 : f < 8 := by omega
    have L16 : L < 65536 := by rw [hL]; exact two_lt ha 2
    have x8l : x8 < 256 := by rw [hx8]; exact at_lt ha 8
    have x9l : x9 < 256 := by rw [hx9]; exact at_lt ha 9
    have x10l : x10 < 65536 := by rw [hx10]; exact two_lt ha 10
    have hfl := flags_two f f8
    obtain ⟨f2, hf2⟩ : ∃ f2, f2 = f / 2 * 2 := ⟨_, rfl⟩
    rw [← hf2] at hfl
    obtain ⟨hfl1, hfl2⟩ := hfl
    have hoh : outHd l self dest = ⟨0, (x1 : Int), (L : Int) + 20, (x4 : Int), (f2 : Int), 0, 64, 4, 0, self, dest⟩ := by
      unfold outHd
      rw [← hL, ← hx1, ← hx4, ← hf, ← hf2]
      rfl
    have CB : Hid (∀ w', Calls Try.prog 19 #[.agg #[.int .i64 0, .int .i64 (x1 : Int), .int .i64 ((L : Int) + 20), .int .i64 (x4 : Int), .int .i64 (f2 : Int), .int .i64 0, .int .i64 64, .int .i64 4, .int .i64 0, .int .u32 (self : Int), .int .u32 (dest : Int)]] w' fun e w'' => ∃ A c', e = .returned (.slice A 20 c') ∧ w''.ownsRow w'.heap.size 5 1 (.slice A 20 c') 20 (bv (buildB (outHd l self dest))) ∧ Below w'.heap.size w' w'') := by
      intro w'
      have := refbuild_any (outHd l self dest) w' (outHd_ok l self dest ha hs hd)
      rw [hoh] at this ⊢
      exact this
    have CR := Lib.hid (fun w' (hb : Below w.heap.size w w') => show Reads w' w'.heap.size 1 (some ad) L (bv (l.take L)) from ((hr.below (hb.mono hB)).more (Nat.le_trans hB hb.size)).takeb (by omega))
    have HW : Hid (wrapB l self dest = buildB (outHd l self dest) ++ olderB (l.take L)) := by show _ = _; unfold wrapB; rw [hL]
    have t20 : 20 ≤ L := by omega
    have hta : Hid (AllB (l.take L)) := ha.take L
    have htl : Hid ((l.take L).length = L) := by show _ = _; rw [List.length_take]; omega
    have g8 : Hid (at' (l.take L) 8 = x8) := by show _ = _; rw [at_take (by omega), hx8]
    have hon : Hid (olderN (l.take L) = fixN x10 (x8 * 256 + x9) ((x8 - 1) * 256 + x9)) := by
      show _ = _
      unfold olderN
      rw [older_now (by rw [List.length_take]; omega)]
      unfold two'
      rw [at_take (by omega), at_take (by omega), at_take (by omega), at_take (by omega), hx10, hx8, hx9]
      rfl
    have HV := Lib.hid hvals
    have HL := Lib.hid hL
    have HC : Hid ((x8 ≤ 1 → whyW l mtu = 7) ∧ (¬ x8 ≤ 1 → ((L : Int) + 20 > mtu ∨ (L : Int) + 20 > 2000) → whyW l mtu = 11) ∧ (¬ x8 ≤ 1 → (L : Int) + 20 ≤ mtu → (L : Int) + 20 ≤ 2000 → whyW l mtu = 0)) := by
      unfold whyW
      rw [← hx8, ← hL, if_neg (by omega)]
      refine ⟨fun h1 => by rw [if_pos h1], fun h1 h2 => by rw [if_neg h1, if_pos (by omega)], fun h1 h2 h3 => by rw [if_neg h1, if_neg (by omega)]⟩
    have hLc : L ≤ c := by omega
    have HYE := Lib.hid hy
    clear hr ha hL hx8 hs1 hx1 hx4 hf ho hx9 hx10 hx12 hx16 hvals h6 hf2 hoh k1 k2 k3 k4 k5 k6 k7 hlen hs hd hy hfl1
    go_enter Try.func31, Try.ntmps31
    go_wp2_with fail
    refine CP.out.mono ?_
    rintro e w1 ⟨hret, hb1⟩
    obtain ⟨A1, c1, rfl, _⟩ := hret.yes HYE.out
    rw [HV.out]
    have hB2 := hb1.alloc hb1.size (.cells #[.int .i64 (s : Int), .int .i64 (x1 : Int), .int .i64 (L : Int), .int .i64 (x4 : Int), .int .i64 (f : Int), .int .i64 (o : Int), .int .i64 (x8 : Int), .int .i64 (x9 : Int), .int .i64 (x10 : Int), .int .u32 (x12 : Int), .int .u32 (x16 : Int)] 24)
    have hh2 := Blk.new w1 24 #[.int .i64 (s : Int), .int .i64 (x1 : Int), .int .i64 (L : Int), .int .i64 (x4 : Int), .int .i64 (f : Int), .int .i64 (o : Int), .int .i64 (x8 : Int), .int .i64 (x9 : Int), .int .i64 (x10 : Int), .int .u32 (x12 : Int), .int .u32 (x16 : Int)]
    have hs2 := hB2.size
    clear hret hb1 CP
    by_cases h8 : x8 ≤ 1
    · have HH := Lib.hid (HC.out.1 h8)
      have h8i : (x8 : Int) ≤ 1 := by omega
      clear HC
      go_wp2_with fail
      exact bodyPost_ret (v := .tuple #[.slice none 0 0, .int .i64 7]) (by simp [results, Try.results31, go_sem]) rfl ⟨.inr ⟨by rw [HH.out]; omega, by rw [HH.out]; rfl⟩, hB2⟩
    have h8i : ¬ ((x8 : Int) ≤ 1) := by omega
    by_cases hm1 : mtu < (L : Int) + 20
    · have HH := Lib.hid (HC.out.2.1 h8 (.inl hm1))
      have d1 : decide (mtu < (L : Int) + 20) = true := decide_eq_true hm1
      clear HC
      go_wp2_with fail
      exact bodyPost_ret (v := .tuple #[.slice none 0 0, .int .i64 11]) (by simp [results, Try.results31, go_sem]) rfl ⟨.inr ⟨by rw [HH.out]; omega, by rw [HH.out]; rfl⟩, hB2⟩
    have d1 : decide (mtu < (L : Int) + 20) = false := decide_eq_false hm1
    by_cases hm2 : (2000 : Int) < (L : Int) + 20
    · have HH := Lib.hid (HC.out.2.1 h8 (.inr hm2))
      have d2 : decide ((2000 : Int) < (L : Int) + 20) = true := decide_eq_true hm2
      clear HC
      go_wp2_with fail
      exact bodyPost_ret (v := .tuple #[.slice none 0 0, .int .i64 11]) (by simp [results, Try.results31, go_sem]) rfl ⟨.inr ⟨by rw [HH.out]; omega, by rw [HH.out]; rfl⟩, hB2⟩
    have d2 : decide ((2000 : Int) < (L : Int) + 20) = false := decide_eq_false hm2
    have HH := Lib.hid (HC.out.2.2 h8 (by omega) (by omega))
    obtain ⟨y8, hy8, e8⟩ : ∃ y : Nat, (x8 : Int) - 1 = (y : Int) ∧ y = x8 - 1 := ⟨x8 - 1, by omega, rfl⟩
    have hor1 := u16_join x8 x9 x8l x9l
    have hor2 := u16_join y8 x9 (by omega) x9l
    obtain ⟨o1, ho1⟩ : ∃ o, o = x8 * 256 + x9 := ⟨_, rfl⟩
    obtain ⟨o2, ho2⟩ : ∃ o, o = y8 * 256 + x9 := ⟨_, rfl⟩
    rw [← ho1] at hor1
    rw [← ho2] at hor2
    have o1l : o1 < 65536 := by omega
    have o2l : o2 < 65536 := by omega
    obtain ⟨z, hz⟩ : ∃ z, z = fixN x10 o1 o2 := ⟨_, rfl⟩
    have z16 : z < 65536 := by rw [hz]; exact fixN_lt _ _ _
    have CF := Lib.hid (fun w' => R1.fix_any x10 o1 o2 x10l o1l o2l w')
    rw [← hz] at CF
    have hon2 : Hid (olderN (l.take L) = z) := by show _ = _; rw [hon.out, hz, ho1, ho2, e8]
    obtain ⟨y1, e1, hy1⟩ : ∃ y1 : Nat, (z : Int) / 256 = (y1 : Int) ∧ y1 = z / 256 := ⟨z / 256, by omega, rfl⟩
    obtain ⟨y2, e2, hy2⟩ : ∃ y2 : Nat, (z : Int) % 256 = (y2 : Int) ∧ y2 = z % 256 := ⟨z % 256, by omega, rfl⟩
    have hres : Hid (olderB (l.take L) = (((l.take L).set 8 y8).set 10 y1).set 11 y2) := by
      show _ = _
      unfold olderB
      rw [hon2.out, g8.out, hy1, hy2, e8]
    have y8l : y8 < 256 := by omega
    clear HC hon hon2 hy1 hy2 hz ho1 ho2 e8
    go_wp2_with fail
    generalize w1.alloc (.cells #[.int .i64 (s : Int), .int .i64 (x1 : Int), .int .i64 (L : Int), .int .i64 (x4 : Int), .int .i64 (f : Int), .int .i64 (o : Int), .int .i64 (x8 : Int), .int .i64 (x9 : Int), .int .i64 (x10 : Int), .int .u32 (x12 : Int), .int .u32 (x16 : Int)] 24) = w2 at *
    refine (CB.out w2).mono ?_
    rintro e w3 ⟨A3, c3, rfl, hown3, hb3⟩
    have hB3 := hB2.trans (hb3.mono hB2.size)
    have hh3 := hh2.below hb3 hh2.lt
    have HO3 := Lib.hid (own_lower hown3 hs2)
    have e2' := hh3.cell 2
    simp only [List.getElem?_toArray, List.getElem?_cons_zero, List.getElem?_cons_succ] at e2'
    have hcL : (L : Int) ≤ (c : Int) := by omega
    have hs3 := hB3.size
    have HR3 := Lib.hid (CR.out w3 hB3)
    clear hown3 hb3 CB CR hh2 hB2
    go_wp2_with (at_builtin; refine stop_ ?_)
    refine on_ ?_
    refine wpList_append_b rfl (.const (.slice none 0 0)) (.tmp 56) _ rfl 5 infoB Try.underlying25 w3.heap.size (.slice none 0 0) 0 [] rfl (World.ownsRow_nil _ _ _ _) w3.heap.size (some ad) L c (l.take L) rfl HR3.out L (by omega) (by omega) (Nat.le_refl _) ?_
    intro A4 c4 w4 hown4 hb4 _ _
    rw [List.nil_append] at hown4
    obtain ⟨g, rfl, hg1, hg2⟩ := own_head hown4 (by omega)
    have hB4 := hB3.trans (hb4.mono hs3)
    have hh4 := hh3.below hb4 hh3.lt
    have HO4 := Lib.hid (own_below HO3.out hb4)
    have c8 := ownb_cell hown4 8 (by omega) (by rw [htl.out]; omega)
    have fr8 := hown4.frozenAt 8
    have q8 : (l.take L)[8]'(by rw [htl.out]; omega) = x8 := by
      rw [← g8.out]
      unfold at'
      rw [List.getD_eq_getElem?_getD, List.getElem?_eq_getElem (by rw [htl.out]; omega)]
      rfl
    rw [q8] at c8
    have hst := ownb_store hown4 8 y8
    have hst2 := ownb_store (ownb_store hst 10 y1) 11 y2
    rw [← hres.out] at hst2
    have hgh : g ≠ w1.heap.size := by
      have := hh3.lt
      omega
    have hgh' : ¬ w1.heap.size = g := fun e => hgh e.symm
    have hBs := ((hB4.setCell (p := ⟨g, 8, none⟩) (Nat.le_trans hs3 hg1) (.int .u8 (y8 : Int))).setCell (p := ⟨g, 10, none⟩) (Nat.le_trans hs3 hg1) (.int .u8 (y1 : Int))).setCell (p := ⟨g, 11, none⟩) (Nat.le_trans hs3 hg1) (.int .u8 (y2 : Int))
    have hbs3 := ((hb4.setCell (p := ⟨g, 8, none⟩) hg1 (.int .u8 (y8 : Int))).setCell (p := ⟨g, 10, none⟩) hg1 (.int .u8 (y1 : Int))).setCell (p := ⟨g, 11, none⟩) hg1 (.int .u8 (y2 : Int))
    have HO6 := Lib.hid (own_below HO3.out hbs3)
    obtain ⟨p10, c10⟩ : ∃ o : Nat, w4.cell? ⟨g, 10, none⟩ = some (.int .u8 (o : Int)) := ⟨_, ownb_cell hown4 10 (by omega) (by rw [htl.out]; omega)⟩
    obtain ⟨p11, c11⟩ : ∃ o : Nat, w4.cell? ⟨g, 11, none⟩ = some (.int .u8 (o : Int)) := ⟨_, ownb_cell hown4 11 (by omega) (by rw [htl.out]; omega)⟩
    have f10 := hown4.frozenAt 10
    have f11 := hown4.frozenAt 11
    have m6 := hh4.cell 6
    have m7 := hh4.cell 7
    have m8 := hh4.cell 8
    simp only [List.getElem?_toArray, List.getElem?_cons_zero, List.getElem?_cons_succ] at m6 m7 m8
    have HF := Lib.hid (And.intro hst2 hBs)
    clear hown4 hb4 hst hst2 hBs hbs3 hh3 hh4 e2' HO3 HO4 hB3 hB4 q8 HR3
    go_wp2_with fail
    refine (CF.out _).mono ?_
    rintro e w6 ⟨rfl, hw6⟩
    subst hw6
    clear CF m6 m7 m8
    go_wp2_with (at_builtin; refine stop_ ?_)
    refine on_ ?_
    refine wpList_append_b rfl (.tmp 93) (.tmp 94) _ rfl 5 infoB Try.underlying25 w.heap.size (.slice A3 20 c3) 20 _ rfl HO6.out _ (some ⟨g, 0, none⟩) L c4 _ rfl (Reads.of_own HF.out.1) (20 + L) rfl (by omega) HF.out.2.size ?_
    intro A5 c5 w7 hown7 hb7 _ _
    rw [← HW.out] at hown7
    have hB7 := HF.out.2.trans hb7
    have HG : Hid (WrapRet l self dest mtu w (.returned (.tuple #[.slice A5 (20 + L) c5, .int .i64 0])) w7) := .inl ⟨HH.out, A5, c5, by rw [← HL.out], by rw [← HL.out]; exact hown7⟩
    clear hown7 hb7 HF HO6
    go_wp2_with fail
    exact bodyPost_ret (v := .tuple #[.slice A5 (20 + L) c5, .int .i64 0]) (by simp [results, Try.results31, go_sem]) rfl ⟨HG.out, hB7⟩
  · obtain ⟨r, hrr, hr0⟩ : ∃ r, whyP l = r ∧ r ≠ 0 := ⟨_, rfl, hy⟩
    have HW : Hid (whyW l mtu = r) := by show _ = _; unfold whyW; rw [if_pos hy, hrr]
    have HR := Lib.hid hrr
    have HY := Lib.hid hy
    have hb0 : ((r : Int) != 0) = true := by simp; omega
    have HR0 := Lib.hid hr0
    clear hr hrr hy hr0
    go_enter Try.func31, Try.ntmps31
    go_wp2_with fail
    refine CP.out.mono ?_
    rintro e w1 ⟨hret, hb1⟩
    obtain rfl := hret.no HY.out
    rw [HR.out]
    have hB2 := hb1.alloc hb1.size (.cells #[.int .i64 0, .int .i64 0, .int .i64 0, .int .i64 0, .int .i64 0, .int .i64 0, .int .i64 0, .int .i64 0, .int .i64 0, .int .u32 0, .int .u32 0] 24)
    unfold hd0 Hd.vals
    clear hret CP hb1
    go_wp2_with fail
    exact bodyPost_ret (v := .tuple #[.slice none 0 0, .int .i64 (r : Int)]) (by simp [results, Try.results31, go_sem]) rfl ⟨.inr ⟨by rw [HW.out]; exact HR0.out, by rw [HW.out]⟩, hB2⟩
end Go.Proofs.Ytpgbldpppdmdoaa
