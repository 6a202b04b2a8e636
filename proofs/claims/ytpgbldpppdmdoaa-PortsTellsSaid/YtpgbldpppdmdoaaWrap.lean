/- The walk of encap.Wrap (wip/genencap.py). -/
import Derived.Test.YtpgbldpppdmdoaaOlder
namespace Go.Proofs.Ytpgbldpppdmdoaa
set_option linter.unusedVariables false
set_option linter.unusedSimpArgs false
open Go.RowKit

def WrapRet (l : List Nat) (self dest : Nat) (mtu : Int) (w : World) (e : Ending) (w' : World) : Prop :=
  (whyW l mtu = 0 ∧ ∃ A c, e = .returned (.tuple #[.slice A (20 + lenP l) c, .int .i64 0]) ∧ w'.ownsRow w.heap.size 5 1 (.slice A (20 + lenP l) c) (20 + lenP l) (bv (wrapB l self dest))) ∨
  (whyW l mtu ≠ 0 ∧ e = .returned (.tuple #[.slice none 0 0, .int .i64 (whyW l mtu : Nat)]))
theorem flags_two (f : Nat) (h : f < 8) : bits .and .i64 (f : Int) 6 = ((f / 2 * 2 : Nat) : Int) ∧ bits .andNot .i64 (f : Int) 1 = ((f / 2 * 2 : Nat) : Int) := by
  have : ∀ f : Fin 8, bits .and .i64 ((f.val : Nat) : Int) 6 = ((f.val / 2 * 2 : Nat) : Int) ∧ bits .andNot .i64 ((f.val : Nat) : Int) 1 = ((f.val / 2 * 2 : Nat) : Int) := by decide +kernel
  exact this ⟨f, h⟩
theorem outHd_ok (l : List Nat) (self dest : Nat) (ha : AllB l) (hs : self < 4294967296) (hd : dest < 4294967296) : HdOk (outHd l self dest) := by
  have h1 := at_lt ha 1
  have h2 : lenP l < 65536 := two_lt ha 2
  have h4 := two_lt ha 4
  have h6 := two_lt ha 6
  unfold outHd
  exact ⟨by dsimp only; omega, by dsimp only; omega, by dsimp only; omega, by dsimp only; omega, by dsimp only; omega, by dsimp only; omega, by dsimp only; omega, by dsimp only; omega, by dsimp only; omega, hs, hd⟩

set_option maxHeartbeats 8000000 in
set_option maxRecDepth 100000 in
theorem wrap_any (A : Option Addr) (n c B : Nat) (l : List Nat) (self dest : Nat) (mtu : Int) (w : World) (hr : Reads w B 1 A n (bv l)) (hB : B ≤ w.heap.size) (hn : n ≤ 1000000) (hnc : n ≤ c) (ha : AllB l) (hs : self < 4294967296) (hd : dest < 4294967296) :
    Calls Try.prog 30 #[.slice A n c, .int .u32 (self : Int), .int .u32 (dest : Int), .int .i64 mtu] w fun e w' => WrapRet l self dest mtu w e w' ∧ Below w.heap.size w w' := by
  have CP := Lib.hid (parse_any A n c B l w hr hB (by omega) hnc ha)
  by_cases hy : whyP l = 0
  · obtain ⟨k1, k2, k3, k4, k5, k6, k7⟩ := why_zero hy
    have hlen := hr.length
    obtain ⟨ad, rfl, _, _⟩ := hr.2 (by omega)
    obtain ⟨L, hL⟩ : ∃ x, x = lenP l := ⟨_, rfl⟩
    obtain ⟨x8, hx8⟩ : ∃ x, x = at' l 8 := ⟨_, rfl⟩
    obtain ⟨s, hs1⟩ : ∃ x, x = ihlP l := ⟨_, rfl⟩
    obtain ⟨x1, hx1⟩ : ∃ x, x = at' l 1 := ⟨_, rfl⟩
    obtain ⟨x4, hx4⟩ : ∃ x, x = two' l 4 := ⟨_, rfl⟩
    obtain ⟨f, hf⟩ : ∃ x, x = two' l 6 / 8192 := ⟨_, rfl⟩
    obtain ⟨o, ho⟩ : ∃ x, x = two' l 6 % 8192 := ⟨_, rfl⟩
    obtain ⟨x9, hx9⟩ : ∃ x, x = at' l 9 := ⟨_, rfl⟩
    obtain ⟨x10, hx10⟩ : ∃ x, x = two' l 10 := ⟨_, rfl⟩
    obtain ⟨x12, hx12⟩ : ∃ x, x = four' l 12 := ⟨_, rfl⟩
    obtain ⟨x16, hx16⟩ : ∃ x, x = four' l 16 := ⟨_, rfl⟩
    have hvals : (hdP l).vals = #[.int .i64 (s : Int), .int .i64 (x1 : Int), .int .i64 (L : Int), .int .i64 (x4 : Int), .int .i64 (f : Int), .int .i64 (o : Int), .int .i64 (x8 : Int), .int .i64 (x9 : Int), .int .i64 (x10 : Int), .int .u32 (x12 : Int), .int .u32 (x16 : Int)] := by
      unfold hdP Hd.vals
      dsimp only
      rw [← hL, ← hx8, ← hs1, ← hx1, ← hx4, ← hf, ← ho, ← hx9, ← hx10, ← hx12, ← hx16]
    have h6 := two_lt ha 6
    have f8 : f < 8 := by omega
    have L16 : L < 65536 := by rw [hL]; exact two_lt ha 2
    have hfl := flags_two f f8
    obtain ⟨f2, hf2⟩ : ∃ f2, f2 = f / 2 * 2 := ⟨_, rfl⟩
    rw [← hf2] at hfl
    obtain ⟨hfl1, hfl2⟩ := hfl
    have hoh : outHd l self dest = ⟨0, (x1 : Int), (L : Int) + 20, (x4 : Int), (f2 : Int), 0, 64, 4, 0, self, dest⟩ := by
      unfold outHd
      rw [← hL, ← hx1, ← hx4, ← hf, ← hf2]
      rfl
    have CB : Hid (∀ w', Calls Try.prog 14 #[.agg #[.int .i64 0, .int .i64 (x1 : Int), .int .i64 ((L : Int) + 20), .int .i64 (x4 : Int), .int .i64 (f2 : Int), .int .i64 0, .int .i64 64, .int .i64 4, .int .i64 0, .int .u32 (self : Int), .int .u32 (dest : Int)]] w' fun e w'' => ∃ A c', e = .returned (.slice A 20 c') ∧ w''.ownsRow w'.heap.size 5 1 (.slice A 20 c') 20 (bv (buildB (outHd l self dest))) ∧ Below w'.heap.size w' w'') := by
      intro w'
      have := build_any (outHd l self dest) w' (outHd_ok l self dest ha hs hd)
      rw [hoh] at this ⊢
      exact this
    have CO := Lib.hid (fun w' (hb : Below w.heap.size w w') (h8 : 1 ≤ x8) => older_any (some ad) L c w'.heap.size (l.take L) w' (((hr.below (hb.mono hB)).more (Nat.le_trans hB hb.size)).takeb (by omega)) (Nat.le_refl _) (by omega) (by omega) (ha.take L) (by rw [at_take (by omega)]; omega))
    have HW : Hid (wrapB l self dest = buildB (outHd l self dest) ++ olderB (l.take L)) := by show _ = _; unfold wrapB; rw [hL]
    have HV := Lib.hid hvals
    have HL := Lib.hid hL
    obtain ⟨M, hM⟩ : ∃ M, min mtu 2000 = M := ⟨_, rfl⟩
    have HC : Hid ((x8 ≤ 1 → whyW l mtu = 7) ∧ (¬ x8 ≤ 1 → (L : Int) + 20 > M → whyW l mtu = 11) ∧ (¬ x8 ≤ 1 → (L : Int) + 20 ≤ M → whyW l mtu = 0)) := by
      unfold whyW
      rw [hM, ← hx8, ← hL, if_neg (by omega)]
      refine ⟨fun h1 => by rw [if_pos h1], fun h1 h2 => by rw [if_neg h1, if_pos (by omega)], fun h1 h2 => by rw [if_neg h1, if_neg (by omega)]⟩
    have hLc : L ≤ c := by omega
    have HYE := Lib.hid hy
    clear hr ha hL hx8 hs1 hx1 hx4 hf ho hx9 hx10 hx12 hx16 hvals h6 hf2 hoh k1 k2 k3 k4 k5 k6 hlen hs hd hy hfl2
    have hM3 : (mtu < 2000 ∧ M = mtu) ∨ (mtu = 2000 ∧ M = 2000) ∨ (2000 < mtu ∧ M = 2000) := by omega
    clear hM
    rcases hM3 with ⟨hmt, rfl⟩ | ⟨rfl, rfl⟩ | ⟨hmt, rfl⟩
    · go_enter Try.func30, Try.ntmps30
      go_wp2_with fail
      refine CP.out.mono ?_
      rintro e w1 ⟨hret, hb1⟩
      obtain ⟨A1, c1, rfl, _⟩ := hret.yes HYE.out
      rw [HV.out]
      have hB2 := hb1.alloc hb1.size (.cells #[.int .i64 (s : Int), .int .i64 (x1 : Int), .int .i64 (L : Int), .int .i64 (x4 : Int), .int .i64 (f : Int), .int .i64 (o : Int), .int .i64 (x8 : Int), .int .i64 (x9 : Int), .int .i64 (x10 : Int), .int .u32 (x12 : Int), .int .u32 (x16 : Int)] 24)
      have hh2 := Blk.new w1 24 #[.int .i64 (s : Int), .int .i64 (x1 : Int), .int .i64 (L : Int), .int .i64 (x4 : Int), .int .i64 (f : Int), .int .i64 (o : Int), .int .i64 (x8 : Int), .int .i64 (x9 : Int), .int .i64 (x10 : Int), .int .u32 (x12 : Int), .int .u32 (x16 : Int)]
      have hs2 := hB2.size
      clear hret hb1 CP
      by_cases h8 : x8 ≤ 1
      · have HH := Lib.hid (HC.out.1 h8)
        clear HC
        go_wp2_with fail
        exact bodyPost_ret (v := .tuple #[.slice none 0 0, .int .i64 7]) (by simp [results, Try.results30, go_sem]) rfl ⟨.inr ⟨by rw [HH.out]; omega, by rw [HH.out]; rfl⟩, hB2⟩
      · by_cases hM2 : (L : Int) + 20 > M
        · have HH := Lib.hid (HC.out.2.1 h8 hM2)
          clear HC
          go_wp2_with fail
          exact bodyPost_ret (v := .tuple #[.slice none 0 0, .int .i64 11]) (by simp [results, Try.results30, go_sem]) rfl ⟨.inr ⟨by rw [HH.out]; omega, by rw [HH.out]; rfl⟩, hB2⟩
        · have HH := Lib.hid (HC.out.2.2 h8 (by omega))
          have q1 : ¬ (M < (L : Int) + 20) := by omega
          have q2 : ¬ ((2000 : Int) < (L : Int) + 20) := by omega
          have q3 : ¬ ((x8 : Int) ≤ 1) := by omega
          have q4 : decide (min M 2000 < (L : Int) + 20) = false := decide_eq_false (by omega)
          clear hM2
          clear HC
          go_wp2_with fail
          generalize w1.alloc (.cells #[.int .i64 (s : Int), .int .i64 (x1 : Int), .int .i64 (L : Int), .int .i64 (x4 : Int), .int .i64 (f : Int), .int .i64 (o : Int), .int .i64 (x8 : Int), .int .i64 (x9 : Int), .int .i64 (x10 : Int), .int .u32 (x12 : Int), .int .u32 (x16 : Int)] 24) = w2 at *
          refine (CB.out w2).mono ?_
          rintro e w3 ⟨A3, c3, rfl, hown3, hb3⟩
          have hB3 := hB2.trans (hb3.mono hB2.size)
          have hh3 := hh2.below hb3 hh2.lt
          have HO3 := Lib.hid (own_lower hown3 hs2)
          have CO3 := Lib.hid (CO.out w3 hB3 (by omega))
          have e2 := hh3.cell 2
          simp only [List.getElem?_toArray, List.getElem?_cons_zero, List.getElem?_cons_succ] at e2
          have hcL : (L : Int) ≤ (c : Int) := by omega
          clear hown3 hb3 CB CO hh2 hh3 hB2
          go_wp2_with fail
          refine CO3.out.mono ?_
          rintro e w4 ⟨A4, c4, rfl, hown4, hb4⟩
          have hB4 := hB3.trans (hb4.mono hB3.size)
          have hO34 := own_below HO3.out hb4
          have hb4s := hb4.size
          have hs4 := hB4.size
          clear CO3 hb4 e2 HO3
          go_wp2_with (at_builtin; refine stop_ ?_)
          refine on_ ?_
          refine wpList_append_b rfl (.tmp 49) (.tmp 54) _ rfl 5 infoB Try.underlying25 w.heap.size (.slice A3 20 c3) 20 _ rfl hO34 w4.heap.size A4 L c4 _ rfl (Reads.of_own hown4) (20 + L) rfl (by omega) hs4 ?_
          intro A5 c5 w5 hown5 hb5 _ _
          rw [← HW.out] at hown5
          have hB5 := hB4.trans hb5
          have HF : Hid (WrapRet l self dest M w (.returned (.tuple #[.slice A5 (20 + L) c5, .int .i64 0])) w5) := .inl ⟨HH.out, A5, c5, by rw [← HL.out], by rw [← HL.out]; exact hown5⟩
          clear hown4 hown5 hO34 hb5
          go_wp2_with fail
          exact bodyPost_ret (v := .tuple #[.slice A5 (20 + L) c5, .int .i64 0]) (by simp [results, Try.results30, go_sem]) rfl ⟨HF.out, hB5⟩
    · go_enter Try.func30, Try.ntmps30
      go_wp2_with fail
      refine CP.out.mono ?_
      rintro e w1 ⟨hret, hb1⟩
      obtain ⟨A1, c1, rfl, _⟩ := hret.yes HYE.out
      rw [HV.out]
      have hB2 := hb1.alloc hb1.size (.cells #[.int .i64 (s : Int), .int .i64 (x1 : Int), .int .i64 (L : Int), .int .i64 (x4 : Int), .int .i64 (f : Int), .int .i64 (o : Int), .int .i64 (x8 : Int), .int .i64 (x9 : Int), .int .i64 (x10 : Int), .int .u32 (x12 : Int), .int .u32 (x16 : Int)] 24)
      have hh2 := Blk.new w1 24 #[.int .i64 (s : Int), .int .i64 (x1 : Int), .int .i64 (L : Int), .int .i64 (x4 : Int), .int .i64 (f : Int), .int .i64 (o : Int), .int .i64 (x8 : Int), .int .i64 (x9 : Int), .int .i64 (x10 : Int), .int .u32 (x12 : Int), .int .u32 (x16 : Int)]
      have hs2 := hB2.size
      clear hret hb1 CP
      by_cases h8 : x8 ≤ 1
      · have HH := Lib.hid (HC.out.1 h8)
        clear HC
        go_wp2_with fail
        exact bodyPost_ret (v := .tuple #[.slice none 0 0, .int .i64 7]) (by simp [results, Try.results30, go_sem]) rfl ⟨.inr ⟨by rw [HH.out]; omega, by rw [HH.out]; rfl⟩, hB2⟩
      · by_cases hM2 : (L : Int) + 20 > 2000
        · have HH := Lib.hid (HC.out.2.1 h8 hM2)
          clear HC
          go_wp2_with fail
          exact bodyPost_ret (v := .tuple #[.slice none 0 0, .int .i64 11]) (by simp [results, Try.results30, go_sem]) rfl ⟨.inr ⟨by rw [HH.out]; omega, by rw [HH.out]; rfl⟩, hB2⟩
        · have HH := Lib.hid (HC.out.2.2 h8 (by omega))
          have q1 : ¬ (2000 < (L : Int) + 20) := by omega
          have q2 : ¬ ((2000 : Int) < (L : Int) + 20) := by omega
          have q3 : ¬ ((x8 : Int) ≤ 1) := by omega
          have q4 : decide (min 2000 2000 < (L : Int) + 20) = false := decide_eq_false (by omega)
          clear hM2
          clear HC
          go_wp2_with fail
          generalize w1.alloc (.cells #[.int .i64 (s : Int), .int .i64 (x1 : Int), .int .i64 (L : Int), .int .i64 (x4 : Int), .int .i64 (f : Int), .int .i64 (o : Int), .int .i64 (x8 : Int), .int .i64 (x9 : Int), .int .i64 (x10 : Int), .int .u32 (x12 : Int), .int .u32 (x16 : Int)] 24) = w2 at *
          refine (CB.out w2).mono ?_
          rintro e w3 ⟨A3, c3, rfl, hown3, hb3⟩
          have hB3 := hB2.trans (hb3.mono hB2.size)
          have hh3 := hh2.below hb3 hh2.lt
          have HO3 := Lib.hid (own_lower hown3 hs2)
          have CO3 := Lib.hid (CO.out w3 hB3 (by omega))
          have e2 := hh3.cell 2
          simp only [List.getElem?_toArray, List.getElem?_cons_zero, List.getElem?_cons_succ] at e2
          have hcL : (L : Int) ≤ (c : Int) := by omega
          clear hown3 hb3 CB CO hh2 hh3 hB2
          go_wp2_with fail
          refine CO3.out.mono ?_
          rintro e w4 ⟨A4, c4, rfl, hown4, hb4⟩
          have hB4 := hB3.trans (hb4.mono hB3.size)
          have hO34 := own_below HO3.out hb4
          have hb4s := hb4.size
          have hs4 := hB4.size
          clear CO3 hb4 e2 HO3
          go_wp2_with (at_builtin; refine stop_ ?_)
          refine on_ ?_
          refine wpList_append_b rfl (.tmp 49) (.tmp 54) _ rfl 5 infoB Try.underlying25 w.heap.size (.slice A3 20 c3) 20 _ rfl hO34 w4.heap.size A4 L c4 _ rfl (Reads.of_own hown4) (20 + L) rfl (by omega) hs4 ?_
          intro A5 c5 w5 hown5 hb5 _ _
          rw [← HW.out] at hown5
          have hB5 := hB4.trans hb5
          have HF : Hid (WrapRet l self dest 2000 w (.returned (.tuple #[.slice A5 (20 + L) c5, .int .i64 0])) w5) := .inl ⟨HH.out, A5, c5, by rw [← HL.out], by rw [← HL.out]; exact hown5⟩
          clear hown4 hown5 hO34 hb5
          go_wp2_with fail
          exact bodyPost_ret (v := .tuple #[.slice A5 (20 + L) c5, .int .i64 0]) (by simp [results, Try.results30, go_sem]) rfl ⟨HF.out, hB5⟩
    · go_enter Try.func30, Try.ntmps30
      go_wp2_with fail
      refine CP.out.mono ?_
      rintro e w1 ⟨hret, hb1⟩
      obtain ⟨A1, c1, rfl, _⟩ := hret.yes HYE.out
      rw [HV.out]
      have hB2 := hb1.alloc hb1.size (.cells #[.int .i64 (s : Int), .int .i64 (x1 : Int), .int .i64 (L : Int), .int .i64 (x4 : Int), .int .i64 (f : Int), .int .i64 (o : Int), .int .i64 (x8 : Int), .int .i64 (x9 : Int), .int .i64 (x10 : Int), .int .u32 (x12 : Int), .int .u32 (x16 : Int)] 24)
      have hh2 := Blk.new w1 24 #[.int .i64 (s : Int), .int .i64 (x1 : Int), .int .i64 (L : Int), .int .i64 (x4 : Int), .int .i64 (f : Int), .int .i64 (o : Int), .int .i64 (x8 : Int), .int .i64 (x9 : Int), .int .i64 (x10 : Int), .int .u32 (x12 : Int), .int .u32 (x16 : Int)]
      have hs2 := hB2.size
      clear hret hb1 CP
      by_cases h8 : x8 ≤ 1
      · have HH := Lib.hid (HC.out.1 h8)
        clear HC
        go_wp2_with fail
        exact bodyPost_ret (v := .tuple #[.slice none 0 0, .int .i64 7]) (by simp [results, Try.results30, go_sem]) rfl ⟨.inr ⟨by rw [HH.out]; omega, by rw [HH.out]; rfl⟩, hB2⟩
      · by_cases hM2 : (L : Int) + 20 > 2000
        · have HH := Lib.hid (HC.out.2.1 h8 hM2)
          clear HC
          go_wp2_with fail
          exact bodyPost_ret (v := .tuple #[.slice none 0 0, .int .i64 11]) (by simp [results, Try.results30, go_sem]) rfl ⟨.inr ⟨by rw [HH.out]; omega, by rw [HH.out]; rfl⟩, hB2⟩
        · have HH := Lib.hid (HC.out.2.2 h8 (by omega))
          have q1 : ¬ (2000 < (L : Int) + 20) := by omega
          have q2 : ¬ ((2000 : Int) < (L : Int) + 20) := by omega
          have q3 : ¬ ((x8 : Int) ≤ 1) := by omega
          have q4 : decide (min 2000 2000 < (L : Int) + 20) = false := decide_eq_false (by omega)
          clear hM2
          clear HC
          go_wp2_with fail
          generalize w1.alloc (.cells #[.int .i64 (s : Int), .int .i64 (x1 : Int), .int .i64 (L : Int), .int .i64 (x4 : Int), .int .i64 (f : Int), .int .i64 (o : Int), .int .i64 (x8 : Int), .int .i64 (x9 : Int), .int .i64 (x10 : Int), .int .u32 (x12 : Int), .int .u32 (x16 : Int)] 24) = w2 at *
          refine (CB.out w2).mono ?_
          rintro e w3 ⟨A3, c3, rfl, hown3, hb3⟩
          have hB3 := hB2.trans (hb3.mono hB2.size)
          have hh3 := hh2.below hb3 hh2.lt
          have HO3 := Lib.hid (own_lower hown3 hs2)
          have CO3 := Lib.hid (CO.out w3 hB3 (by omega))
          have e2 := hh3.cell 2
          simp only [List.getElem?_toArray, List.getElem?_cons_zero, List.getElem?_cons_succ] at e2
          have hcL : (L : Int) ≤ (c : Int) := by omega
          clear hown3 hb3 CB CO hh2 hh3 hB2
          go_wp2_with fail
          refine CO3.out.mono ?_
          rintro e w4 ⟨A4, c4, rfl, hown4, hb4⟩
          have hB4 := hB3.trans (hb4.mono hB3.size)
          have hO34 := own_below HO3.out hb4
          have hb4s := hb4.size
          have hs4 := hB4.size
          clear CO3 hb4 e2 HO3
          go_wp2_with (at_builtin; refine stop_ ?_)
          refine on_ ?_
          refine wpList_append_b rfl (.tmp 49) (.tmp 54) _ rfl 5 infoB Try.underlying25 w.heap.size (.slice A3 20 c3) 20 _ rfl hO34 w4.heap.size A4 L c4 _ rfl (Reads.of_own hown4) (20 + L) rfl (by omega) hs4 ?_
          intro A5 c5 w5 hown5 hb5 _ _
          rw [← HW.out] at hown5
          have hB5 := hB4.trans hb5
          have HF : Hid (WrapRet l self dest mtu w (.returned (.tuple #[.slice A5 (20 + L) c5, .int .i64 0])) w5) := .inl ⟨HH.out, A5, c5, by rw [← HL.out], by rw [← HL.out]; exact hown5⟩
          clear hown4 hown5 hO34 hb5
          go_wp2_with fail
          exact bodyPost_ret (v := .tuple #[.slice A5 (20 + L) c5, .int .i64 0]) (by simp [results, Try.results30, go_sem]) rfl ⟨HF.out, hB5⟩
  · obtain ⟨r, hrr, hr0⟩ : ∃ r, whyP l = r ∧ r ≠ 0 := ⟨_, rfl, hy⟩
    have HW : Hid (whyW l mtu = r) := by show _ = _; unfold whyW; rw [if_pos hy, hrr]
    have HR := Lib.hid hrr
    have HY := Lib.hid hy
    have hb0 : ((r : Int) != 0) = true := by simp; omega
    have HR0 := Lib.hid hr0
    clear hr hrr hy hr0
    go_enter Try.func30, Try.ntmps30
    go_wp2_with fail
    refine CP.out.mono ?_
    rintro e w1 ⟨hret, hb1⟩
    obtain rfl := hret.no HY.out
    rw [HR.out]
    have hB2 := hb1.alloc hb1.size (.cells #[.int .i64 0, .int .i64 0, .int .i64 0, .int .i64 0, .int .i64 0, .int .i64 0, .int .i64 0, .int .i64 0, .int .i64 0, .int .u32 0, .int .u32 0] 24)
    unfold hd0 Hd.vals
    clear hret CP hb1
    go_wp2_with fail
    exact bodyPost_ret (v := .tuple #[.slice none 0 0, .int .i64 (r : Int)]) (by simp [results, Try.results30, go_sem]) rfl ⟨.inr ⟨by rw [HW.out]; exact HR0.out, by rw [HW.out]⟩, hB2⟩
end Go.Proofs.Ytpgbldpppdmdoaa
