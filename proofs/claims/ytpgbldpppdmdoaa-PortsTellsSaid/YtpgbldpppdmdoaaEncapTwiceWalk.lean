/- The walk of EncapTwice (wip/gentwice.py). -/
import Derived.Test.YtpgbldpppdmdoaaAwake22
import Derived.Test.YtpgbldpppdmdoaaMayTu
namespace Go.Proofs.Ytpgbldpppdmdoaa.encapTwice
set_option linter.unusedVariables false
set_option linter.unusedSimpArgs false
open Go.RowKit

/-- twice wrapped, twice unwrapped -/
theorem twice {p : List Nat} {N : Nat} (ha : AllB p) (h : whyP p = 0) (hL : lenP p = N) (hp : p.length = N) (h28 : 28 ≤ N) (h1 : N ≤ 1100) (ht : at' p 8 = 9) (a b : Nat) (hsa : a < 4294967296) (hsb : b < 4294967296) :
    whyW p 2000 = 0 ∧ lenP (wrapB p a b) = 20 + N ∧ whyW (wrapB p a b) 2000 = 0 ∧ whyU (wrapB (wrapB p a b) b a) = 0 ∧ innerU (wrapB (wrapB p a b) b a) = olderB (wrapB p a b) ∧ lenP (bodyP (wrapB (wrapB p a b) b a)) = 20 + N ∧
    four' (wrapB (wrapB p a b) b a) 12 = b ∧ four' (wrapB (wrapB p a b) b a) 16 = a ∧ whyU (olderB (wrapB p a b)) = 0 ∧ lenP (bodyP (olderB (wrapB p a b))) = N ∧ innerU (olderB (wrapB p a b)) = olderB p := by
  obtain ⟨w1, w2, w3, w4, w5, w6, w7, w8, w9, w10⟩ := wrapped ha h (by omega) (by omega) a b hsa hsb
  have wl := wrapB_length h a b
  have wa := wrapB_all ha a b
  have tp : p.take (lenP p) = p := List.take_of_length_le (by omega)
  have tw : (wrapB p a b).take (lenP (wrapB p a b)) = wrapB p a b := List.take_of_length_le (by omega)
  obtain ⟨i1, i2, i3⟩ := inner_why ha h (by omega)
  rw [tp] at i1 i2 i3 w8
  obtain ⟨j1, j2, j3⟩ := inner_why wa w1 (by omega)
  rw [tw] at j1 j2 j3
  obtain ⟨u1, u2, u3⟩ := unwrapped wa w1 (by omega) (by omega) b a hsb hsa
  rw [tw] at u2
  obtain ⟨v1, v2, v3, v4, v5, v6, v7, v8, v9, v10⟩ := wrapped wa w1 (by omega) (by omega) b a hsb hsa
  have bo : bodyP (olderB (wrapB p a b)) = olderB p := by rw [body_older w1, w8]
  have a9 : at' (olderB (wrapB p a b)) 9 = 4 := by rw [older_at (by omega) (by omega) (by omega), w5]
  refine ⟨whyW_yes h (by omega) (by omega) (by omega), by omega, whyW_yes w1 (by omega) (by omega) (by omega), u1, u2, by omega, v6, v7, ?_, by rw [bo]; omega, ?_⟩
  · unfold whyU
    rw [j1, a9, bo, if_neg (by omega), if_neg (by omega), i1]
  · unfold innerU
    rw [bo, List.take_of_length_le (by omega)]

set_option maxHeartbeats 8000000 in
set_option maxRecDepth 100000 in
theorem main (src dst : Nat) (proto sport dport : Int) (a b : Nat) (A : Option Addr) (n c B : Nat) (l : List Nat) (w : World) (hk : TuOk ⟨src, dst, proto, sport, dport⟩) (hm : mayTu ⟨src, dst, proto, sport, dport⟩ = true) (hr : Reads w B 1 A n (bv l)) (hB : B ≤ w.heap.size) (hn : n ≤ 1000) (ha : AllB l) (hsa : a < 4294967296) (hsb : b < 4294967296) :
    Calls Try.prog 12 #[.agg #[.int .u32 (src : Int), .int .u32 (dst : Int), .int .i64 proto, .int .i64 sport, .int .i64 dport] , .slice A n c, .int .u32 (a : Int), .int .u32 (b : Int)] w fun e w' => e = .returned (.bool true) ∧ Below w.heap.size w w' := by
  have hll := hr.length
  have hall := madeB_all ⟨src, dst, proto, sport, dport⟩ 9 0 l ha
  obtain ⟨N, hN⟩ : ∃ N, (madeB ⟨src, dst, proto, sport, dport⟩ 9 0 l).length = N := ⟨_, rfl⟩
  have hNb : 28 ≤ N ∧ N ≤ 1040 := by
    have := madeB_length ⟨src, dst, proto, sport, dport⟩ 9 0 l
    rw [hN] at this
    split at this <;> omega
  obtain ⟨N28, N1⟩ := hNb
  have hP := madeB_why ⟨src, dst, proto, sport, dport⟩ 9 0 l (by omega)
  have hLP : lenP (madeB ⟨src, dst, proto, sport, dport⟩ 9 0 l) = N := by rw [madeB_lenP ⟨src, dst, proto, sport, dport⟩ 9 0 l (by omega), hN]
  have ht : at' (madeB ⟨src, dst, proto, sport, dport⟩ 9 0 l) 8 = 9 := by rw [madeB_ttl]; rfl
  have TW := Lib.hid (twice hall hP hLP hN N28 (by omega) ht a b hsa hsb)
  have CM : Hid (∀ w', Below w.heap.size w w' → Calls Try.prog 23 #[.agg #[.int .u32 (src : Int), .int .u32 (dst : Int), .int .i64 proto, .int .i64 sport, .int .i64 dport] , .int .i64 9, .int .i64 0, .slice A n c] w' fun e w'' => MadeRet ⟨src, dst, proto, sport, dport⟩ 9 0 l w' e w'') :=
    fun w' hb => made_any ⟨src, dst, proto, sport, dport⟩ 9 0 A n c w'.heap.size l w' hk (by omega) ((hr.below (hb.mono hB)).more (Nat.le_trans hB hb.size)) (Nat.le_refl _) (by omega)
  have CMT : Hid (∀ w', Calls Try.prog 28 #[.agg #[.int .u32 (src : Int), .int .u32 (dst : Int), .int .i64 proto, .int .i64 sport, .int .i64 dport] ] w' fun e w'' => e = .returned (.bool true) ∧ Below w'.heap.size w' w'') := fun w' => by
    have := maytuple_any ⟨src, dst, proto, sport, dport⟩ w'
    rw [hm] at this
    exact this
  have HD := Lib.hid (And.intro hall (And.intro hP hN))
  have HL := Lib.hid hLP
  have HS := Lib.hid (And.intro hsa hsb)
  unfold MadeRet at CM
  rw [hN] at CM
  have hd1 : decide ((1000 : Int) < (n : Int)) = false := decide_eq_false (by omega)
  clear hll hall hN hP hLP ht hk hm hr ha hB hsa hsb
  generalize madeB ⟨src, dst, proto, sport, dport⟩ 9 0 l = D at *
  go_enter Try.func12, Try.ntmps12
  go_wp2_with fail
  have hB0 := (Below.refl w.heap.size w).alloc (Nat.le_refl _) (.cells #[.int .u32 (src : Int), .int .u32 (dst : Int), .int .i64 proto, .int .i64 sport, .int .i64 dport] 43)
  have hq := Blk.new w 43 #[.int .u32 (src : Int), .int .u32 (dst : Int), .int .i64 proto, .int .i64 sport, .int .i64 dport]
  refine (CMT.out _).mono ?_
  rintro e w1 ⟨rfl, hb1⟩
  have hB1 := hB0.trans (hb1.mono hB0.size)
  have hq1 := hq.below hb1 hq.lt
  have CM1 := Lib.hid (CM.out w1 hB1)
  obtain ⟨q, hqe⟩ : ∃ q, q = w.heap.size := ⟨_, rfl⟩
  rw [← hqe] at hq1 ⊢
  have HQ := Lib.hid hqe
  clear hqe hq hb1 hB0 CM CMT
  have c0 := hq1.cell 0
  have c1' := hq1.cell 1
  have c2' := hq1.cell 2
  have c3' := hq1.cell 3
  have c4' := hq1.cell 4
  simp only [List.getElem?_toArray, List.getElem?_cons_zero, List.getElem?_cons_succ] at c0 c1' c2' c3' c4'
  clear hq1
  go_wp2_with fail
  refine CM1.out.mono ?_
  rintro e w2 ⟨A2, N2, c2, rfl, rfl, hown2, hb2⟩
  obtain ⟨g, rfl, hg1, hg2⟩ := own_head hown2 (by omega)
  have hc2 := own_cap hown2
  have hB2 := hB1.trans (hb2.mono hB1.size)
  have CWa := Lib.hid (wrap_any (some ⟨g, 0, none⟩) N2 c2 w2.heap.size D a b 2000 w2 (Reads.of_own hown2) (Nat.le_refl _) (by omega) hc2 HD.out.1 HS.out.1 HS.out.2)
  have HO2 := Lib.hid hown2
  clear c0 c1' c2' c3' c4' hb2 hown2 CM1 hB1
  go_wp2_with fail
  refine CWa.out.mono ?_
  rintro e w3 ⟨hret, hb3⟩
  obtain ⟨A3, c3, rfl, hown3⟩ := hret.yes TW.out.1
  rw [HL.out] at hown3 ⊢
  have hO3 := own_below HO2.out hb3
  have hB3 := hB2.trans (hb3.mono hB2.size)
  have CWb := Lib.hid (wrap_any A3 (20 + N2) c3 w3.heap.size (wrapB D a b) b a 2000 w3 (Reads.of_own hown3) (Nat.le_refl _) (by omega) (own_cap hown3) (wrapB_all HD.out.1 a b) HS.out.2 HS.out.1)
  have HO3 := Lib.hid hO3
  clear hret hb3 CWa hown3 hO3 HO2 hB2
  go_wp2_with fail
  refine CWb.out.mono ?_
  rintro e w4 ⟨hret, hb4⟩
  obtain ⟨A4, c4, rfl, hown4⟩ := hret.yes TW.out.2.2.1
  rw [TW.out.2.1] at hown4 ⊢
  have hO4 := own_below HO3.out hb4
  have hB4 := hB3.trans (hb4.mono hB3.size)
  have CUa := Lib.hid (unwrap_any A4 (20 + (20 + N2)) c4 w4.heap.size (wrapB (wrapB D a b) b a) w4 (Reads.of_own hown4) (Nat.le_refl _) (by omega) (own_cap hown4) (wrapB_all (wrapB_all HD.out.1 a b) b a))
  have HO4 := Lib.hid hO4
  clear hret hb4 CWb hown4 hO4 HO3 hB3
  go_wp2_with fail
  refine CUa.out.mono ?_
  rintro e w5 ⟨hret, hb5⟩
  obtain ⟨A5, c5, rfl, hc5, hr5⟩ := hret.yes TW.out.2.2.2.1
  rw [TW.out.2.2.2.2.2.1, TW.out.2.2.2.2.1] at hr5
  rw [TW.out.2.2.2.2.2.1] at hc5
  rw [TW.out.2.2.2.2.2.1, TW.out.2.2.2.2.2.2.1, TW.out.2.2.2.2.2.2.2.1]
  have hO5 := own_below HO4.out hb5
  have hB5 := hB4.trans (hb5.mono hB4.size)
  have CUb := Lib.hid (unwrap_any A5 (20 + N2) c5 w5.heap.size (olderB (wrapB D a b)) w5 hr5 (Nat.le_refl _) (by omega) hc5 (olderB_all (wrapB_all HD.out.1 a b)))
  have HO5 := Lib.hid hO5
  clear hret hb5 CUa hr5 hO5 HO4 hB4 hc5
  go_wp2_with fail
  refine CUb.out.mono ?_
  rintro e w6 ⟨hret, hb6⟩
  obtain ⟨A6, c6, rfl, hc6, hr6⟩ := hret.yes TW.out.2.2.2.2.2.2.2.2.1
  rw [TW.out.2.2.2.2.2.2.2.2.2.1, TW.out.2.2.2.2.2.2.2.2.2.2] at hr6
  rw [TW.out.2.2.2.2.2.2.2.2.2.1] at hc6 ⊢
  have hO6 := own_below HO5.out hb6
  have hB6 := hB5.trans (hb6.mono hB5.size)
  obtain ⟨x1, hx1⟩ : ∃ x, x = four' (olderB (wrapB D a b)) 12 := ⟨_, rfl⟩
  obtain ⟨x2, hx2⟩ : ∃ x, x = four' (olderB (wrapB D a b)) 16 := ⟨_, rfl⟩
  rw [← hx1, ← hx2]
  obtain ⟨pb, po, rfl, hpb, _⟩ := hr6.plain (by omega) (by omega)
  have r1 := hr6.cut (k := 12) (cap := c6) (by omega) hc6
  have r2 := (Reads.of_own hO6).cut (k := 12) (cap := c2) (by omega) hc2
  rw [if_neg (by omega)] at r1 r2
  simp only [Option.map_some, Addr.add_lit, Nat.mul_one, Nat.zero_add] at r1 r2
  rw [show (bv (olderB D)).drop 12 = bv (D.drop 12) from by rw [← older_drop (l := D) (k := 12) (by omega)]; simp [bv]] at r1
  rw [show (bv D).drop 12 = bv (D.drop 12) from by simp [bv]] at r2
  have HR1 : Hid (∀ w', Below w6.heap.size w6 w' → ∃ B, Reads w' B 1 (some ⟨pb, po + 12, none⟩) (N2 - 12) (bv (D.drop 12))) := fun w' hb => ⟨_, r1.below hb⟩
  have HR2 : Hid (∀ w', Below w6.heap.size w6 w' → ∃ B, Reads w' B 1 (some ⟨g, 12, none⟩) (N2 - 12) (bv (D.drop 12))) := fun w' hb => ⟨_, r2.below hb⟩
  have HDD : Hid (AllB (D.drop 12)) := HD.out.1.drop 12
  have i1 : (12 : Int) ≤ (N2 : Int) := by omega
  have i2 : ¬ c6 = 12 := by omega
  have i3 : ¬ c2 = 12 := by omega
  have i4 : 12 ≤ N2 := by omega
  have i5 : (N2 : Int) ≤ (c6 : Int) := by omega
  have i6 : (N2 : Int) ≤ (c2 : Int) := by omega
  have i7 : (28 : Int) ≤ (N2 : Int) := by omega
  have i8 : decide ((28 : Int) ≤ (N2 : Int)) = true := decide_eq_true (by omega)
  have Q0 := Lib.hid (fun (w' : World) (hq : Below w6.heap.size w6 w') => below_made hq (awake22_any w'))
  have j1 : IntKind.i64.wrap ((N2 : Int) + 40) = (N2 : Int) + 40 := IntWalk.i64_in _ (by omega)
  have j2 : ((20 + (20 + (N2 : Int))) == (N2 : Int) + 40) = true := by simp; omega
  have j3 : (((20 + (20 + N2) : Nat) : Int) == (N2 : Int) + 40) = true := by simp; omega
  clear hret hb6 CUb hr6 hO6 HO5 hB5 r1 r2 hx1 hx2 TW HL HS
  go_wp2_with fail
  refine wp_region_below (by kernel_rfl) (by kernel_rfl) ?_
  repeat (go_big_quiet_step (first | with_reducible exact fun _ => rfl | with_reducible exact Q0.out _))
  go_big_quiet_want
  refine quiet_string (.tmp 108) _ _ _ rfl Try.underlying25 Try.underlying5 Try.underlying9 (some ⟨pb, po + 12, none⟩) (N2 - 12) (c6 - 12) (D.drop 12) rfl HR1.out HDD.out ?_
  go_simp
  go_big_quiet_on
  repeat (go_big_quiet_step (first | with_reducible exact fun _ => rfl | with_reducible exact Q0.out _))
  go_big_quiet_want
  refine quiet_string (.tmp 111) _ _ _ rfl Try.underlying25 Try.underlying5 Try.underlying9 (some ⟨g, 12, none⟩) (N2 - 12) (c2 - 12) (D.drop 12) rfl HR2.out HDD.out ?_
  go_simp
  go_big_quiet_on
  repeat (go_big_quiet_step (first | with_reducible exact fun _ => rfl | with_reducible exact Q0.out _))
  refine wpQuiet_nil ?_
  intro w9 hb9
  go_wp2_with fail
  go_ret
  exact ⟨rfl, hB6.trans (hb9.mono hB6.size)⟩

set_option maxHeartbeats 4000000 in
theorem lawWalk (k : Tu) (A : Option Addr) (n c : Nat) (l : List Nat) (a b : Nat) (w : World) (hk : TuOk k) (hi : BytesIn w A n c l) (hsa : a < 4294967296) (hsb : b < 4294967296) :
    Calls Try.prog 12 #[.agg k.vals, .slice A n c, .int .u32 (a : Int), .int .u32 (b : Int)] w fun e w' => e = .returned (.bool true) ∧ Below w.heap.size w w' := by
  have hr := hi.reads
  have ha := hi.all
  clear hi
  obtain ⟨src, dst, proto, sport, dport⟩ := k
  have hB0 := (Below.refl w.heap.size w).alloc (Nat.le_refl _) (.cells #[.int .u32 (src : Int), .int .u32 (dst : Int), .int .i64 proto, .int .i64 sport, .int .i64 dport] 43)
  by_cases hn : n ≤ 1000
  · cases hm : mayTu ⟨src, dst, proto, sport, dport⟩ with
    | true => exact main src dst proto sport dport a b A n c _ l w hk hm hr (Nat.le_refl _) hn ha hsa hsb
    | false =>
      have hd : decide ((1000 : Int) < (n : Int)) = false := decide_eq_false (by omega)
      have CM := Lib.hid (fun w' => maytuple_any ⟨src, dst, proto, sport, dport⟩ w')
      rw [hm] at CM
      unfold Tu.vals at CM ⊢
      dsimp only at CM ⊢
      clear hm hr
      go_enter Try.func12, Try.ntmps12
      go_wp2_with fail
      refine (CM.out _).mono ?_
      rintro e w1 ⟨rfl, hb1⟩
      have hB1 := hB0.trans (hb1.mono hB0.size)
      clear hB0 hb1 CM
      go_wp2_with fail
      refine (awake22_any _).mono ?_
      rintro e w2 ⟨rfl, hb2⟩
      go_wp2_with fail
      go_ret
      exact ⟨rfl, hB1.trans (hb2.mono hB1.size)⟩
  · have hd : decide ((1000 : Int) < (n : Int)) = true := decide_eq_true (by omega)
    unfold Tu.vals
    dsimp only
    clear hr
    go_enter Try.func12, Try.ntmps12
    go_wp2_with fail
    refine (awake22_any _).mono ?_
    rintro e w2 ⟨rfl, hb2⟩
    go_wp2_with fail
    go_ret
    exact ⟨rfl, hB0.trans (hb2.mono hB0.size)⟩

end Go.Proofs.Ytpgbldpppdmdoaa.encapTwice
