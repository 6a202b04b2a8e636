/- The walk of EncapBack (wip/genencback.py). -/
import Derived.Test.YtpgbldpppdmdoaaAwake22
import Derived.Deep.LoopGhost
namespace Go.Proofs.Ytpgbldpppdmdoaa.encapBack
set_option linter.unusedVariables false
set_option linter.unusedSimpArgs false
open Go.RowKit

theorem hd_six (l : List Nat) : ∃ (y0 y2 y4 y5 y8 : Int) (y9 y10 : Nat), (hdP l).vals = #[.int .i64 y0, .int .i64 (at' l 1 : Nat), .int .i64 y2, .int .i64 (two' l 4 : Nat), .int .i64 y4, .int .i64 y5, .int .i64 (at' l 8 : Nat), .int .i64 (at' l 9 : Nat), .int .i64 y8, .int .u32 (y9 : Int), .int .u32 (y10 : Int)] :=
  ⟨_, _, _, _, _, _, _, rfl⟩
theorem bytes_own {w : World} {B : Nat} {g o n : Nat} {l : List Nat} (h : Reads w B 1 (some ⟨g, o, none⟩) n (bv l)) {j : Nat} (hj : j < n) : w.cell? ⟨g, o + j, none⟩ = some (.int .u8 ((at' l j : Nat) : Int)) := by
  obtain ⟨ad, hl, e, hc⟩ := bytes_at h hj
  cases e
  rw [Addr.add_lit] at hc
  rw [hc]
  unfold at'
  rw [List.getD_eq_getElem?_getD, List.getElem?_eq_getElem hl]
  rfl

set_option maxHeartbeats 16000000 in
set_option maxRecDepth 100000 in
theorem main (src dst : Nat) (proto sport dport ttl : Int) (A : Option Addr) (n c : Nat) (l : List Nat) (A' : Option Addr) (n' c' : Nat) (m : List Nat) (self dest : Nat) (mtu : Int) (B : Nat) (w : World) (hk : TuOk ⟨src, dst, proto, sport, dport⟩) (hr : Reads w B 1 A n (bv l)) (hr' : Reads w B 1 A' n' (bv m)) (hB : B ≤ w.heap.size) (hn : n ≤ 1900) (hn' : n' ≤ 100) (ha : AllB l) (ha' : AllB m) (hsa : self < 4294967296) (hsb : dest < 4294967296) :
    Calls Try.prog 11 #[.agg #[.int .u32 (src : Int), .int .u32 (dst : Int), .int .i64 proto, .int .i64 sport, .int .i64 dport], .int .i64 ttl, .slice A n c, .slice A' n' c', .int .u32 (self : Int), .int .u32 (dest : Int), .int .i64 mtu] w fun e w' => e = .returned (.bool true) ∧ Below w.heap.size w w' := by
  have hll := hr.length
  have hlm := hr'.length
  obtain ⟨t, ht⟩ : ∃ t : Nat, t = (ttl % 256).toNat := ⟨_, rfl⟩
  have t256 : t < 256 := by omega
  have hm255 : bits BinOp.and IntKind.i64 ttl 255 = (t : Int) := by
    have := i64_and_mask 8 (by omega) ttl
    rw [show (((2 ^ 8 - 1 : Nat) : Nat) : Int) = 255 from rfl] at this
    rw [this, ht]
    rfl
  have hall := madeB_all ⟨src, dst, proto, sport, dport⟩ (t : Int) 0 l ha
  obtain ⟨N, hN⟩ : ∃ N, (madeB ⟨src, dst, proto, sport, dport⟩ (t : Int) 0 l).length = N := ⟨_, rfl⟩
  have hNb : 28 ≤ N ∧ N ≤ 1940 := by
    have := madeB_length ⟨src, dst, proto, sport, dport⟩ (t : Int) 0 l
    rw [hN] at this
    split at this <;> omega
  obtain ⟨N28, N1⟩ := hNb
  obtain ⟨q1, q2, q3, q4, q5⟩ := madeB_more ⟨src, dst, proto, sport, dport⟩ (t : Int) 0 l m (by omega)
  have ht8 : u64n (t : Int) % 256 = t := by unfold u64n; omega
  rw [ht8] at q4
  rw [hN] at q2 q3
  have hp0 := madeB_why ⟨src, dst, proto, sport, dport⟩ (t : Int) 0 l (by omega)
  have CM : Hid (∀ w', Below w.heap.size w w' → Calls Try.prog 23 #[.agg #[.int .u32 (src : Int), .int .u32 (dst : Int), .int .i64 proto, .int .i64 sport, .int .i64 dport], .int .i64 (t : Int), .int .i64 0, .slice A n c] w' fun e w'' => MadeRet ⟨src, dst, proto, sport, dport⟩ (t : Int) 0 l w' e w'') :=
    fun w' hb => made_any ⟨src, dst, proto, sport, dport⟩ (t : Int) 0 A n c w'.heap.size l w' hk (by omega) ((hr.below (hb.mono hB)).more (Nat.le_trans hB hb.size)) (Nat.le_refl _) (by omega)
  have HR' := Lib.hid (fun w' (hb : Below w.heap.size w w') => (hr'.below (hb.mono hB)).more (Nat.le_trans hB hb.size))
  unfold MadeRet at CM
  rw [hN] at CM
  have HT := Lib.hid ht
  clear hll hk hr hr' ha hB ht ht8 q5 hlm
  generalize madeB ⟨src, dst, proto, sport, dport⟩ (t : Int) 0 l = D at *
  have hlp : Hid (lenP (D ++ m) = N) := q2
  have hpa : Hid (AllB (D ++ m)) := hall.append ha'
  have HD := Lib.hid (And.intro hall (And.intro hp0 hN))
  have H8 := Lib.hid q4
  have HY := Lib.hid q1
  have HTK := Lib.hid q3
  have HS := Lib.hid (And.intro hsa hsb)
  have hd1 : decide ((1900 : Int) < (n : Int)) = false := decide_eq_false (by omega)
  have hd2 : decide ((100 : Int) < (n' : Int)) = false := decide_eq_false (by omega)
  clear hall ha' hN hp0 q1 q2 q3 q4 hsa hsb
  go_enter Try.func11, Try.ntmps11
  go_wp2_with fail
  have hB0 := (Below.refl w.heap.size w).alloc (Nat.le_refl _) (.cells #[.int .u32 (src : Int), .int .u32 (dst : Int), .int .i64 proto, .int .i64 sport, .int .i64 dport] 43)
  refine (CM.out _ hB0).mono ?_
  rintro e w1 ⟨A1, N2, c1, rfl, rfl, hown1, hb1⟩
  have hB1 := hB0.trans (hb1.mono hB0.size)
  have hs1 := hB1.size
  obtain ⟨g, rfl, hg1, hg2⟩ := own_head hown1 (by omega)
  have hc1 := own_cap hown1
  have HO1 := Lib.hid hown1
  clear hb1 CM hB0 hown1
  go_wp2_with (at_builtin; refine stop_ ?_)
  refine on_ ?_
  refine wpList_append_b rfl (.tmp 48) (.tmp 49) _ rfl 5 infoB Try.underlying25 w1.heap.size (.slice (some ⟨w1.heap.size, 0, none⟩) 0 0) 0 [] rfl
    (lit_own (cs := #[]) (Blk.new_ rfl) (Nat.le_refl _) (by decide) rfl rfl) w1.heap.size (some ⟨g, 0, none⟩) N2 c1 D rfl ((Reads.of_own HO1.out).alloc (Nat.le_refl _) _) N2 (by omega) (by omega) (by simp) ?_
  intro A2 c2 w2 hown2 hb2 _ _
  rw [List.nil_append] at hown2
  have hb12 : Below w1.heap.size w1 w2 := ((Below.refl _ _).alloc (Nat.le_refl _) _).trans hb2
  have hB2 := hB1.trans (hb12.mono hs1)
  clear hb2
  go_wp2_with (at_builtin; refine stop_ ?_)
  refine on_ ?_
  refine wpList_append_b rfl (.tmp 50) (.tmp 51) _ rfl 5 infoB Try.underlying25 w1.heap.size (.slice A2 N2 c2) N2 D rfl hown2 w2.heap.size A' n' c' m rfl (HR'.out w2 hB2) (N2 + n') rfl (by omega) hb12.size ?_
  intro A3 c3 w3 hown3 hb3 _ _
  have hb13 := hb12.trans hb3
  have hB3 := hB1.trans (hb13.mono hs1)
  have hO3 := Lib.hid (own_below HO1.out hb13)
  have CW := Lib.hid (wrap_any A3 (N2 + n') c3 w3.heap.size (D ++ m) self dest mtu w3 (Reads.of_own hown3) (Nat.le_refl _) (by omega) (own_cap hown3) hpa.out HS.out.1 HS.out.2)
  clear hown2 hown3 hb3 hb12 hb13 HR' HO1 hB2
  go_wp2_with fail
  refine CW.out.mono ?_
  rintro e w4 ⟨hret, hb4⟩
  have hB4 := hB3.trans (hb4.mono hB3.size)
  have HO4 := Lib.hid (own_below hO3.out hb4)
  clear CW hO3 hb4 hB3
  by_cases h8 : t ≤ 1
  · have hw : whyW (D ++ m) mtu = 7 := whyW_ttl HY.out (by rw [H8.out]; exact h8)
    obtain rfl := hret.no (by omega)
    rw [hw]
    have h8i : (t : Int) ≤ 1 := by omega
    clear hret hw
    go_wp2_with fail
    refine (awake22_any _).mono ?_
    rintro e w9 ⟨rfl, hb9⟩
    go_wp2_with fail
    go_ret
    exact ⟨rfl, hB4.trans (hb9.mono hB4.size)⟩
  have h8i : ¬ ((t : Int) ≤ 1) := by omega
  by_cases hbig : mtu < (N2 : Int) + 20 ∨ 2000 < (N2 : Int) + 20
  · have hw : whyW (D ++ m) mtu = 11 := whyW_mtu HY.out (by rw [H8.out]; omega) (by rw [hlp.out]; omega)
    obtain rfl := hret.no (by omega)
    rw [hw]
    clear hret hw
    by_cases hb1 : mtu < (N2 : Int) + 20
    · have d1 : decide (mtu < (N2 : Int) + 20) = true := decide_eq_true hb1
      clear hbig
      go_wp2_with fail
      refine (awake22_any _).mono ?_
      rintro e w9 ⟨rfl, hb9⟩
      go_wp2_with fail
      go_ret
      exact ⟨rfl, hB4.trans (hb9.mono hB4.size)⟩
    · exfalso; omega
  have hb1 : ¬ (mtu < (N2 : Int) + 20) := by omega
  have hb2 : ¬ ((2000 : Int) < (N2 : Int) + 20) := by omega
  have d1 : decide (mtu < (N2 : Int) + 20) = false := decide_eq_false hb1
  have d2 : decide ((2000 : Int) < (N2 : Int) + 20) = false := decide_eq_false hb2
  have hw : whyW (D ++ m) mtu = 0 := whyW_yes HY.out (by rw [H8.out]; omega) (by rw [hlp.out]; omega) (by rw [hlp.out]; omega)
  obtain ⟨A5, c5, rfl, hown5⟩ := hret.yes hw
  rw [hlp.out] at hown5 ⊢
  clear hret hw hbig
  obtain ⟨v1, v2, v3, v4, v5, v6, v7, v8, v9, v10⟩ := wrapped hpa.out HY.out (by rw [H8.out]; omega) (by rw [hlp.out]; omega) self dest HS.out.1 HS.out.2
  obtain ⟨u1, u2, u3⟩ := unwrapped hpa.out HY.out (by rw [H8.out]; omega) (by rw [hlp.out]; omega) self dest HS.out.1 HS.out.2
  obtain ⟨j1, j2, j3⟩ := inner_why hpa.out HY.out (by rw [H8.out]; omega)
  rw [hlp.out] at v2 v8 u2 u3 j1 j2 j3
  rw [HTK.out] at v8 u2 j1 j2 j3
  have wa := wrapB_all hpa.out self dest
  have e1 : at' (D ++ m) 1 = at' D 1 := at_append (by rw [HD.out.2.2]; omega)
  have e4 : two' (D ++ m) 4 = two' D 4 := two_append (by rw [HD.out.2.2]; omega)
  have e8 : at' D 8 = t := by rw [← H8.out, at_append (by rw [HD.out.2.2]; omega)]
  rw [e1] at v9
  rw [e4] at v10
  obtain ⟨OD, hOD⟩ : ∃ o, o = olderB D := ⟨_, rfl⟩
  have o1 : at' OD 1 = at' D 1 := by rw [hOD]; exact older_at (by omega) (by omega) (by omega)
  have o4 : two' OD 4 = two' D 4 := by rw [hOD]; exact older_id D
  have o8 : at' OD 8 = t - 1 := by rw [hOD, older_ttl (by rw [HD.out.2.2]; omega), e8]
  have oa : AllB OD := by rw [hOD]; exact olderB_all HD.out.1
  have oj : Hid (∀ j, j ≠ 8 → j ≠ 10 → j ≠ 11 → at' OD j = at' D j) := fun j h1 h2 h3 => by rw [hOD]; exact older_at h1 h2 h3
  rw [← hOD] at v8 u2 j1 j2 j3
  obtain ⟨WB, hWB⟩ : ∃ W, W = wrapB (D ++ m) self dest := ⟨_, rfl⟩
  rw [← hWB] at v1 v2 v3 v4 v5 v6 v7 v8 v9 v10 u1 u2 u3 wa hown5
  have CU := Lib.hid (unwrap_any A5 (20 + N2) c5 w4.heap.size WB w4 (Reads.of_own hown5) (Nat.le_refl _) (by omega) (own_cap hown5) wa)
  have CP5 := Lib.hid (fun w' (hb : Below w4.heap.size w4 w') => parse_any A5 (20 + N2) c5 w'.heap.size WB w' (((Reads.of_own hown5).below hb).more hb.size) (Nat.le_refl _) (by omega) (own_cap hown5) wa)
  obtain ⟨x1, hx1⟩ : ∃ x, x = at' D 1 := ⟨_, rfl⟩
  obtain ⟨x4, hx4⟩ : ∃ x, x = two' D 4 := ⟨_, rfl⟩
  obtain ⟨t1, ht1, ht1'⟩ : ∃ x, x = t - 1 ∧ (t : Int) - 1 = (x : Int) := ⟨_, rfl, by omega⟩
  obtain ⟨y0, y2, y4, y5, y8, y9, y10, hyv⟩ := hd_six WB
  obtain ⟨z0, z2, z4, z5, z8, z9, z10, hzv⟩ := hd_six OD
  rw [v4, v5, v9, v10, ← hx1, ← hx4] at hyv
  rw [o1, o4, o8, ← hx1, ← hx4, ← ht1] at hzv
  obtain ⟨z7, hz7⟩ : ∃ z : Nat, z = at' OD 9 := ⟨_, rfl⟩
  rw [← hz7] at hzv
  have HYV := Lib.hid hyv
  have HZV := Lib.hid hzv
  have HU := Lib.hid (And.intro u1 (And.intro u2 (And.intro u3 (And.intro v6 v7))))
  have HV := Lib.hid (And.intro v1 (And.intro v2 (And.intro v3 v8)))
  have HJ := Lib.hid (And.intro j1 (And.intro j2 j3))
  have HOA := Lib.hid oa
  clear v1 v2 v3 v4 v5 v6 v7 v8 v9 v10 u1 u2 u3 j1 j2 j3 wa e1 e4 e8 hOD o1 o4 o8 oa hWB hx1 hx4 ht1 hyv hzv hz7 hown5
  go_wp2_with fail
  refine CU.out.mono ?_
  rintro e w5 ⟨hret, hb5⟩
  obtain ⟨A6, c6, rfl, hc6, hr6⟩ := hret.yes HU.out.1
  rw [HU.out.2.2.1, HU.out.2.1] at hr6
  rw [HU.out.2.2.1] at hc6 ⊢
  rw [HU.out.2.2.2.1, HU.out.2.2.2.2]
  obtain ⟨pb, po, rfl, hpb, _⟩ := hr6.plain (by omega) (by omega)
  have hB5 := hB4.trans (hb5.mono hB4.size)
  have hO5 := own_below HO4.out hb5
  have CPa := Lib.hid (CP5.out w5 hb5)
  have HR6 := Lib.hid (And.intro hr6 hO5)
  clear hret hb5 CU CP5 hr6 hO5 HO4 hB4
  go_wp2_with fail
  refine CPa.out.mono ?_
  rintro e w6 ⟨hret, hb6⟩
  obtain ⟨A7, c7, rfl, hown7⟩ := hret.yes HV.out.1
  have h20 : 20 + N2 - 4 * 5 = N2 := by omega
  rw [HV.out.2.1, HV.out.2.2.1, HV.out.2.2.2, h20] at hown7
  rw [HV.out.2.1, HV.out.2.2.1, HYV.out, h20]
  clear h20
  have hB6 := hB5.trans (hb6.mono hB5.size)
  have hB6' := hB6.alloc hB6.size (.cells #[.int .i64 y0, .int .i64 (x1 : Int), .int .i64 y2, .int .i64 (x4 : Int), .int .i64 y4, .int .i64 y5, .int .i64 64, .int .i64 4, .int .i64 y8, .int .u32 (y9 : Int), .int .u32 (y10 : Int)] 24)
  have hy6 := Blk.new w6 24 #[.int .i64 y0, .int .i64 (x1 : Int), .int .i64 y2, .int .i64 (x4 : Int), .int .i64 y4, .int .i64 y5, .int .i64 64, .int .i64 4, .int .i64 y8, .int .u32 (y9 : Int), .int .u32 (y10 : Int)]
  have hr6 := ((HR6.out.1.below hb6).more hb6.size).alloc (Nat.le_refl _) (.cells #[.int .i64 y0, .int .i64 (x1 : Int), .int .i64 y2, .int .i64 (x4 : Int), .int .i64 y4, .int .i64 y5, .int .i64 64, .int .i64 4, .int .i64 y8, .int .u32 (y9 : Int), .int .u32 (y10 : Int)] 24)
  have hO6 := (own_below HR6.out.2 hb6).alloc (.cells #[.int .i64 y0, .int .i64 (x1 : Int), .int .i64 y2, .int .i64 (x4 : Int), .int .i64 y4, .int .i64 y5, .int .i64 64, .int .i64 4, .int .i64 y8, .int .u32 (y9 : Int), .int .u32 (y10 : Int)] 24)
  have hown7' := hown7.alloc (.cells #[.int .i64 y0, .int .i64 (x1 : Int), .int .i64 y2, .int .i64 (x4 : Int), .int .i64 y4, .int .i64 y5, .int .i64 64, .int .i64 4, .int .i64 y8, .int .u32 (y9 : Int), .int .u32 (y10 : Int)] 24)
  have hw7s : w6.heap.size ≤ (w6.alloc (.cells #[.int .i64 y0, .int .i64 (x1 : Int), .int .i64 y2, .int .i64 (x4 : Int), .int .i64 y4, .int .i64 y5, .int .i64 64, .int .i64 4, .int .i64 y8, .int .u32 (y9 : Int), .int .u32 (y10 : Int)] 24)).heap.size := by simp
  have CPb := Lib.hid (parse_any (some ⟨pb, po, none⟩) N2 c6 _ OD (w6.alloc (.cells #[.int .i64 y0, .int .i64 (x1 : Int), .int .i64 y2, .int .i64 (x4 : Int), .int .i64 y4, .int .i64 y5, .int .i64 64, .int .i64 4, .int .i64 y8, .int .u32 (y9 : Int), .int .u32 (y10 : Int)] 24)) hr6 hw7s (by omega) hc6 HOA.out)
  have HR7 := Lib.hid (And.intro hr6 (And.intro hO6 hown7'))
  clear hret hb6 CPa HR6 hr6 hO6 hown7 hown7' hB5 hB6
  go_wp2_with fail
  generalize w6.alloc (.cells #[.int .i64 y0, .int .i64 (x1 : Int), .int .i64 y2, .int .i64 (x4 : Int), .int .i64 y4, .int .i64 y5, .int .i64 64, .int .i64 4, .int .i64 y8, .int .u32 (y9 : Int), .int .u32 (y10 : Int)] 24) = w7 at *
  refine CPb.out.mono ?_
  rintro e w8 ⟨hret, hb8⟩
  obtain ⟨A8, c8, rfl, _⟩ := hret.yes HJ.out.1
  rw [HZV.out]
  have hB8 := hB6'.trans (hb8.mono hB6'.size)
  have hB9 := hB8.alloc hB8.size (.cells #[.int .i64 z0, .int .i64 (x1 : Int), .int .i64 z2, .int .i64 (x4 : Int), .int .i64 z4, .int .i64 z5, .int .i64 (t1 : Int), .int .i64 z7, .int .i64 z8, .int .u32 (z9 : Int), .int .u32 (z10 : Int)] 24)
  have hy9 := (hy6.below hb8 hy6.lt).alloc (.cells #[.int .i64 z0, .int .i64 (x1 : Int), .int .i64 z2, .int .i64 (x4 : Int), .int .i64 z4, .int .i64 z5, .int .i64 (t1 : Int), .int .i64 z7, .int .i64 z8, .int .u32 (z9 : Int), .int .u32 (z10 : Int)] 24)
  have hz9 := Blk.new w8 24 #[.int .i64 z0, .int .i64 (x1 : Int), .int .i64 z2, .int .i64 (x4 : Int), .int .i64 z4, .int .i64 z5, .int .i64 (t1 : Int), .int .i64 z7, .int .i64 z8, .int .u32 (z9 : Int), .int .u32 (z10 : Int)]
  have hr9 := ((HR7.out.1.below (hb8.mono hw7s))).alloc (by have := hb8.size; omega) (.cells #[.int .i64 z0, .int .i64 (x1 : Int), .int .i64 z2, .int .i64 (x4 : Int), .int .i64 z4, .int .i64 z5, .int .i64 (t1 : Int), .int .i64 z7, .int .i64 z8, .int .u32 (z9 : Int), .int .u32 (z10 : Int)] 24)
  have hO9 := (own_below HR7.out.2.1 hb8).alloc (.cells #[.int .i64 z0, .int .i64 (x1 : Int), .int .i64 z2, .int .i64 (x4 : Int), .int .i64 z4, .int .i64 z5, .int .i64 (t1 : Int), .int .i64 z7, .int .i64 z8, .int .u32 (z9 : Int), .int .u32 (z10 : Int)] 24)
  have ho9 := (own_below HR7.out.2.2 hb8).alloc (.cells #[.int .i64 z0, .int .i64 (x1 : Int), .int .i64 z2, .int .i64 (x4 : Int), .int .i64 z4, .int .i64 z5, .int .i64 (t1 : Int), .int .i64 z7, .int .i64 z8, .int .u32 (z9 : Int), .int .u32 (z10 : Int)] 24)
  have S1 := run_string_back (P := Try.prog) (w := w8.alloc (.cells #[.int .i64 z0, .int .i64 (x1 : Int), .int .i64 z2, .int .i64 (x4 : Int), .int .i64 z4, .int .i64 z5, .int .i64 (t1 : Int), .int .i64 z7, .int .i64 z8, .int .u32 (z9 : Int), .int .u32 (z10 : Int)] 24)) (c := c7) 25 9 5 Try.underlying25 Try.underlying5 Try.underlying9 (Reads.of_own ho9) HOA.out
  have S2 := run_string_back (P := Try.prog) (w := w8.alloc (.cells #[.int .i64 z0, .int .i64 (x1 : Int), .int .i64 z2, .int .i64 (x4 : Int), .int .i64 z4, .int .i64 z5, .int .i64 (t1 : Int), .int .i64 z7, .int .i64 z8, .int .u32 (z9 : Int), .int .u32 (z10 : Int)] 24)) (c := c6) 25 9 5 Try.underlying25 Try.underlying5 Try.underlying9 hr9 HOA.out
  have a1 := hy9.cell 1
  have a3 := hy9.cell 3
  have a6 := hy9.cell 6
  have a7 := hy9.cell 7
  have b1 := hz9.cell 1
  have b3 := hz9.cell 3
  have b6 := hz9.cell 6
  simp only [List.getElem?_toArray, List.getElem?_cons_zero, List.getElem?_cons_succ] at a1 a3 a6 a7 b1 b3 b6
  have HR9 := Lib.hid (And.intro hr9 hO9)
  have HB9 := Lib.hid hB9
  have HSZ : Hid (w6.heap.size ≤ (w8.alloc (.cells #[.int .i64 z0, .int .i64 (x1 : Int), .int .i64 z2, .int .i64 (x4 : Int), .int .i64 z4, .int .i64 z5, .int .i64 (t1 : Int), .int .i64 z7, .int .i64 z8, .int .u32 (z9 : Int), .int .u32 (z10 : Int)] 24)).heap.size) := by show _ ≤ _; have := hb8.size; simp; omega
  clear hret hb8 CPb HR7 hr9 hO9 ho9 hy6 hy9 hz9 hB6' hB8 hB9 HJ HV HU HYV HZV
  go_wp2_with fail
  obtain ⟨w9, hw9⟩ : ∃ w9, w9 = w8.alloc (.cells #[.int .i64 z0, .int .i64 (x1 : Int), .int .i64 z2, .int .i64 (x4 : Int), .int .i64 z4, .int .i64 z5, .int .i64 (t1 : Int), .int .i64 z7, .int .i64 z8, .int .u32 (z9 : Int), .int .u32 (z10 : Int)] 24) := ⟨_, rfl⟩
  rw [← hw9] at HR9 HB9 HSZ ⊢
  clear S1 S2 a1 a3 a6 a7 b1 b3 b6 hw9 hw7s h8 h8i hb1 hb2 d1 d2 ht1'
  have hBz := Below.refl w9.heap.size w9
  go_loopw [186] (fun i wr => ∃ k : Nat, k ≤ N2 ∧ i = .int .i64 (k : Int) ∧ Below w9.heap.size w9 wr) (fun i _ => N2 - (intOf i).toNat)
  case atStart => exact ⟨0, Nat.zero_le _, rfl, hBz⟩
  case round =>
    obtain ⟨k, hk, rfl, hBw⟩ := hrel
    clear hBz
    by_cases hlt : k < N2
    · have HBw := Lib.hid hBw
      by_cases h8 : k = 8 ∨ k = 10 ∨ k = 11
      · rcases h8 with rfl | rfl | rfl
        all_goals
          clear hBw
          go_wp2_with fail
          go_quiet (fail)
          go_wp2_with fail
          go_roundw
          case rel => first | exact ⟨9, by omega, by go_num, HBw.out.trans ⟨rfl, rfl, rfl, Nat.le_refl _, fun _ _ => rfl⟩⟩ | exact ⟨11, by omega, by go_num, HBw.out.trans ⟨rfl, rfl, rfl, Nat.le_refl _, fun _ _ => rfl⟩⟩ | exact ⟨12, by omega, by go_num, HBw.out.trans ⟨rfl, rfl, rfl, Nat.le_refl _, fun _ _ => rfl⟩⟩
          case measure => simp [intOf]; omega
      · have hj := oj.out k (by omega) (by omega) (by omega)
        have g1 := bytes_own (HR9.out.1.below (hBw.mono HSZ.out)) hlt
        have g2 := bytes_own ((Reads.of_own HR9.out.2).below hBw) hlt
        rw [hj] at g1
        rw [Nat.zero_add] at g2
        have n8 : ((k : Int) != 8) = true := by simp; omega
        have n10 : ((k : Int) != 10) = true := by simp; omega
        have n11 : ((k : Int) != 11) = true := by simp; omega
        have i1 : (0 : Int) ≤ (k : Int) := by omega
        have i2 : (k : Int) < (N2 : Int) := by omega
        generalize at' D k = v at *
        clear hj hBw h8
        go_wp2_with fail
        go_quiet (fail)
        go_wp2_with fail
        go_roundw
        case rel => exact ⟨k + 1, by omega, by go_num, HBw.out.trans ⟨rfl, rfl, rfl, Nat.le_refl _, fun _ _ => rfl⟩⟩
        case measure => simp [intOf]; omega
    · have hB10 := HB9.out.trans (hBw.mono HB9.out.size)
      clear hBw
      have hge : ¬ ((k : Int) < (N2 : Int)) := by omega
      go_wp2_with fail
      refine (awake22_any _).mono ?_
      rintro e w11 ⟨rfl, hb11⟩
      go_wp2_with fail
      go_ret
      exact ⟨rfl, hB10.trans (hb11.mono hB10.size)⟩

set_option maxHeartbeats 4000000 in
set_option maxRecDepth 100000 in
theorem lawWalk (k : Tu) (ttl : Int) (A : Option Addr) (n c : Nat) (l : List Nat) (A' : Option Addr) (n' c' : Nat) (m : List Nat) (self dest : Nat) (mtu : Int) (w : World) (hk : TuOk k) (httl : -9223372036854775808 ≤ ttl ∧ ttl ≤ 9223372036854775807) (hi : BytesIn w A n c l) (hi' : BytesIn w A' n' c' m) (hsa : self < 4294967296) (hsb : dest < 4294967296) (hmtu : -9223372036854775808 ≤ mtu ∧ mtu ≤ 9223372036854775807) :
    Calls Try.prog 11 #[.agg k.vals, .int .i64 ttl, .slice A n c, .slice A' n' c', .int .u32 (self : Int), .int .u32 (dest : Int), .int .i64 mtu] w fun e w' => e = .returned (.bool true) ∧ Below w.heap.size w w' := by
  have hr := hi.reads
  have ha := hi.all
  have hr' := hi'.reads
  have ha' := hi'.all
  clear hi hi'
  obtain ⟨src, dst, proto, sport, dport⟩ := k
  by_cases h1 : 1900 < n
  · have hB0 := (Below.refl w.heap.size w).alloc (Nat.le_refl _) (.cells #[.int .u32 (src : Int), .int .u32 (dst : Int), .int .i64 proto, .int .i64 sport, .int .i64 dport] 43)
    have hd : decide ((1900 : Int) < (n : Int)) = true := decide_eq_true (by omega)
    unfold Tu.vals
    dsimp only
    clear hr hr'
    go_enter Try.func11, Try.ntmps11
    go_wp2_with fail
    refine (awake22_any _).mono ?_
    rintro e w2 ⟨rfl, hb2⟩
    go_wp2_with fail
    go_ret
    exact ⟨rfl, hB0.trans (hb2.mono hB0.size)⟩
  by_cases h2 : 100 < n'
  · have hB0 := (Below.refl w.heap.size w).alloc (Nat.le_refl _) (.cells #[.int .u32 (src : Int), .int .u32 (dst : Int), .int .i64 proto, .int .i64 sport, .int .i64 dport] 43)
    have hd0 : decide ((1900 : Int) < (n : Int)) = false := decide_eq_false (by omega)
    have hd : decide ((100 : Int) < (n' : Int)) = true := decide_eq_true (by omega)
    unfold Tu.vals
    dsimp only
    clear hr hr'
    go_enter Try.func11, Try.ntmps11
    go_wp2_with fail
    refine (awake22_any _).mono ?_
    rintro e w2 ⟨rfl, hb2⟩
    go_wp2_with fail
    go_ret
    exact ⟨rfl, hB0.trans (hb2.mono hB0.size)⟩
  exact main src dst proto sport dport ttl A n c l A' n' c' m self dest mtu _ w hk hr hr' (Nat.le_refl _) (by omega) (by omega) ha ha' hsa hsb

end Go.Proofs.Ytpgbldpppdmdoaa.encapBack
