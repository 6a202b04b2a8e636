/- The walk of PortsShort (wip/genshort.py). -/
import Derived.Test.YtpgbldpppdmdoaaMayTu
import Derived.Test.YtpgbldpppdmdoaaAwake21
import Derived.Deep.RegionHeld3
namespace Go.Proofs.Ytpgbldpppdmdoaa.portsShort
set_option linter.unusedVariables false
set_option linter.unusedSimpArgs false
open Go.RowKit

set_option maxHeartbeats 4000000 in
set_option maxRecDepth 100000 in
theorem short_6 (src dst : Nat) (sport dport : Int) (n pr : Int) (w : World) (hk : TuOk ⟨src, dst, 6, sport, dport⟩) (hm : mayTu ⟨src, dst, 6, sport, dport⟩ = true) :
    Calls Try.prog 9 #[.agg #[.int .u32 (src : Int), .int .u32 (dst : Int), .int .i64 6, .int .i64 sport, .int .i64 dport], .int .i64 n, .int .i64 pr] w fun e w' => e = .returned (.bool true) ∧ Below w.heap.size w w' := by
  obtain ⟨p, hpl, hpe0⟩ := idx_rem pr 256 (by omega)
  have hpe : (IntKind.u64.wrap pr).tmod 256 = (p : Int) := hpe0
  obtain ⟨j, hjl, hje0⟩ := idx_rem n 20 (by omega)
  have hje : (IntKind.u64.wrap n).tmod 20 = (j : Int) := hje0
  have hall := madeB_all ⟨src, dst, 6, sport, dport⟩ 9 0 [] allB_nil
  have hlen : (madeB ⟨src, dst, 6, sport, dport⟩ 9 0 []).length = 40 := by rw [madeB_length]; rfl
  have k1 := hk.src
  have k2 := hk.dst
  dsimp only at k1 k2
  obtain ⟨D1, hD1⟩ : ∃ D, D = buildB ⟨0, 0, 20 + (j : Int), 0, 0, 0, 9, 6, 0, src, dst⟩ := ⟨_, rfl⟩
  obtain ⟨D2, hD2⟩ : ∃ D, D = buildB ⟨0, 0, 40, 0, 0, 0, 9, (p : Int), 0, src, dst⟩ := ⟨_, rfl⟩
  have HS : Hid (∀ P : List Nat, P.length = j → whyT (D1 ++ P) = 9) := fun P hP => by
    rw [hD1]
    exact short_tells _ P (by show u64n (20 + (j : Int)) % 65536 = _; unfold u64n; omega) rfl rfl (by dsimp only; omega)
  have HO : Hid (∀ P : List Nat, P.length = 20 → (whyT (D2 ++ P) = 8 ↔ (p ≠ 6 ∧ p ≠ 17))) := fun P hP => by
    rw [hD2]
    exact other_tells _ P p hpl (by show u64n 40 % 65536 = _; rw [hP]; decide) rfl rfl rfl
  have hl1 : D1.length = 20 := by rw [hD1]; exact buildB_length _
  have hl2 : D2.length = 20 := by rw [hD2]; exact buildB_length _
  have ha1 : AllB D1 := by rw [hD1]; exact buildB_all _
  have ha2 : AllB D2 := by rw [hD2]; exact buildB_all _
  have CMT : Hid (∀ w', Calls Try.prog 28 #[.agg #[.int .u32 (src : Int), .int .u32 (dst : Int), .int .i64 6, .int .i64 sport, .int .i64 dport]] w' fun e w'' => e = .returned (.bool true) ∧ Below w'.heap.size w' w'') := fun w' => by
    have := maytuple_any ⟨src, dst, 6, sport, dport⟩ w'
    rw [hm] at this
    exact this
  have CM : Hid (∀ w', Calls Try.prog 23 #[.agg #[.int .u32 (src : Int), .int .u32 (dst : Int), .int .i64 6, .int .i64 sport, .int .i64 dport], .int .i64 9, .int .i64 0, .slice none 0 0] w' fun e w'' => MadeRet ⟨src, dst, 6, sport, dport⟩ 9 0 [] w' e w'') :=
    fun w' => made_any ⟨src, dst, 6, sport, dport⟩ 9 0 none 0 0 w'.heap.size [] w' hk (by omega) Reads.none_ (Nat.le_refl _) (by omega)
  have CB1 : Hid (∀ w', Calls Try.prog 19 #[.agg #[.int .i64 0, .int .i64 0, .int .i64 (20 + (j : Int)), .int .i64 0, .int .i64 0, .int .i64 0, .int .i64 9, .int .i64 6, .int .i64 0, .int .u32 (src : Int), .int .u32 (dst : Int)]] w' fun e w'' => ∃ A c', e = .returned (.slice A 20 c') ∧ w''.ownsRow w'.heap.size 5 1 (.slice A 20 c') 20 (bv D1) ∧ Below w'.heap.size w' w'') := fun w' => by
    rw [hD1]
    exact refbuild_any ⟨0, 0, 20 + (j : Int), 0, 0, 0, 9, 6, 0, src, dst⟩ w' ⟨by dsimp only; omega, by dsimp only; omega, by dsimp only; omega, by dsimp only; omega, by dsimp only; omega, by dsimp only; omega, by dsimp only; omega, by dsimp only; omega, by dsimp only; omega, k1, k2⟩
  have CB2 : Hid (∀ w', Calls Try.prog 19 #[.agg #[.int .i64 0, .int .i64 0, .int .i64 40, .int .i64 0, .int .i64 0, .int .i64 0, .int .i64 9, .int .i64 (p : Int), .int .i64 0, .int .u32 (src : Int), .int .u32 (dst : Int)]] w' fun e w'' => ∃ A c', e = .returned (.slice A 20 c') ∧ w''.ownsRow w'.heap.size 5 1 (.slice A 20 c') 20 (bv D2) ∧ Below w'.heap.size w' w'') := fun w' => by
    rw [hD2]
    exact refbuild_any ⟨0, 0, 40, 0, 0, 0, 9, (p : Int), 0, src, dst⟩ w' ⟨by dsimp only; omega, by dsimp only; omega, by dsimp only; omega, by dsimp only; omega, by dsimp only; omega, by dsimp only; omega, by dsimp only; omega, by dsimp only; omega, by dsimp only; omega, k1, k2⟩
  have CP1 : Hid (∀ A c w' P, P.length = j → AllB P → Reads w' w'.heap.size 1 A (20 + j) (bv (D1 ++ P)) → 20 + j ≤ c → Calls Try.prog 24 #[.slice A (20 + j) c] w' fun e w'' => e = .returned (.tuple #[.agg #[.int .u32 0, .int .u32 0, .int .i64 0, .int .i64 0, .int .i64 0], .agg #[.int .i64 0, .int .i64 0, .int .i64 0, .int .i64 0, .int .i64 0, .int .i64 0, .int .i64 0, .int .i64 0, .int .i64 0, .int .u32 0, .int .u32 0], .int .i64 9]) ∧ Below w'.heap.size w' w'') := by
    intro A c w' P h1 h2 h3 h4
    have hw := HS.out P h1
    have := ptuple_any A (20 + j) c w'.heap.size (D1 ++ P) w' h3 (Nat.le_refl _) (by omega) h4 (ha1.append h2)
    rw [tuT_no (by omega), hdT_no (by omega), hw] at this
    exact this
  have CP2 : Hid (∀ A c w' P, P.length = 20 → AllB P → Reads w' w'.heap.size 1 A 40 (bv (D2 ++ P)) → 40 ≤ c → Calls Try.prog 24 #[.slice A 40 c] w' fun e w'' => ∃ (t0 t1 : Nat) (t2 t3 t4 y0 y1 y2 y3 y4 y5 y6 y7 y8 : Int) (y9 y10 v : Nat), e = .returned (.tuple #[.agg #[.int .u32 (t0 : Int), .int .u32 (t1 : Int), .int .i64 t2, .int .i64 t3, .int .i64 t4], .agg #[.int .i64 y0, .int .i64 y1, .int .i64 y2, .int .i64 y3, .int .i64 y4, .int .i64 y5, .int .i64 y6, .int .i64 y7, .int .i64 y8, .int .u32 (y9 : Int), .int .u32 (y10 : Int)], .int .i64 (v : Int)]) ∧ (v = 8 ↔ (p ≠ 6 ∧ p ≠ 17)) ∧ Below w'.heap.size w' w'') := by
    intro A c w' P h1 h2 h3 h4
    refine (ptuple_any A 40 c w'.heap.size (D2 ++ P) w' h3 (Nat.le_refl _) (by omega) h4 (ha2.append h2)).mono ?_
    rintro e w'' ⟨rfl, hb⟩
    exact ⟨_, _, _, _, _, _, _, _, _, _, _, _, _, _, _, _, _, rfl, HO.out P h1, hb⟩
  have HL := Lib.hid (And.intro (And.intro hl1 hl2) hall)
  have HLL : Hid ((madeB ⟨src, dst, 6, sport, dport⟩ 9 0 []).length = 40) := hlen
  unfold MadeRet at CM
  rw [hlen] at CM
  clear hD1 hD2 hall hlen hl1 hl2 ha1 ha2 hm hk HS HO hpe0 hje0
  generalize madeB ⟨src, dst, 6, sport, dport⟩ 9 0 [] = D at *
  go_enter Try.func9, Try.ntmps9
  go_wp2_with fail
  have hB0 := (Below.refl w.heap.size w).alloc (Nat.le_refl _) (.cells #[.int .u32 (src : Int), .int .u32 (dst : Int), .int .i64 6, .int .i64 sport, .int .i64 dport] 43)
  have hq := Blk.new w 43 #[.int .u32 (src : Int), .int .u32 (dst : Int), .int .i64 6, .int .i64 sport, .int .i64 dport]
  refine (CMT.out _).mono ?_
  rintro e w1 ⟨rfl, hb1⟩
  have hB1 := hB0.trans (hb1.mono hB0.size)
  have hq1 := hq.below hb1 hq.lt
  obtain ⟨q, hqe⟩ : ∃ q, q = w.heap.size := ⟨_, rfl⟩
  rw [← hqe] at hq1 ⊢
  have HQ := Lib.hid hqe
  clear hqe hq hb1 hB0
  have c0 := hq1.cell 0
  have c1' := hq1.cell 1
  have c2' := hq1.cell 2
  have c3' := hq1.cell 3
  have c4' := hq1.cell 4
  simp only [List.getElem?_toArray, List.getElem?_cons_zero, List.getElem?_cons_succ] at c0 c1' c2' c3' c4'
  go_wp2_with fail
  refine (CM.out _).mono ?_
  rintro e w2 ⟨A2, N2, c2, rfl, rfl, hown2, hb2⟩
  obtain ⟨g, rfl, hg1, hg2⟩ := own_head hown2 (by omega)
  have hc2 := own_cap hown2
  have hB2 := hB1.trans (hb2.mono hB1.size)
  have hs2 := hB2.size
  have hq2 := hq1.below hb2 hq1.lt
  have HO2 := Lib.hid hown2
  clear c0 c1' c2' c3' c4' hq1 hb2 hown2 CM CMT hB1
  have c0 := hq2.cell 0
  have c1' := hq2.cell 1
  have c2' := hq2.cell 2
  simp only [List.getElem?_toArray, List.getElem?_cons_zero, List.getElem?_cons_succ] at c0 c1' c2'
  have hr2 := ((Reads.of_own HO2.out).takeb (k := 20 + j) (by omega)).cut (k := 20) (cap := c2) (by omega) (by omega)
  rw [if_neg (by omega)] at hr2
  simp only [Option.map_some, Addr.add_lit] at hr2
  have hP : Hid ((bv (List.take (20 + j) D)).drop (20 * 1) = bv ((D.take (20 + j)).drop 20)) := by show _ = _; simp [bv]
  rw [hP.out] at hr2
  have hPl : Hid (((D.take (20 + j)).drop 20).length = j) := by show _ = _; rw [List.length_drop, List.length_take, HLL.out]; omega
  have hPa : Hid (AllB ((D.take (20 + j)).drop 20)) := (HL.out.2.take _).drop _
  have hjj : 20 + j - 20 = j := by omega
  rw [hjj, show 0 + 20 * 1 = 20 from rfl] at hr2
  have HR2 := Lib.hid hr2
  have hw20 : IntKind.i64.wrap (20 + (j : Int)) = 20 + (j : Int) := IntWalk.i64_in _ (by omega)
  clear hr2 hjj hP
  have f1 : (0 : Int) ≤ 20 + (j : Int) := by omega
  have f2 : 20 + (j : Int) ≤ (c2 : Int) := by omega
  have f3 : max (20 + (j : Int)) 0 = 20 + (j : Int) := by omega
  have f4 : (20 : Int) ≤ 20 + (j : Int) := by omega
  have f5 : ¬ c2 = 20 := by omega
  have f6 : (20 + (j : Int)).toNat - 20 = j := by omega
  go_wp2_with fail
  have hqk := Lib.hid hq2
  have d0 : w2.drew.cell? ⟨q, 0, none⟩ = some (.int .u32 (src : Int)) := c0
  have d1 : w2.drew.cell? ⟨q, 1, none⟩ = some (.int .u32 (dst : Int)) := c1'
  have d2 : w2.drew.cell? ⟨q, 2, none⟩ = some (.int .i64 6) := c2'
  clear hq2
  go_region_held3 (fun wS => wS.cell? ⟨q, 0, none⟩ = some (.int .u32 (src : Int)) ∧ wS.cell? ⟨q, 1, none⟩ = some (.int .u32 (dst : Int)) ∧ wS.cell? ⟨q, 2, none⟩ = some (.int .i64 6)) (first | with_reducible exact ⟨d0, d1, d2⟩ | with_reducible exact ⟨z0, z1, z2⟩ | with_reducible exact ⟨y0, y1, y2⟩)
    (first
    | (go_at_call 19; (with_reducible refine (CB1.out _).mono ?_); rintro e w5 ⟨A5, c5, rfl, hown5, hb5⟩; have hbk := hqk.out.drew.below hb5 hqk.out.lt; have z0 := hbk.cell 0; have z1 := hbk.cell 1; have z2 := hbk.cell 2; simp only [List.getElem?_toArray, List.getElem?_cons_zero, List.getElem?_cons_succ] at z0 z1 z2)
    | (refine step_append_b rfl (.tmp 41) (.tmp 45) _ rfl 5 infoB Try.underlying25 w2.heap.size (.slice A5 20 c5) 20 D1 (by simp [Act.eval, Act.put]) hown5 w5.heap.size (some ⟨g, 20, none⟩) j (c2 - 20) _ (by simp [Act.eval, Act.put]) ((HR2.out.drew.below hb5).more hb5.size) (20 + j) rfl (by omega) hb5.size ?_; intro A6 c6 w6 hown6 hb6 _ _; have hbk6 := hbk.below hb6 hqk.out.lt; have y0 := hbk6.cell 0; have y1 := hbk6.cell 1; have y2 := hbk6.cell 2; simp only [List.getElem?_toArray, List.getElem?_cons_zero, List.getElem?_cons_succ] at y0 y1 y2))
  go_wp2_with fail
  have hb26 := (below_drew hb5).trans hb6
  have CPa := Lib.hid (CP1.out A6 c6 w6 _ hPl.out hPa.out (Reads.of_own hown6) (own_cap hown6))
  clear z0 z1 z2 y0 y1 y2 d0 d1 d2 c0 c1' c2' hown5 hown6 hb5 hb6 CB1 CP1 hbk f1 f2 f3 f4 f6 hw20
  refine CPa.out.mono ?_
  rintro e w7 ⟨rfl, hb7⟩
  have hb27 := hb26.trans (hb7.mono hb26.size)
  clear CPa hb7 hb26
  go_wp2_with fail
  have hb28 := (hb27.alloc hb27.size (.cells #[.int .u32 0, .int .u32 0, .int .i64 0, .int .i64 0, .int .i64 0] 43)).alloc (by have := hb27.size; simp; omega) (.cells #[.int .i64 0, .int .i64 0, .int .i64 0, .int .i64 0, .int .i64 0, .int .i64 0, .int .i64 0, .int .i64 0, .int .i64 0, .int .u32 0, .int .u32 0] 24)
  generalize (w7.alloc (.cells #[.int .u32 0, .int .u32 0, .int .i64 0, .int .i64 0, .int .i64 0] 43)).alloc (.cells #[.int .i64 0, .int .i64 0, .int .i64 0, .int .i64 0, .int .i64 0, .int .i64 0, .int .i64 0, .int .i64 0, .int .i64 0, .int .u32 0, .int .u32 0] 24) = w8 at *
  have hB8 := hB2.trans (hb28.mono hs2)
  have hq8 := hqk.out.below hb28 hqk.out.lt
  have hr8 := ((Reads.of_own HO2.out).below hb28).cut (k := 20) (cap := c2) (by omega) (by omega)
  rw [if_neg (by omega)] at hr8
  simp only [Option.map_some, Addr.add_lit] at hr8
  have hP8 : Hid ((bv D).drop (20 * 1) = bv (D.drop 20)) := by show _ = _; simp [bv]
  rw [hP8.out, show 0 + 20 * 1 = 20 from rfl] at hr8
  have HR8 := Lib.hid (hr8.more hb28.size)
  have hPl8 : Hid ((D.drop 20).length = 20) := by show _ = _; rw [List.length_drop, HLL.out]
  have hPa8 : Hid (AllB (D.drop 20)) := HL.out.2.drop _
  have d0 : w8.drew.cell? ⟨q, 0, none⟩ = some (.int .u32 (src : Int)) := by have := hq8.cell 0; simpa using this
  have d1 : w8.drew.cell? ⟨q, 1, none⟩ = some (.int .u32 (dst : Int)) := by have := hq8.cell 1; simpa using this
  have hqk8 := Lib.hid hq8
  have hs8 := hb28.size
  clear hr8 hP8 hq8 hb27
  go_region_held3 (fun wS => wS.cell? ⟨q, 0, none⟩ = some (.int .u32 (src : Int)) ∧ wS.cell? ⟨q, 1, none⟩ = some (.int .u32 (dst : Int))) (first | with_reducible exact ⟨d0, d1⟩ | with_reducible exact ⟨z0, z1⟩ | with_reducible exact ⟨y0, y1⟩)
    (first
    | (go_at_call 19; (with_reducible refine (CB2.out _).mono ?_); rintro e w9 ⟨A9, c9, rfl, hown9, hb9⟩; have hbk := hqk8.out.drew.below hb9 hqk8.out.lt; have z0 := hbk.cell 0; have z1 := hbk.cell 1; simp only [List.getElem?_toArray, List.getElem?_cons_zero, List.getElem?_cons_succ] at z0 z1)
    | (refine step_append_b rfl (.tmp 77) (.tmp 79) _ rfl 5 infoB Try.underlying25 w8.heap.size (.slice A9 20 c9) 20 D2 (by simp [Act.eval, Act.put]) hown9 w9.heap.size (some ⟨g, 20, none⟩) 20 (c2 - 20) _ (by simp [Act.eval, Act.put]) ((HR8.out.drew.below hb9).more hb9.size) 40 rfl (by omega) hb9.size ?_; intro A10 c10 w10 hown10 hb10 _ _; have hbk10 := hbk.below hb10 hqk8.out.lt; have y0 := hbk10.cell 0; have y1 := hbk10.cell 1; simp only [List.getElem?_toArray, List.getElem?_cons_zero, List.getElem?_cons_succ] at y0 y1))
  go_wp2_with fail
  have hb810 := (below_drew hb9).trans hb10
  have CPa := Lib.hid (CP2.out A10 c10 w10 _ hPl8.out hPa8.out (Reads.of_own hown10) (own_cap hown10))
  clear z0 z1 y0 y1 d0 d1 hown9 hown10 hb9 hb10 CB2 CP2 hbk f5
  refine CPa.out.mono ?_
  rintro e w11 ⟨t0, t1, t2, t3, t4, y0, y1, y2, y3, y4, y5, y6, y7, y8, y9, y10, v, rfl, hv, hb11⟩
  have hB11 := hB8.trans ((hb810.trans (hb11.mono hb810.size)).mono hB8.size)
  have hBf := Lib.hid (fun C C' => (hB11.alloc hB11.size (.cells C 43)).alloc (by have := hB11.size; simp; omega) (.cells C' 24))
  have HV := Lib.hid hv
  clear CPa hb11 hb810 hv hB11 hB8 hbk10 hqk8 HR8 hPl8 hPa8 hB2 hs2 hs8 HO2 hg1 hg2
  by_cases hp6 : p = 6
  · subst hp6
    have hv0 : ¬ v = 8 := by have := HV.out; omega
    have hb8 : ((v : Int) == 8) = false := by simp; omega
    clear hv0 HV
    go_wp2_with fail
    refine (awake21_any _).mono ?_
    rintro e w12 ⟨rfl, hb12⟩
    go_wp2_with fail
    go_ret
    exact ⟨rfl, (hBf.out _ _).trans (hb12.mono (hBf.out _ _).size)⟩
  · by_cases hp17 : p = 17
    · subst hp17
      have hv0 : ¬ v = 8 := by have := HV.out; omega
      have hb8 : ((v : Int) == 8) = false := by simp; omega
      clear hv0 HV
      go_wp2_with fail
      refine (awake21_any _).mono ?_
      rintro e w12 ⟨rfl, hb12⟩
      go_wp2_with fail
      go_ret
      exact ⟨rfl, (hBf.out _ _).trans (hb12.mono (hBf.out _ _).size)⟩
    · have hv0 : v = 8 := by have := HV.out; omega
      subst hv0
      have b6 : ((p : Int) == 6) = false := by simp; omega
      have b17 : ((p : Int) == 17) = false := by simp; omega
      have b6' : ((p : Int) != 6) = true := by simp; omega
      have b17' : ((p : Int) != 17) = true := by simp; omega
      clear hp6 hp17 HV
      go_wp2_with fail
      refine (awake21_any _).mono ?_
      rintro e w12 ⟨rfl, hb12⟩
      go_wp2_with fail
      go_ret
      exact ⟨rfl, (hBf.out _ _).trans (hb12.mono (hBf.out _ _).size)⟩

set_option maxHeartbeats 4000000 in
set_option maxRecDepth 100000 in
theorem short_17 (src dst : Nat) (sport dport : Int) (n pr : Int) (w : World) (hk : TuOk ⟨src, dst, 17, sport, dport⟩) (hm : mayTu ⟨src, dst, 17, sport, dport⟩ = true) :
    Calls Try.prog 9 #[.agg #[.int .u32 (src : Int), .int .u32 (dst : Int), .int .i64 17, .int .i64 sport, .int .i64 dport], .int .i64 n, .int .i64 pr] w fun e w' => e = .returned (.bool true) ∧ Below w.heap.size w w' := by
  obtain ⟨p, hpl, hpe0⟩ := idx_rem pr 256 (by omega)
  have hpe : (IntKind.u64.wrap pr).tmod 256 = (p : Int) := hpe0
  obtain ⟨j, hjl, hje0⟩ := idx_rem n 8 (by omega)
  have hje : (IntKind.u64.wrap n).tmod 8 = (j : Int) := hje0
  have hall := madeB_all ⟨src, dst, 17, sport, dport⟩ 9 0 [] allB_nil
  have hlen : (madeB ⟨src, dst, 17, sport, dport⟩ 9 0 []).length = 28 := by rw [madeB_length]; rfl
  have k1 := hk.src
  have k2 := hk.dst
  dsimp only at k1 k2
  obtain ⟨D1, hD1⟩ : ∃ D, D = buildB ⟨0, 0, 20 + (j : Int), 0, 0, 0, 9, 17, 0, src, dst⟩ := ⟨_, rfl⟩
  obtain ⟨D2, hD2⟩ : ∃ D, D = buildB ⟨0, 0, 28, 0, 0, 0, 9, (p : Int), 0, src, dst⟩ := ⟨_, rfl⟩
  have HS : Hid (∀ P : List Nat, P.length = j → whyT (D1 ++ P) = 9) := fun P hP => by
    rw [hD1]
    exact short_tells _ P (by show u64n (20 + (j : Int)) % 65536 = _; unfold u64n; omega) rfl rfl (by dsimp only; omega)
  have HO : Hid (∀ P : List Nat, P.length = 8 → (whyT (D2 ++ P) = 8 ↔ (p ≠ 6 ∧ p ≠ 17))) := fun P hP => by
    rw [hD2]
    exact other_tells _ P p hpl (by show u64n 28 % 65536 = _; rw [hP]; decide) rfl rfl rfl
  have hl1 : D1.length = 20 := by rw [hD1]; exact buildB_length _
  have hl2 : D2.length = 20 := by rw [hD2]; exact buildB_length _
  have ha1 : AllB D1 := by rw [hD1]; exact buildB_all _
  have ha2 : AllB D2 := by rw [hD2]; exact buildB_all _
  have CMT : Hid (∀ w', Calls Try.prog 28 #[.agg #[.int .u32 (src : Int), .int .u32 (dst : Int), .int .i64 17, .int .i64 sport, .int .i64 dport]] w' fun e w'' => e = .returned (.bool true) ∧ Below w'.heap.size w' w'') := fun w' => by
    have := maytuple_any ⟨src, dst, 17, sport, dport⟩ w'
    rw [hm] at this
    exact this
  have CM : Hid (∀ w', Calls Try.prog 23 #[.agg #[.int .u32 (src : Int), .int .u32 (dst : Int), .int .i64 17, .int .i64 sport, .int .i64 dport], .int .i64 9, .int .i64 0, .slice none 0 0] w' fun e w'' => MadeRet ⟨src, dst, 17, sport, dport⟩ 9 0 [] w' e w'') :=
    fun w' => made_any ⟨src, dst, 17, sport, dport⟩ 9 0 none 0 0 w'.heap.size [] w' hk (by omega) Reads.none_ (Nat.le_refl _) (by omega)
  have CB1 : Hid (∀ w', Calls Try.prog 19 #[.agg #[.int .i64 0, .int .i64 0, .int .i64 (20 + (j : Int)), .int .i64 0, .int .i64 0, .int .i64 0, .int .i64 9, .int .i64 17, .int .i64 0, .int .u32 (src : Int), .int .u32 (dst : Int)]] w' fun e w'' => ∃ A c', e = .returned (.slice A 20 c') ∧ w''.ownsRow w'.heap.size 5 1 (.slice A 20 c') 20 (bv D1) ∧ Below w'.heap.size w' w'') := fun w' => by
    rw [hD1]
    exact refbuild_any ⟨0, 0, 20 + (j : Int), 0, 0, 0, 9, 17, 0, src, dst⟩ w' ⟨by dsimp only; omega, by dsimp only; omega, by dsimp only; omega, by dsimp only; omega, by dsimp only; omega, by dsimp only; omega, by dsimp only; omega, by dsimp only; omega, by dsimp only; omega, k1, k2⟩
  have CB2 : Hid (∀ w', Calls Try.prog 19 #[.agg #[.int .i64 0, .int .i64 0, .int .i64 28, .int .i64 0, .int .i64 0, .int .i64 0, .int .i64 9, .int .i64 (p : Int), .int .i64 0, .int .u32 (src : Int), .int .u32 (dst : Int)]] w' fun e w'' => ∃ A c', e = .returned (.slice A 20 c') ∧ w''.ownsRow w'.heap.size 5 1 (.slice A 20 c') 20 (bv D2) ∧ Below w'.heap.size w' w'') := fun w' => by
    rw [hD2]
    exact refbuild_any ⟨0, 0, 28, 0, 0, 0, 9, (p : Int), 0, src, dst⟩ w' ⟨by dsimp only; omega, by dsimp only; omega, by dsimp only; omega, by dsimp only; omega, by dsimp only; omega, by dsimp only; omega, by dsimp only; omega, by dsimp only; omega, by dsimp only; omega, k1, k2⟩
  have CP1 : Hid (∀ A c w' P, P.length = j → AllB P → Reads w' w'.heap.size 1 A (20 + j) (bv (D1 ++ P)) → 20 + j ≤ c → Calls Try.prog 24 #[.slice A (20 + j) c] w' fun e w'' => e = .returned (.tuple #[.agg #[.int .u32 0, .int .u32 0, .int .i64 0, .int .i64 0, .int .i64 0], .agg #[.int .i64 0, .int .i64 0, .int .i64 0, .int .i64 0, .int .i64 0, .int .i64 0, .int .i64 0, .int .i64 0, .int .i64 0, .int .u32 0, .int .u32 0], .int .i64 9]) ∧ Below w'.heap.size w' w'') := by
    intro A c w' P h1 h2 h3 h4
    have hw := HS.out P h1
    have := ptuple_any A (20 + j) c w'.heap.size (D1 ++ P) w' h3 (Nat.le_refl _) (by omega) h4 (ha1.append h2)
    rw [tuT_no (by omega), hdT_no (by omega), hw] at this
    exact this
  have CP2 : Hid (∀ A c w' P, P.length = 8 → AllB P → Reads w' w'.heap.size 1 A 28 (bv (D2 ++ P)) → 28 ≤ c → Calls Try.prog 24 #[.slice A 28 c] w' fun e w'' => ∃ (t0 t1 : Nat) (t2 t3 t4 y0 y1 y2 y3 y4 y5 y6 y7 y8 : Int) (y9 y10 v : Nat), e = .returned (.tuple #[.agg #[.int .u32 (t0 : Int), .int .u32 (t1 : Int), .int .i64 t2, .int .i64 t3, .int .i64 t4], .agg #[.int .i64 y0, .int .i64 y1, .int .i64 y2, .int .i64 y3, .int .i64 y4, .int .i64 y5, .int .i64 y6, .int .i64 y7, .int .i64 y8, .int .u32 (y9 : Int), .int .u32 (y10 : Int)], .int .i64 (v : Int)]) ∧ (v = 8 ↔ (p ≠ 6 ∧ p ≠ 17)) ∧ Below w'.heap.size w' w'') := by
    intro A c w' P h1 h2 h3 h4
    refine (ptuple_any A 28 c w'.heap.size (D2 ++ P) w' h3 (Nat.le_refl _) (by omega) h4 (ha2.append h2)).mono ?_
    rintro e w'' ⟨rfl, hb⟩
    exact ⟨_, _, _, _, _, _, _, _, _, _, _, _, _, _, _, _, _, rfl, HO.out P h1, hb⟩
  have HL := Lib.hid (And.intro (And.intro hl1 hl2) hall)
  have HLL : Hid ((madeB ⟨src, dst, 17, sport, dport⟩ 9 0 []).length = 28) := hlen
  unfold MadeRet at CM
  rw [hlen] at CM
  clear hD1 hD2 hall hlen hl1 hl2 ha1 ha2 hm hk HS HO hpe0 hje0
  generalize madeB ⟨src, dst, 17, sport, dport⟩ 9 0 [] = D at *
  go_enter Try.func9, Try.ntmps9
  go_wp2_with fail
  have hB0 := (Below.refl w.heap.size w).alloc (Nat.le_refl _) (.cells #[.int .u32 (src : Int), .int .u32 (dst : Int), .int .i64 17, .int .i64 sport, .int .i64 dport] 43)
  have hq := Blk.new w 43 #[.int .u32 (src : Int), .int .u32 (dst : Int), .int .i64 17, .int .i64 sport, .int .i64 dport]
  refine (CMT.out _).mono ?_
  rintro e w1 ⟨rfl, hb1⟩
  have hB1 := hB0.trans (hb1.mono hB0.size)
  have hq1 := hq.below hb1 hq.lt
  obtain ⟨q, hqe⟩ : ∃ q, q = w.heap.size := ⟨_, rfl⟩
  rw [← hqe] at hq1 ⊢
  have HQ := Lib.hid hqe
  clear hqe hq hb1 hB0
  have c0 := hq1.cell 0
  have c1' := hq1.cell 1
  have c2' := hq1.cell 2
  have c3' := hq1.cell 3
  have c4' := hq1.cell 4
  simp only [List.getElem?_toArray, List.getElem?_cons_zero, List.getElem?_cons_succ] at c0 c1' c2' c3' c4'
  go_wp2_with fail
  refine (CM.out _).mono ?_
  rintro e w2 ⟨A2, N2, c2, rfl, rfl, hown2, hb2⟩
  obtain ⟨g, rfl, hg1, hg2⟩ := own_head hown2 (by omega)
  have hc2 := own_cap hown2
  have hB2 := hB1.trans (hb2.mono hB1.size)
  have hs2 := hB2.size
  have hq2 := hq1.below hb2 hq1.lt
  have HO2 := Lib.hid hown2
  clear c0 c1' c2' c3' c4' hq1 hb2 hown2 CM CMT hB1
  have c0 := hq2.cell 0
  have c1' := hq2.cell 1
  have c2' := hq2.cell 2
  simp only [List.getElem?_toArray, List.getElem?_cons_zero, List.getElem?_cons_succ] at c0 c1' c2'
  have hr2 := ((Reads.of_own HO2.out).takeb (k := 20 + j) (by omega)).cut (k := 20) (cap := c2) (by omega) (by omega)
  rw [if_neg (by omega)] at hr2
  simp only [Option.map_some, Addr.add_lit] at hr2
  have hP : Hid ((bv (List.take (20 + j) D)).drop (20 * 1) = bv ((D.take (20 + j)).drop 20)) := by show _ = _; simp [bv]
  rw [hP.out] at hr2
  have hPl : Hid (((D.take (20 + j)).drop 20).length = j) := by show _ = _; rw [List.length_drop, List.length_take, HLL.out]; omega
  have hPa : Hid (AllB ((D.take (20 + j)).drop 20)) := (HL.out.2.take _).drop _
  have hjj : 20 + j - 20 = j := by omega
  rw [hjj, show 0 + 20 * 1 = 20 from rfl] at hr2
  have HR2 := Lib.hid hr2
  have hw20 : IntKind.i64.wrap (20 + (j : Int)) = 20 + (j : Int) := IntWalk.i64_in _ (by omega)
  clear hr2 hjj hP
  have f1 : (0 : Int) ≤ 20 + (j : Int) := by omega
  have f2 : 20 + (j : Int) ≤ (c2 : Int) := by omega
  have f3 : max (20 + (j : Int)) 0 = 20 + (j : Int) := by omega
  have f4 : (20 : Int) ≤ 20 + (j : Int) := by omega
  have f5 : ¬ c2 = 20 := by omega
  have f6 : (20 + (j : Int)).toNat - 20 = j := by omega
  go_wp2_with fail
  have hqk := Lib.hid hq2
  have d0 : w2.drew.cell? ⟨q, 0, none⟩ = some (.int .u32 (src : Int)) := c0
  have d1 : w2.drew.cell? ⟨q, 1, none⟩ = some (.int .u32 (dst : Int)) := c1'
  have d2 : w2.drew.cell? ⟨q, 2, none⟩ = some (.int .i64 17) := c2'
  clear hq2
  go_region_held3 (fun wS => wS.cell? ⟨q, 0, none⟩ = some (.int .u32 (src : Int)) ∧ wS.cell? ⟨q, 1, none⟩ = some (.int .u32 (dst : Int)) ∧ wS.cell? ⟨q, 2, none⟩ = some (.int .i64 17)) (first | with_reducible exact ⟨d0, d1, d2⟩ | with_reducible exact ⟨z0, z1, z2⟩ | with_reducible exact ⟨y0, y1, y2⟩)
    (first
    | (go_at_call 19; (with_reducible refine (CB1.out _).mono ?_); rintro e w5 ⟨A5, c5, rfl, hown5, hb5⟩; have hbk := hqk.out.drew.below hb5 hqk.out.lt; have z0 := hbk.cell 0; have z1 := hbk.cell 1; have z2 := hbk.cell 2; simp only [List.getElem?_toArray, List.getElem?_cons_zero, List.getElem?_cons_succ] at z0 z1 z2)
    | (refine step_append_b rfl (.tmp 41) (.tmp 45) _ rfl 5 infoB Try.underlying25 w2.heap.size (.slice A5 20 c5) 20 D1 (by simp [Act.eval, Act.put]) hown5 w5.heap.size (some ⟨g, 20, none⟩) j (c2 - 20) _ (by simp [Act.eval, Act.put]) ((HR2.out.drew.below hb5).more hb5.size) (20 + j) rfl (by omega) hb5.size ?_; intro A6 c6 w6 hown6 hb6 _ _; have hbk6 := hbk.below hb6 hqk.out.lt; have y0 := hbk6.cell 0; have y1 := hbk6.cell 1; have y2 := hbk6.cell 2; simp only [List.getElem?_toArray, List.getElem?_cons_zero, List.getElem?_cons_succ] at y0 y1 y2))
  go_wp2_with fail
  have hb26 := (below_drew hb5).trans hb6
  have CPa := Lib.hid (CP1.out A6 c6 w6 _ hPl.out hPa.out (Reads.of_own hown6) (own_cap hown6))
  clear z0 z1 z2 y0 y1 y2 d0 d1 d2 c0 c1' c2' hown5 hown6 hb5 hb6 CB1 CP1 hbk f1 f2 f3 f4 f6 hw20
  refine CPa.out.mono ?_
  rintro e w7 ⟨rfl, hb7⟩
  have hb27 := hb26.trans (hb7.mono hb26.size)
  clear CPa hb7 hb26
  go_wp2_with fail
  have hb28 := (hb27.alloc hb27.size (.cells #[.int .u32 0, .int .u32 0, .int .i64 0, .int .i64 0, .int .i64 0] 43)).alloc (by have := hb27.size; simp; omega) (.cells #[.int .i64 0, .int .i64 0, .int .i64 0, .int .i64 0, .int .i64 0, .int .i64 0, .int .i64 0, .int .i64 0, .int .i64 0, .int .u32 0, .int .u32 0] 24)
  generalize (w7.alloc (.cells #[.int .u32 0, .int .u32 0, .int .i64 0, .int .i64 0, .int .i64 0] 43)).alloc (.cells #[.int .i64 0, .int .i64 0, .int .i64 0, .int .i64 0, .int .i64 0, .int .i64 0, .int .i64 0, .int .i64 0, .int .i64 0, .int .u32 0, .int .u32 0] 24) = w8 at *
  have hB8 := hB2.trans (hb28.mono hs2)
  have hq8 := hqk.out.below hb28 hqk.out.lt
  have hr8 := ((Reads.of_own HO2.out).below hb28).cut (k := 20) (cap := c2) (by omega) (by omega)
  rw [if_neg (by omega)] at hr8
  simp only [Option.map_some, Addr.add_lit] at hr8
  have hP8 : Hid ((bv D).drop (20 * 1) = bv (D.drop 20)) := by show _ = _; simp [bv]
  rw [hP8.out, show 0 + 20 * 1 = 20 from rfl] at hr8
  have HR8 := Lib.hid (hr8.more hb28.size)
  have hPl8 : Hid ((D.drop 20).length = 8) := by show _ = _; rw [List.length_drop, HLL.out]
  have hPa8 : Hid (AllB (D.drop 20)) := HL.out.2.drop _
  have d0 : w8.drew.cell? ⟨q, 0, none⟩ = some (.int .u32 (src : Int)) := by have := hq8.cell 0; simpa using this
  have d1 : w8.drew.cell? ⟨q, 1, none⟩ = some (.int .u32 (dst : Int)) := by have := hq8.cell 1; simpa using this
  have hqk8 := Lib.hid hq8
  have hs8 := hb28.size
  clear hr8 hP8 hq8 hb27
  go_region_held3 (fun wS => wS.cell? ⟨q, 0, none⟩ = some (.int .u32 (src : Int)) ∧ wS.cell? ⟨q, 1, none⟩ = some (.int .u32 (dst : Int))) (first | with_reducible exact ⟨d0, d1⟩ | with_reducible exact ⟨z0, z1⟩ | with_reducible exact ⟨y0, y1⟩)
    (first
    | (go_at_call 19; (with_reducible refine (CB2.out _).mono ?_); rintro e w9 ⟨A9, c9, rfl, hown9, hb9⟩; have hbk := hqk8.out.drew.below hb9 hqk8.out.lt; have z0 := hbk.cell 0; have z1 := hbk.cell 1; simp only [List.getElem?_toArray, List.getElem?_cons_zero, List.getElem?_cons_succ] at z0 z1)
    | (refine step_append_b rfl (.tmp 77) (.tmp 79) _ rfl 5 infoB Try.underlying25 w8.heap.size (.slice A9 20 c9) 20 D2 (by simp [Act.eval, Act.put]) hown9 w9.heap.size (some ⟨g, 20, none⟩) 8 (c2 - 20) _ (by simp [Act.eval, Act.put]) ((HR8.out.drew.below hb9).more hb9.size) 28 rfl (by omega) hb9.size ?_; intro A10 c10 w10 hown10 hb10 _ _; have hbk10 := hbk.below hb10 hqk8.out.lt; have y0 := hbk10.cell 0; have y1 := hbk10.cell 1; simp only [List.getElem?_toArray, List.getElem?_cons_zero, List.getElem?_cons_succ] at y0 y1))
  go_wp2_with fail
  have hb810 := (below_drew hb9).trans hb10
  have CPa := Lib.hid (CP2.out A10 c10 w10 _ hPl8.out hPa8.out (Reads.of_own hown10) (own_cap hown10))
  clear z0 z1 y0 y1 d0 d1 hown9 hown10 hb9 hb10 CB2 CP2 hbk f5
  refine CPa.out.mono ?_
  rintro e w11 ⟨t0, t1, t2, t3, t4, y0, y1, y2, y3, y4, y5, y6, y7, y8, y9, y10, v, rfl, hv, hb11⟩
  have hB11 := hB8.trans ((hb810.trans (hb11.mono hb810.size)).mono hB8.size)
  have hBf := Lib.hid (fun C C' => (hB11.alloc hB11.size (.cells C 43)).alloc (by have := hB11.size; simp; omega) (.cells C' 24))
  have HV := Lib.hid hv
  clear CPa hb11 hb810 hv hB11 hB8 hbk10 hqk8 HR8 hPl8 hPa8 hB2 hs2 hs8 HO2 hg1 hg2
  by_cases hp6 : p = 6
  · subst hp6
    have hv0 : ¬ v = 8 := by have := HV.out; omega
    have hb8 : ((v : Int) == 8) = false := by simp; omega
    clear hv0 HV
    go_wp2_with fail
    refine (awake21_any _).mono ?_
    rintro e w12 ⟨rfl, hb12⟩
    go_wp2_with fail
    go_ret
    exact ⟨rfl, (hBf.out _ _).trans (hb12.mono (hBf.out _ _).size)⟩
  · by_cases hp17 : p = 17
    · subst hp17
      have hv0 : ¬ v = 8 := by have := HV.out; omega
      have hb8 : ((v : Int) == 8) = false := by simp; omega
      clear hv0 HV
      go_wp2_with fail
      refine (awake21_any _).mono ?_
      rintro e w12 ⟨rfl, hb12⟩
      go_wp2_with fail
      go_ret
      exact ⟨rfl, (hBf.out _ _).trans (hb12.mono (hBf.out _ _).size)⟩
    · have hv0 : v = 8 := by have := HV.out; omega
      subst hv0
      have b6 : ((p : Int) == 6) = false := by simp; omega
      have b17 : ((p : Int) == 17) = false := by simp; omega
      have b6' : ((p : Int) != 6) = true := by simp; omega
      have b17' : ((p : Int) != 17) = true := by simp; omega
      clear hp6 hp17 HV
      go_wp2_with fail
      refine (awake21_any _).mono ?_
      rintro e w12 ⟨rfl, hb12⟩
      go_wp2_with fail
      go_ret
      exact ⟨rfl, (hBf.out _ _).trans (hb12.mono (hBf.out _ _).size)⟩

set_option maxHeartbeats 4000000 in
theorem lawWalk (k : Tu) (n pr : Int) (w : World) (hk : TuOk k) (hn : -9223372036854775808 ≤ n ∧ n ≤ 9223372036854775807) (hp : -9223372036854775808 ≤ pr ∧ pr ≤ 9223372036854775807) :
    Calls Try.prog 9 #[.agg k.vals, .int .i64 n, .int .i64 pr] w fun e w' => e = .returned (.bool true) ∧ Below w.heap.size w w' := by
  obtain ⟨src, dst, proto, sport, dport⟩ := k
  cases hm : mayTu ⟨src, dst, proto, sport, dport⟩ with
  | true =>
    rcases (mayTu_parts hm).1 with h | h
    · dsimp only at h
      subst h
      exact short_6 src dst sport dport n pr w hk hm
    · dsimp only at h
      subst h
      exact short_17 src dst sport dport n pr w hk hm
  | false =>
    have CM := Lib.hid (fun w' => maytuple_any ⟨src, dst, proto, sport, dport⟩ w')
    rw [hm] at CM
    unfold Tu.vals at CM ⊢
    dsimp only at CM ⊢
    clear hm
    go_enter Try.func9, Try.ntmps9
    go_wp2_with fail
    have hB0 := (Below.refl w.heap.size w).alloc (Nat.le_refl _) (.cells #[.int .u32 (src : Int), .int .u32 (dst : Int), .int .i64 proto, .int .i64 sport, .int .i64 dport] 43)
    refine (CM.out _).mono ?_
    rintro e w1 ⟨rfl, hb1⟩
    have hB1 := hB0.trans (hb1.mono hB0.size)
    clear hB0 hb1 CM
    go_wp2_with fail
    refine (awake21_any _).mono ?_
    rintro e w2 ⟨rfl, hb2⟩
    go_wp2_with fail
    go_ret
    exact ⟨rfl, hB1.trans (hb2.mono hB1.size)⟩
end Go.Proofs.Ytpgbldpppdmdoaa.portsShort
