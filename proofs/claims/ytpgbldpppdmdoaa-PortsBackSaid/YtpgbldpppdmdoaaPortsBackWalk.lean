/- The walk of PortsBack (wip/genback.py). -/
import Derived.Test.YtpgbldpppdmdoaaMayTu
import Derived.Test.YtpgbldpppdmdoaaAwake21
import Derived.Deep.RegionHeld3
namespace Go.Proofs.Ytpgbldpppdmdoaa.portsBack
set_option linter.unusedVariables false
set_option linter.unusedSimpArgs false
open Go.RowKit

set_option maxHeartbeats 4000000 in
set_option maxRecDepth 100000 in
theorem back_e (src dst : Nat) (sport dport : Int) (osrc odst : Nat) (opr osp odp : Int) (ttl flags : Int) (A : Option Addr) (n c B : Nat) (l : List Nat) (w : World) (hk : TuOk ⟨src, dst, 6, sport, dport⟩) (hm : mayTu ⟨src, dst, 6, sport, dport⟩ = true) (httl : -9223372036854775808 ≤ ttl ∧ ttl ≤ 9223372036854775807) (hr : Reads w B 1 A n (bv l)) (hB : B ≤ w.heap.size) (hn : n ≤ 1000) (ha : AllB l) (hzz : (u64n flags % 256) &&& 5 ≠ 0) :
    Calls Try.prog 8 #[.agg #[.int .u32 (src : Int), .int .u32 (dst : Int), .int .i64 6, .int .i64 sport, .int .i64 dport], .agg #[.int .u32 (osrc : Int), .int .u32 (odst : Int), .int .i64 opr, .int .i64 osp, .int .i64 odp], .int .i64 ttl, .int .i64 flags, .slice A n c] w fun e w' => e = .returned (.bool true) ∧ Below w.heap.size w w' := by
  have hll := hr.length
  obtain ⟨hwy, htp⟩ := made_tells ⟨src, dst, 6, sport, dport⟩ ttl flags l hk hm (by omega)
  have hall := madeB_all ⟨src, dst, 6, sport, dport⟩ ttl flags l ha
  have hlen : (madeB ⟨src, dst, 6, sport, dport⟩ ttl flags l).length = 40 + n := by rw [madeB_length, hll]; show 20 + (20 + n) = _; omega
  have hlP := madeB_lenP ⟨src, dst, 6, sport, dport⟩ ttl flags l (by omega)
  have hem := fun o => ends_made ⟨src, dst, 6, sport, dport⟩ o ttl flags l hk hm (by omega)
  have htt := madeB_ttl ⟨src, dst, 6, sport, dport⟩ ttl flags l
  have k1 := hk.src
  have k2 := hk.dst
  dsimp only at k1 k2
  obtain ⟨T, hT⟩ : ∃ T, T = u64n ttl % 256 := ⟨_, rfl⟩
  have hm255 : bits BinOp.and IntKind.i64 ttl 255 = (T : Int) := by
    have := i64_and_mask 8 (by omega) ttl
    rw [show (((2 ^ 8 - 1 : Nat) : Nat) : Int) = 255 from rfl] at this
    rw [this, hT]
    unfold u64n
    omega
  obtain ⟨z, hz⟩ : ∃ z, z = (u64n flags % 256) &&& 5 := ⟨_, rfl⟩
  have hz5 : bits BinOp.and IntKind.i64 flags 5 = (z : Int) := by rw [i64_and5, hz]
  have hzb : ((z : Int) != 0) = true := by simp; omega
  have hzb' : ((z : Int) == 0) = false := by simp; omega
  clear hz
  have HEk : Hid (endsL ⟨src, dst, 6, sport, dport⟩ (madeB ⟨src, dst, 6, sport, dport⟩ ttl flags l) = true) := by
    show _ = _
    rw [hem]
    exact decide_eq_true ⟨rfl, rfl, hzz⟩
  have HEo : Hid (∀ o : Tu, o ≠ ⟨src, dst, 6, sport, dport⟩ → endsL o (madeB ⟨src, dst, 6, sport, dport⟩ ttl flags l) = false) := by
    intro o ho
    rw [hem]
    exact decide_eq_false (fun h => ho h.1)
  obtain ⟨D1, hD1⟩ : ∃ D, D = buildB ⟨0, 0, 40 + (n : Int), 0, 1, 0, ttl, 6, 0, src, dst⟩ := ⟨_, rfl⟩
  have hl1 : D1.length = 20 := by rw [hD1]; exact buildB_length _
  have ha1 : AllB D1 := by rw [hD1]; exact buildB_all _
  have CMT : Hid (∀ w', Calls Try.prog 28 #[.agg #[.int .u32 (src : Int), .int .u32 (dst : Int), .int .i64 6, .int .i64 sport, .int .i64 dport]] w' fun e w'' => e = .returned (.bool true) ∧ Below w'.heap.size w' w'') := fun w' => by
    have := maytuple_any ⟨src, dst, 6, sport, dport⟩ w'
    rw [hm] at this
    exact this
  have CM : Hid (∀ w', Below w.heap.size w w' → Calls Try.prog 23 #[.agg #[.int .u32 (src : Int), .int .u32 (dst : Int), .int .i64 6, .int .i64 sport, .int .i64 dport], .int .i64 ttl, .int .i64 flags, .slice A n c] w' fun e w'' => MadeRet ⟨src, dst, 6, sport, dport⟩ ttl flags l w' e w'') :=
    fun w' hb => made_any ⟨src, dst, 6, sport, dport⟩ ttl flags A n c w'.heap.size l w' hk httl ((hr.below (hb.mono hB)).more (Nat.le_trans hB hb.size)) (Nat.le_refl _) (by omega)
  have CB1 : Hid (∀ w', Calls Try.prog 19 #[.agg #[.int .i64 0, .int .i64 0, .int .i64 (40 + (n : Int)), .int .i64 0, .int .i64 1, .int .i64 0, .int .i64 ttl, .int .i64 6, .int .i64 0, .int .u32 (src : Int), .int .u32 (dst : Int)]] w' fun e w'' => ∃ A c', e = .returned (.slice A 20 c') ∧ w''.ownsRow w'.heap.size 5 1 (.slice A 20 c') 20 (bv D1) ∧ Below w'.heap.size w' w'') := fun w' => by
    rw [hD1]
    exact refbuild_any ⟨0, 0, 40 + (n : Int), 0, 1, 0, ttl, 6, 0, src, dst⟩ w' ⟨by dsimp only; omega, by dsimp only; omega, by dsimp only; omega, by dsimp only; omega, by dsimp only; omega, by dsimp only; omega, httl, by dsimp only; omega, by dsimp only; omega, k1, k2⟩
  have CP1 : Hid (∀ A c w' P, P.length = 20 + n → AllB P → Reads w' w'.heap.size 1 A (40 + n) (bv (D1 ++ P)) → 40 + n ≤ c → Calls Try.prog 24 #[.slice A (40 + n) c] w' fun e w'' => e = .returned (.tuple #[.agg #[.int .u32 0, .int .u32 0, .int .i64 0, .int .i64 0, .int .i64 0], .agg #[.int .i64 0, .int .i64 0, .int .i64 0, .int .i64 0, .int .i64 0, .int .i64 0, .int .i64 0, .int .i64 0, .int .i64 0, .int .u32 0, .int .u32 0], .int .i64 6]) ∧ Below w'.heap.size w' w'') := by
    intro A c w' P h1 h2 h3 h4
    have hw : whyT (D1 ++ P) = 6 := by
      rw [hD1]
      exact part_tells _ P (by show u64n (40 + (n : Int)) % 65536 = _; unfold u64n; omega) rfl rfl
    have := ptuple_any A (40 + n) c w'.heap.size (D1 ++ P) w' h3 (Nat.le_refl _) (by omega) h4 (ha1.append h2)
    rw [tuT_no (by omega), hdT_no (by omega), hw] at this
    exact this
  obtain ⟨y0, y1, y2, y3, y4, y5, y6, y7, y8, y9, y10, hv, h2, h6⟩ := hdT_names (madeB ⟨src, dst, 6, sport, dport⟩ ttl flags l)
  rw [hdT_yes hwy] at h2 h6
  have h2' : y2 = 40 + (n : Int) := h2.trans (by show ((lenP _ : Nat) : Int) = _; rw [hlP, hlen]; omega)
  have h6' : y6 = (T : Int) := h6.trans (by show ((at' _ 8 : Nat) : Int) = _; rw [htt, hT])
  clear h2 h6
  subst h2' h6'
  have HHV := Lib.hid hv
  have HTV : Hid ((tuT (madeB ⟨src, dst, 6, sport, dport⟩ ttl flags l)).vals = #[.int .u32 (src : Int), .int .u32 (dst : Int), .int .i64 6, .int .i64 sport, .int .i64 dport]) := by show _ = _; rw [tuT_yes hwy, htp]; rfl
  have HY := Lib.hid hwy
  have CP0 := Lib.hid (fun A c w' h3 h4 => ptuple_any A (40 + n) c w'.heap.size (madeB ⟨src, dst, 6, sport, dport⟩ ttl flags l) w' h3 (Nat.le_refl _) (by omega) h4 hall)
  rw [HTV.out, HHV.out, HY.out] at CP0
  have CE0 := Lib.hid (fun (o : Tu) A c w' h3 h4 => ends_any o A (40 + n) c w'.heap.size (madeB ⟨src, dst, 6, sport, dport⟩ ttl flags l) w' h3 (Nat.le_refl _) (by omega) h4 hall)
  have HL := Lib.hid (And.intro hl1 hall)
  have HLL : Hid ((madeB ⟨src, dst, 6, sport, dport⟩ ttl flags l).length = 40 + n) := hlen
  unfold MadeRet at CM
  rw [hlen] at CM
  clear hD1 hall hlen hl1 ha1 hm hk hwy htp hlP hem htt hT hv httl hr ha hll
  generalize madeB ⟨src, dst, 6, sport, dport⟩ ttl flags l = D at *
  have CEk : Hid (∀ A c w', Reads w' w'.heap.size 1 A (40 + n) (bv D) → 40 + n ≤ c → Calls Try.prog 26 #[.agg #[.int .u32 (src : Int), .int .u32 (dst : Int), .int .i64 6, .int .i64 sport, .int .i64 dport], .slice A (40 + n) c] w' fun e w'' => e = .returned (.bool true) ∧ Below w'.heap.size w' w'') := by
    intro A c w' h3 h4
    have := CE0.out ⟨src, dst, 6, sport, dport⟩ A c w' h3 h4
    rw [HEk.out] at this
    exact this
  have CEo : Hid (∀ A c w' b, endsL ⟨osrc, odst, opr, osp, odp⟩ D = b → Reads w' w'.heap.size 1 A (40 + n) (bv D) → 40 + n ≤ c → Calls Try.prog 26 #[.agg #[.int .u32 (osrc : Int), .int .u32 (odst : Int), .int .i64 opr, .int .i64 osp, .int .i64 odp], .slice A (40 + n) c] w' fun e w'' => e = .returned (.bool b) ∧ Below w'.heap.size w' w'') := by
    intro A c w' b hb h3 h4
    have := CE0.out ⟨osrc, odst, opr, osp, odp⟩ A c w' h3 h4
    rw [hb] at this
    exact this
  clear CE0
  have hd1 : decide ((1000 : Int) < (n : Int)) = false := decide_eq_false (by omega)
  go_enter Try.func8, Try.ntmps8
  go_wp2_with fail
  have hB0 := ((Below.refl w.heap.size w).alloc (Nat.le_refl _) (.cells #[.int .u32 (src : Int), .int .u32 (dst : Int), .int .i64 6, .int .i64 sport, .int .i64 dport] 43)).alloc (by simp) (.cells #[.int .u32 (osrc : Int), .int .u32 (odst : Int), .int .i64 opr, .int .i64 osp, .int .i64 odp] 43)
  have hq := (Blk.new w 43 #[.int .u32 (src : Int), .int .u32 (dst : Int), .int .i64 6, .int .i64 sport, .int .i64 dport]).alloc (.cells #[.int .u32 (osrc : Int), .int .u32 (odst : Int), .int .i64 opr, .int .i64 osp, .int .i64 odp] 43)
  have ho : Blk ((w.alloc (.cells #[.int .u32 (src : Int), .int .u32 (dst : Int), .int .i64 6, .int .i64 sport, .int .i64 dport] 43)).alloc (.cells #[.int .u32 (osrc : Int), .int .u32 (odst : Int), .int .i64 opr, .int .i64 osp, .int .i64 odp] 43)) (w.heap.size + 1) 43 #[.int .u32 (osrc : Int), .int .u32 (odst : Int), .int .i64 opr, .int .i64 osp, .int .i64 odp] := Blk.new_ (by simp)
  refine (CMT.out _).mono ?_
  rintro e w1 ⟨rfl, hb1⟩
  have hB1 := hB0.trans (hb1.mono hB0.size)
  have hq1 := hq.below hb1 hq.lt
  have ho1 := ho.below hb1 ho.lt
  have CM1 := Lib.hid (CM.out w1 hB1)
  obtain ⟨q, hqe⟩ : ∃ q, q = w.heap.size := ⟨_, rfl⟩
  rw [← hqe] at hq1 ho1 ⊢
  have HQ := Lib.hid hqe
  clear hqe hq hb1 hB0 ho CM CMT
  have c0 := hq1.cell 0
  have c1' := hq1.cell 1
  have c2' := hq1.cell 2
  have c3' := hq1.cell 3
  have c4' := hq1.cell 4
  simp only [List.getElem?_toArray, List.getElem?_cons_zero, List.getElem?_cons_succ] at c0 c1' c2' c3' c4'
  go_wp2_with fail
  refine CM1.out.mono ?_
  rintro e w2 ⟨A2, N2, c2, rfl, rfl, hown2, hb2⟩
  obtain ⟨g, rfl, hg1, hg2⟩ := own_head hown2 (by omega)
  have hc2 := own_cap hown2
  have hB2 := hB1.trans (hb2.mono hB1.size)
  have hs2 := hB2.size
  have hq2 := hq1.below hb2 hq1.lt
  have ho2 := ho1.below hb2 ho1.lt
  have CPa := Lib.hid (CP0.out (some ⟨g, 0, none⟩) c2 w2 (Reads.of_own hown2) hc2)
  have HO2 := Lib.hid hown2
  clear c0 c1' c2' c3' c4' hq1 ho1 hb2 hown2 CM1 hB1 CP0
  go_wp2_with fail
  refine CPa.out.mono ?_
  rintro e w3 ⟨rfl, hb3⟩
  have hb4 := (hb3.alloc hb3.size (.cells #[.int .u32 (src : Int), .int .u32 (dst : Int), .int .i64 6, .int .i64 sport, .int .i64 dport] 43)).alloc (by have := hb3.size; simp; omega) (.cells #[.int .i64 y0, .int .i64 y1, .int .i64 (40 + (n : Int)), .int .i64 y3, .int .i64 y4, .int .i64 y5, .int .i64 (T : Int), .int .i64 y7, .int .i64 y8, .int .u32 (y9 : Int), .int .u32 (y10 : Int)] 24)
  have ht4 := (Blk.new w3 43 #[.int .u32 (src : Int), .int .u32 (dst : Int), .int .i64 6, .int .i64 sport, .int .i64 dport]).alloc (.cells #[.int .i64 y0, .int .i64 y1, .int .i64 (40 + (n : Int)), .int .i64 y3, .int .i64 y4, .int .i64 y5, .int .i64 (T : Int), .int .i64 y7, .int .i64 y8, .int .u32 (y9 : Int), .int .u32 (y10 : Int)] 24)
  have hh4 : Blk ((w3.alloc (.cells #[.int .u32 (src : Int), .int .u32 (dst : Int), .int .i64 6, .int .i64 sport, .int .i64 dport] 43)).alloc (.cells #[.int .i64 y0, .int .i64 y1, .int .i64 (40 + (n : Int)), .int .i64 y3, .int .i64 y4, .int .i64 y5, .int .i64 (T : Int), .int .i64 y7, .int .i64 y8, .int .u32 (y9 : Int), .int .u32 (y10 : Int)] 24)) (w3.heap.size + 1) 24 #[.int .i64 y0, .int .i64 y1, .int .i64 (40 + (n : Int)), .int .i64 y3, .int .i64 y4, .int .i64 y5, .int .i64 (T : Int), .int .i64 y7, .int .i64 y8, .int .u32 (y9 : Int), .int .u32 (y10 : Int)] := Blk.new_ (by simp)
  have hq4 := hq2.below hb4 hq2.lt
  have ho4 := ho2.below hb4 ho2.lt
  have hB4 := hB2.trans (hb4.mono hs2)
  have HO4 := Lib.hid (own_below HO2.out hb4)
  have c2' := hq4.cell 2
  simp only [List.getElem?_toArray, List.getElem?_cons_zero, List.getElem?_cons_succ] at c2'
  have HB4 := Lib.hid hB4
  clear CPa hb3 hB2 hq2 ho2 HO2 hb4 hB4
  go_upto_region 6 with (fail)
  obtain ⟨q3, hq3⟩ : ∃ q3, q3 = w3.heap.size := ⟨_, rfl⟩
  rw [← hq3] at ht4 hh4 ⊢
  clear hq3
  generalize (w3.alloc (.cells #[.int .u32 (src : Int), .int .u32 (dst : Int), .int .i64 6, .int .i64 sport, .int .i64 dport] 43)).alloc (.cells #[.int .i64 y0, .int .i64 y1, .int .i64 (40 + (n : Int)), .int .i64 y3, .int .i64 y4, .int .i64 y5, .int .i64 (T : Int), .int .i64 y7, .int .i64 y8, .int .u32 (y9 : Int), .int .u32 (y10 : Int)] 24) = w4 at *
  go_cut [80] (fun v wx => v = .bool false ∧ Below w4.heap.size w4 wx)
  case first =>
    have hr4 := Reads.of_own HO4.out
    have CE1 := Lib.hid (CEk.out (some ⟨g, 0, none⟩) c2 w4 hr4 hc2)
    have CE2 := Lib.hid (fun w' b hb' (hb : Below w4.heap.size w4 w') => CEo.out (some ⟨g, 0, none⟩) c2 w' b hb' ((hr4.below hb).more hb.size) hc2)
    have a0 := ht4.cell 0
    have a1 := ht4.cell 1
    have a2 := ht4.cell 2
    have a3 := ht4.cell 3
    have a4 := ht4.cell 4
    have b0 := hq4.cell 0
    have b1 := hq4.cell 1
    have b3 := hq4.cell 3
    have b4 := hq4.cell 4
    have h6c := hh4.cell 6
    simp only [List.getElem?_toArray, List.getElem?_cons_zero, List.getElem?_cons_succ] at a0 a1 a2 a3 a4 b0 b1 b3 b4 h6c
    clear hr4 CEk CEo CP1 CB1 hh4 ht4
    go_wp2_with fail
    refine CE1.out.mono ?_
    rintro e w5 ⟨rfl, hb5⟩
    have hq5 := hq4.below hb5 hq4.lt
    have ho5 := ho4.below hb5 ho4.lt
    have o0 := ho5.cell 0
    have o1 := ho5.cell 1
    have o2 := ho5.cell 2
    have o3 := ho5.cell 3
    have o4 := ho5.cell 4
    simp only [List.getElem?_toArray, List.getElem?_cons_zero, List.getElem?_cons_succ] at o0 o1 o2 o3 o4
    clear a0 a1 a2 a3 a4 b0 b1 b3 b4 c2' h6c hq4 ho4 CE1
    by_cases h0 : osrc = src
    case neg =>
      have ne : ¬ (osrc : Int) = (src : Int) := by omega
      have CE3 := Lib.hid (CE2.out w5 false (HEo.out _ (fun h => by injection h with h1 h2 h3 h4 h5; exact absurd h1 (by omega))) hb5)
      clear CE2
      go_wp2_with fail
      refine CE3.out.mono ?_
      rintro e w6 ⟨rfl, hb6⟩
      have hb46 := hb5.trans (hb6.mono hb5.size)
      have hq6 := hq5.below hb6 hq5.lt
      have ho6 := ho5.below hb6 ho5.lt
      clear o0 o1 o2 o3 o4 CE3 hb5 hb6 hq5 ho5
      have o0 := ho6.cell 0
      have o1 := ho6.cell 1
      have o2 := ho6.cell 2
      have o3 := ho6.cell 3
      have o4 := ho6.cell 4
      have p0 := hq6.cell 0
      have p1 := hq6.cell 1
      have p2 := hq6.cell 2
      have p3 := hq6.cell 3
      have p4 := hq6.cell 4
      simp only [List.getElem?_toArray, List.getElem?_cons_zero, List.getElem?_cons_succ] at o0 o1 o2 o3 o4 p0 p1 p2 p3 p4
      clear hq6 ho6
      go_wp2_with fail
      go_meet
      exact ⟨rfl, hb46⟩
    case pos =>
      subst h0
      by_cases h1 : odst = dst
      case neg =>
        have ne : ¬ (odst : Int) = (dst : Int) := by omega
        have CE3 := Lib.hid (CE2.out w5 false (HEo.out _ (fun h => by injection h with h1 h2 h3 h4 h5; exact absurd h2 (by omega))) hb5)
        clear CE2
        go_wp2_with fail
        refine CE3.out.mono ?_
        rintro e w6 ⟨rfl, hb6⟩
        have hb46 := hb5.trans (hb6.mono hb5.size)
        have hq6 := hq5.below hb6 hq5.lt
        have ho6 := ho5.below hb6 ho5.lt
        clear o0 o1 o2 o3 o4 CE3 hb5 hb6 hq5 ho5
        have o0 := ho6.cell 0
        have o1 := ho6.cell 1
        have o2 := ho6.cell 2
        have o3 := ho6.cell 3
        have o4 := ho6.cell 4
        have p0 := hq6.cell 0
        have p1 := hq6.cell 1
        have p2 := hq6.cell 2
        have p3 := hq6.cell 3
        have p4 := hq6.cell 4
        simp only [List.getElem?_toArray, List.getElem?_cons_zero, List.getElem?_cons_succ] at o0 o1 o2 o3 o4 p0 p1 p2 p3 p4
        clear hq6 ho6
        go_wp2_with fail
        go_meet
        exact ⟨rfl, hb46⟩
      case pos =>
        subst h1
        by_cases h2 : opr = 6
        case neg =>
          have ne : ¬ opr = 6 := by omega
          have CE3 := Lib.hid (CE2.out w5 false (HEo.out _ (fun h => by injection h with h1 h2 h3 h4 h5; exact absurd h3 (by omega))) hb5)
          clear CE2
          go_wp2_with fail
          refine CE3.out.mono ?_
          rintro e w6 ⟨rfl, hb6⟩
          have hb46 := hb5.trans (hb6.mono hb5.size)
          have hq6 := hq5.below hb6 hq5.lt
          have ho6 := ho5.below hb6 ho5.lt
          clear o0 o1 o2 o3 o4 CE3 hb5 hb6 hq5 ho5
          have o0 := ho6.cell 0
          have o1 := ho6.cell 1
          have o2 := ho6.cell 2
          have o3 := ho6.cell 3
          have o4 := ho6.cell 4
          have p0 := hq6.cell 0
          have p1 := hq6.cell 1
          have p2 := hq6.cell 2
          have p3 := hq6.cell 3
          have p4 := hq6.cell 4
          simp only [List.getElem?_toArray, List.getElem?_cons_zero, List.getElem?_cons_succ] at o0 o1 o2 o3 o4 p0 p1 p2 p3 p4
          clear hq6 ho6
          go_wp2_with fail
          go_meet
          exact ⟨rfl, hb46⟩
        case pos =>
          subst h2
          by_cases h3 : osp = sport
          case neg =>
            have ne : ¬ osp = sport := by omega
            have CE3 := Lib.hid (CE2.out w5 false (HEo.out _ (fun h => by injection h with h1 h2 h3 h4 h5; exact absurd h4 (by omega))) hb5)
            clear CE2
            go_wp2_with fail
            refine CE3.out.mono ?_
            rintro e w6 ⟨rfl, hb6⟩
            have hb46 := hb5.trans (hb6.mono hb5.size)
            have hq6 := hq5.below hb6 hq5.lt
            have ho6 := ho5.below hb6 ho5.lt
            clear o0 o1 o2 o3 o4 CE3 hb5 hb6 hq5 ho5
            have o0 := ho6.cell 0
            have o1 := ho6.cell 1
            have o2 := ho6.cell 2
            have o3 := ho6.cell 3
            have o4 := ho6.cell 4
            have p0 := hq6.cell 0
            have p1 := hq6.cell 1
            have p2 := hq6.cell 2
            have p3 := hq6.cell 3
            have p4 := hq6.cell 4
            simp only [List.getElem?_toArray, List.getElem?_cons_zero, List.getElem?_cons_succ] at o0 o1 o2 o3 o4 p0 p1 p2 p3 p4
            clear hq6 ho6
            go_wp2_with fail
            go_meet
            exact ⟨rfl, hb46⟩
          case pos =>
            subst h3
            by_cases h4 : odp = dport
            case neg =>
              have ne : ¬ odp = dport := by omega
              have CE3 := Lib.hid (CE2.out w5 false (HEo.out _ (fun h => by injection h with h1 h2 h3 h4 h5; exact absurd h5 (by omega))) hb5)
              clear CE2
              go_wp2_with fail
              refine CE3.out.mono ?_
              rintro e w6 ⟨rfl, hb6⟩
              have hb46 := hb5.trans (hb6.mono hb5.size)
              have hq6 := hq5.below hb6 hq5.lt
              have ho6 := ho5.below hb6 ho5.lt
              clear o0 o1 o2 o3 o4 CE3 hb5 hb6 hq5 ho5
              have o0 := ho6.cell 0
              have o1 := ho6.cell 1
              have o2 := ho6.cell 2
              have o3 := ho6.cell 3
              have o4 := ho6.cell 4
              have p0 := hq6.cell 0
              have p1 := hq6.cell 1
              have p2 := hq6.cell 2
              have p3 := hq6.cell 3
              have p4 := hq6.cell 4
              simp only [List.getElem?_toArray, List.getElem?_cons_zero, List.getElem?_cons_succ] at o0 o1 o2 o3 o4 p0 p1 p2 p3 p4
              clear hq6 ho6
              go_wp2_with fail
              go_meet
              exact ⟨rfl, hb46⟩
            case pos =>
              subst h4
              have CE3 := Lib.hid (CE2.out w5 true (HEk.out) hb5)
              clear CE2
              go_wp2_with fail
              refine CE3.out.mono ?_
              rintro e w6 ⟨rfl, hb6⟩
              have hb46 := hb5.trans (hb6.mono hb5.size)
              have hq6 := hq5.below hb6 hq5.lt
              have ho6 := ho5.below hb6 ho5.lt
              clear o0 o1 o2 o3 o4 CE3 hb5 hb6 hq5 ho5
              have o0 := ho6.cell 0
              have o1 := ho6.cell 1
              have o2 := ho6.cell 2
              have o3 := ho6.cell 3
              have o4 := ho6.cell 4
              have p0 := hq6.cell 0
              have p1 := hq6.cell 1
              have p2 := hq6.cell 2
              have p3 := hq6.cell 3
              have p4 := hq6.cell 4
              simp only [List.getElem?_toArray, List.getElem?_cons_zero, List.getElem?_cons_succ] at o0 o1 o2 o3 o4 p0 p1 p2 p3 p4
              clear hq6 ho6
              go_wp2_with fail
              go_meet
              exact ⟨rfl, hb46⟩
  case rest =>
    obtain ⟨rfl, hb5⟩ := hcut
    have hq5 := hq4.below hb5 hq4.lt
    have hh5 := hh4.below hb5 hh4.lt
    have HO5 := Lib.hid (own_below HO4.out hb5)
    have hB5 := HB4.out.trans (hb5.mono HB4.out.size)
    have hs5 := hB5.size
    clear c2' CEk CEo hq4 hh4 ho4 ht4 HO4 hb5 HB4
    have hr2 := (Reads.of_own HO5.out).cut (k := 20) (cap := c2) (by omega) (by omega)
    rw [if_neg (by omega)] at hr2
    simp only [Option.map_some, Addr.add_lit] at hr2
    have hP : Hid ((bv D).drop (20 * 1) = bv (D.drop 20)) := by show _ = _; simp [bv]
    rw [hP.out, show 0 + 20 * 1 = 20 from rfl] at hr2
    have hPl : Hid ((D.drop 20).length = 20 + n) := by show _ = _; rw [List.length_drop, HLL.out]; omega
    have hPa : Hid (AllB (D.drop 20)) := HL.out.2.drop _
    have hjj : 40 + n - 20 = 20 + n := by omega
    have hjj' : 40 + (n : Int) - 20 = 20 + (n : Int) := by omega
    rw [hjj] at hr2
    have HR2 := Lib.hid hr2
    have d0 : wc.drew.cell? ⟨q, 0, none⟩ = some (.int .u32 (src : Int)) := by have := hq5.cell 0; simpa using this
    have d1 : wc.drew.cell? ⟨q, 1, none⟩ = some (.int .u32 (dst : Int)) := by have := hq5.cell 1; simpa using this
    have d2 : wc.drew.cell? ⟨q, 2, none⟩ = some (.int .i64 6) := by have := hq5.cell 2; simpa using this
    have d3 : wc.drew.cell? ⟨q3 + 1, 2, none⟩ = some (.int .i64 (40 + (n : Int))) := by have := hh5.cell 2; simpa using this
    have hqk := Lib.hid (And.intro hq5 hh5)
    have f5 : ¬ c2 = 20 := by omega
    have f7 : 20 ≤ 40 + n := by omega
    have f8 : (20 : Int) ≤ 40 + (n : Int) := by omega
    have f9 : 40 + (n : Int) ≤ (c2 : Int) := by omega
    have f10 : (20 : Int) ≤ ((40 + n : Nat) : Int) := by omega
    clear hr2 hP hq5 hh5
    go_wp2_with fail
    go_region_held3 (fun wS => wS.cell? ⟨q, 0, none⟩ = some (.int .u32 (src : Int)) ∧ wS.cell? ⟨q, 1, none⟩ = some (.int .u32 (dst : Int)) ∧ wS.cell? ⟨q, 2, none⟩ = some (.int .i64 6) ∧ wS.cell? ⟨q3 + 1, 2, none⟩ = some (.int .i64 (40 + (n : Int)))) (first | with_reducible exact ⟨d0, d1, d2, d3⟩ | with_reducible exact ⟨z0, z1, z2, z3⟩ | with_reducible exact ⟨y0, y1, y2, y3⟩)
      (first
      | (go_at_call 19; (with_reducible refine (CB1.out _).mono ?_); rintro e w5 ⟨A5, c5, rfl, hown5, hb5⟩; have hbk := hqk.out.1.drew.below hb5 hqk.out.1.lt; have hbh := hqk.out.2.drew.below hb5 hqk.out.2.lt; have z0 := hbk.cell 0; have z1 := hbk.cell 1; have z2 := hbk.cell 2; have z3 := hbh.cell 2; simp only [List.getElem?_toArray, List.getElem?_cons_zero, List.getElem?_cons_succ] at z0 z1 z2 z3)
      | (refine step_append_b rfl (.tmp 91) (.tmp 93) _ rfl 5 infoB Try.underlying25 wc.heap.size (.slice A5 20 c5) 20 D1 (by simp [Act.eval, Act.put]) hown5 w5.heap.size (some ⟨g, 20, none⟩) (20 + n) (c2 - 20) _ (by simp [Act.eval, Act.put]) ((HR2.out.drew.below hb5).more hb5.size) (40 + n) (by omega) (by omega) hb5.size ?_; intro A6 c6 w6 hown6 hb6 _ _; have hbk6 := hbk.below hb6 hqk.out.1.lt; have hbh6 := hbh.below hb6 hqk.out.2.lt; have y0 := hbk6.cell 0; have y1 := hbk6.cell 1; have y2 := hbk6.cell 2; have y3 := hbh6.cell 2; simp only [List.getElem?_toArray, List.getElem?_cons_zero, List.getElem?_cons_succ] at y0 y1 y2 y3))
    go_wp2_with fail
    have hb26 := (below_drew hb5).trans hb6
    have CPa := Lib.hid (CP1.out A6 c6 w6 _ hPl.out hPa.out (Reads.of_own hown6) (own_cap hown6))
    clear f8 f9 f10 z0 z1 z2 z3 y0 y1 y2 y3 d0 d1 d2 d3 hown5 hown6 hb5 hb6 CB1 CP1 hbk hbh f5 f7 hjj hjj'
    refine CPa.out.mono ?_
    rintro e w7 ⟨rfl, hb7⟩
    have hb27 := hB5.trans ((hb26.trans (hb7.mono hb26.size)).mono hs5)
    have hb28 := (hb27.alloc hb27.size (.cells #[.int .u32 0, .int .u32 0, .int .i64 0, .int .i64 0, .int .i64 0] 43)).alloc (by have := hb27.size; simp; omega) (.cells #[.int .i64 0, .int .i64 0, .int .i64 0, .int .i64 0, .int .i64 0, .int .i64 0, .int .i64 0, .int .i64 0, .int .i64 0, .int .u32 0, .int .u32 0] 24)
    clear CPa hb7 hb26 hb27
    go_wp2_with fail
    refine (awake21_any _).mono ?_
    rintro e w12 ⟨rfl, hb12⟩
    go_wp2_with fail
    go_ret
    exact ⟨rfl, hb28.trans (hb12.mono hb28.size)⟩

set_option maxHeartbeats 4000000 in
set_option maxRecDepth 100000 in
theorem back_6 (src dst : Nat) (sport dport : Int) (osrc odst : Nat) (opr osp odp : Int) (ttl flags : Int) (A : Option Addr) (n c B : Nat) (l : List Nat) (w : World) (hk : TuOk ⟨src, dst, 6, sport, dport⟩) (hm : mayTu ⟨src, dst, 6, sport, dport⟩ = true) (httl : -9223372036854775808 ≤ ttl ∧ ttl ≤ 9223372036854775807) (hr : Reads w B 1 A n (bv l)) (hB : B ≤ w.heap.size) (hn : n ≤ 1000) (ha : AllB l) (hzz : (u64n flags % 256) &&& 5 = 0) :
    Calls Try.prog 8 #[.agg #[.int .u32 (src : Int), .int .u32 (dst : Int), .int .i64 6, .int .i64 sport, .int .i64 dport], .agg #[.int .u32 (osrc : Int), .int .u32 (odst : Int), .int .i64 opr, .int .i64 osp, .int .i64 odp], .int .i64 ttl, .int .i64 flags, .slice A n c] w fun e w' => e = .returned (.bool true) ∧ Below w.heap.size w w' := by
  have hll := hr.length
  obtain ⟨hwy, htp⟩ := made_tells ⟨src, dst, 6, sport, dport⟩ ttl flags l hk hm (by omega)
  have hall := madeB_all ⟨src, dst, 6, sport, dport⟩ ttl flags l ha
  have hlen : (madeB ⟨src, dst, 6, sport, dport⟩ ttl flags l).length = 40 + n := by rw [madeB_length, hll]; show 20 + (20 + n) = _; omega
  have hlP := madeB_lenP ⟨src, dst, 6, sport, dport⟩ ttl flags l (by omega)
  have hem := fun o => ends_made ⟨src, dst, 6, sport, dport⟩ o ttl flags l hk hm (by omega)
  have htt := madeB_ttl ⟨src, dst, 6, sport, dport⟩ ttl flags l
  have k1 := hk.src
  have k2 := hk.dst
  dsimp only at k1 k2
  obtain ⟨T, hT⟩ : ∃ T, T = u64n ttl % 256 := ⟨_, rfl⟩
  have hm255 : bits BinOp.and IntKind.i64 ttl 255 = (T : Int) := by
    have := i64_and_mask 8 (by omega) ttl
    rw [show (((2 ^ 8 - 1 : Nat) : Nat) : Int) = 255 from rfl] at this
    rw [this, hT]
    unfold u64n
    omega
  obtain ⟨z, hz⟩ : ∃ z, z = (u64n flags % 256) &&& 5 := ⟨_, rfl⟩
  have hz5 : bits BinOp.and IntKind.i64 flags 5 = (z : Int) := by rw [i64_and5, hz]
  have hzb : ((z : Int) != 0) = false := by simp; omega
  have hzb' : ((z : Int) == 0) = true := by simp; omega
  clear hz
  have HEk : Hid (endsL ⟨src, dst, 6, sport, dport⟩ (madeB ⟨src, dst, 6, sport, dport⟩ ttl flags l) = false) := by
    show _ = _
    rw [hem]
    exact decide_eq_false (fun h => h.2.2 hzz)
  have HEo : Hid (∀ o : Tu, o ≠ ⟨src, dst, 6, sport, dport⟩ → endsL o (madeB ⟨src, dst, 6, sport, dport⟩ ttl flags l) = false) := by
    intro o ho
    rw [hem]
    exact decide_eq_false (fun h => ho h.1)
  have HEA : Hid (∀ o : Tu, endsL o (madeB ⟨src, dst, 6, sport, dport⟩ ttl flags l) = false) := by
    intro o
    rw [hem]
    exact decide_eq_false (fun h => h.2.2 hzz)
  obtain ⟨D1, hD1⟩ : ∃ D, D = buildB ⟨0, 0, 40 + (n : Int), 0, 1, 0, ttl, 6, 0, src, dst⟩ := ⟨_, rfl⟩
  have hl1 : D1.length = 20 := by rw [hD1]; exact buildB_length _
  have ha1 : AllB D1 := by rw [hD1]; exact buildB_all _
  have CMT : Hid (∀ w', Calls Try.prog 28 #[.agg #[.int .u32 (src : Int), .int .u32 (dst : Int), .int .i64 6, .int .i64 sport, .int .i64 dport]] w' fun e w'' => e = .returned (.bool true) ∧ Below w'.heap.size w' w'') := fun w' => by
    have := maytuple_any ⟨src, dst, 6, sport, dport⟩ w'
    rw [hm] at this
    exact this
  have CM : Hid (∀ w', Below w.heap.size w w' → Calls Try.prog 23 #[.agg #[.int .u32 (src : Int), .int .u32 (dst : Int), .int .i64 6, .int .i64 sport, .int .i64 dport], .int .i64 ttl, .int .i64 flags, .slice A n c] w' fun e w'' => MadeRet ⟨src, dst, 6, sport, dport⟩ ttl flags l w' e w'') :=
    fun w' hb => made_any ⟨src, dst, 6, sport, dport⟩ ttl flags A n c w'.heap.size l w' hk httl ((hr.below (hb.mono hB)).more (Nat.le_trans hB hb.size)) (Nat.le_refl _) (by omega)
  have CB1 : Hid (∀ w', Calls Try.prog 19 #[.agg #[.int .i64 0, .int .i64 0, .int .i64 (40 + (n : Int)), .int .i64 0, .int .i64 1, .int .i64 0, .int .i64 ttl, .int .i64 6, .int .i64 0, .int .u32 (src : Int), .int .u32 (dst : Int)]] w' fun e w'' => ∃ A c', e = .returned (.slice A 20 c') ∧ w''.ownsRow w'.heap.size 5 1 (.slice A 20 c') 20 (bv D1) ∧ Below w'.heap.size w' w'') := fun w' => by
    rw [hD1]
    exact refbuild_any ⟨0, 0, 40 + (n : Int), 0, 1, 0, ttl, 6, 0, src, dst⟩ w' ⟨by dsimp only; omega, by dsimp only; omega, by dsimp only; omega, by dsimp only; omega, by dsimp only; omega, by dsimp only; omega, httl, by dsimp only; omega, by dsimp only; omega, k1, k2⟩
  have CP1 : Hid (∀ A c w' P, P.length = 20 + n → AllB P → Reads w' w'.heap.size 1 A (40 + n) (bv (D1 ++ P)) → 40 + n ≤ c → Calls Try.prog 24 #[.slice A (40 + n) c] w' fun e w'' => e = .returned (.tuple #[.agg #[.int .u32 0, .int .u32 0, .int .i64 0, .int .i64 0, .int .i64 0], .agg #[.int .i64 0, .int .i64 0, .int .i64 0, .int .i64 0, .int .i64 0, .int .i64 0, .int .i64 0, .int .i64 0, .int .i64 0, .int .u32 0, .int .u32 0], .int .i64 6]) ∧ Below w'.heap.size w' w'') := by
    intro A c w' P h1 h2 h3 h4
    have hw : whyT (D1 ++ P) = 6 := by
      rw [hD1]
      exact part_tells _ P (by show u64n (40 + (n : Int)) % 65536 = _; unfold u64n; omega) rfl rfl
    have := ptuple_any A (40 + n) c w'.heap.size (D1 ++ P) w' h3 (Nat.le_refl _) (by omega) h4 (ha1.append h2)
    rw [tuT_no (by omega), hdT_no (by omega), hw] at this
    exact this
  obtain ⟨y0, y1, y2, y3, y4, y5, y6, y7, y8, y9, y10, hv, h2, h6⟩ := hdT_names (madeB ⟨src, dst, 6, sport, dport⟩ ttl flags l)
  rw [hdT_yes hwy] at h2 h6
  have h2' : y2 = 40 + (n : Int) := h2.trans (by show ((lenP _ : Nat) : Int) = _; rw [hlP, hlen]; omega)
  have h6' : y6 = (T : Int) := h6.trans (by show ((at' _ 8 : Nat) : Int) = _; rw [htt, hT])
  clear h2 h6
  subst h2' h6'
  have HHV := Lib.hid hv
  have HTV : Hid ((tuT (madeB ⟨src, dst, 6, sport, dport⟩ ttl flags l)).vals = #[.int .u32 (src : Int), .int .u32 (dst : Int), .int .i64 6, .int .i64 sport, .int .i64 dport]) := by show _ = _; rw [tuT_yes hwy, htp]; rfl
  have HY := Lib.hid hwy
  have CP0 := Lib.hid (fun A c w' h3 h4 => ptuple_any A (40 + n) c w'.heap.size (madeB ⟨src, dst, 6, sport, dport⟩ ttl flags l) w' h3 (Nat.le_refl _) (by omega) h4 hall)
  rw [HTV.out, HHV.out, HY.out] at CP0
  have CE0 := Lib.hid (fun (o : Tu) A c w' h3 h4 => ends_any o A (40 + n) c w'.heap.size (madeB ⟨src, dst, 6, sport, dport⟩ ttl flags l) w' h3 (Nat.le_refl _) (by omega) h4 hall)
  have HL := Lib.hid (And.intro hl1 hall)
  have HLL : Hid ((madeB ⟨src, dst, 6, sport, dport⟩ ttl flags l).length = 40 + n) := hlen
  unfold MadeRet at CM
  rw [hlen] at CM
  clear hD1 hall hlen hl1 ha1 hm hk hwy htp hlP hem htt hT hv httl hr ha hll
  generalize madeB ⟨src, dst, 6, sport, dport⟩ ttl flags l = D at *
  have CEk : Hid (∀ A c w', Reads w' w'.heap.size 1 A (40 + n) (bv D) → 40 + n ≤ c → Calls Try.prog 26 #[.agg #[.int .u32 (src : Int), .int .u32 (dst : Int), .int .i64 6, .int .i64 sport, .int .i64 dport], .slice A (40 + n) c] w' fun e w'' => e = .returned (.bool false) ∧ Below w'.heap.size w' w'') := by
    intro A c w' h3 h4
    have := CE0.out ⟨src, dst, 6, sport, dport⟩ A c w' h3 h4
    rw [HEk.out] at this
    exact this
  have CEo : Hid (∀ A c w' b, endsL ⟨osrc, odst, opr, osp, odp⟩ D = b → Reads w' w'.heap.size 1 A (40 + n) (bv D) → 40 + n ≤ c → Calls Try.prog 26 #[.agg #[.int .u32 (osrc : Int), .int .u32 (odst : Int), .int .i64 opr, .int .i64 osp, .int .i64 odp], .slice A (40 + n) c] w' fun e w'' => e = .returned (.bool b) ∧ Below w'.heap.size w' w'') := by
    intro A c w' b hb h3 h4
    have := CE0.out ⟨osrc, odst, opr, osp, odp⟩ A c w' h3 h4
    rw [hb] at this
    exact this
  clear CE0
  have hd1 : decide ((1000 : Int) < (n : Int)) = false := decide_eq_false (by omega)
  go_enter Try.func8, Try.ntmps8
  go_wp2_with fail
  have hB0 := ((Below.refl w.heap.size w).alloc (Nat.le_refl _) (.cells #[.int .u32 (src : Int), .int .u32 (dst : Int), .int .i64 6, .int .i64 sport, .int .i64 dport] 43)).alloc (by simp) (.cells #[.int .u32 (osrc : Int), .int .u32 (odst : Int), .int .i64 opr, .int .i64 osp, .int .i64 odp] 43)
  have hq := (Blk.new w 43 #[.int .u32 (src : Int), .int .u32 (dst : Int), .int .i64 6, .int .i64 sport, .int .i64 dport]).alloc (.cells #[.int .u32 (osrc : Int), .int .u32 (odst : Int), .int .i64 opr, .int .i64 osp, .int .i64 odp] 43)
  have ho : Blk ((w.alloc (.cells #[.int .u32 (src : Int), .int .u32 (dst : Int), .int .i64 6, .int .i64 sport, .int .i64 dport] 43)).alloc (.cells #[.int .u32 (osrc : Int), .int .u32 (odst : Int), .int .i64 opr, .int .i64 osp, .int .i64 odp] 43)) (w.heap.size + 1) 43 #[.int .u32 (osrc : Int), .int .u32 (odst : Int), .int .i64 opr, .int .i64 osp, .int .i64 odp] := Blk.new_ (by simp)
  refine (CMT.out _).mono ?_
  rintro e w1 ⟨rfl, hb1⟩
  have hB1 := hB0.trans (hb1.mono hB0.size)
  have hq1 := hq.below hb1 hq.lt
  have ho1 := ho.below hb1 ho.lt
  have CM1 := Lib.hid (CM.out w1 hB1)
  obtain ⟨q, hqe⟩ : ∃ q, q = w.heap.size := ⟨_, rfl⟩
  rw [← hqe] at hq1 ho1 ⊢
  have HQ := Lib.hid hqe
  clear hqe hq hb1 hB0 ho CM CMT
  have c0 := hq1.cell 0
  have c1' := hq1.cell 1
  have c2' := hq1.cell 2
  have c3' := hq1.cell 3
  have c4' := hq1.cell 4
  simp only [List.getElem?_toArray, List.getElem?_cons_zero, List.getElem?_cons_succ] at c0 c1' c2' c3' c4'
  go_wp2_with fail
  refine CM1.out.mono ?_
  rintro e w2 ⟨A2, N2, c2, rfl, rfl, hown2, hb2⟩
  obtain ⟨g, rfl, hg1, hg2⟩ := own_head hown2 (by omega)
  have hc2 := own_cap hown2
  have hB2 := hB1.trans (hb2.mono hB1.size)
  have hs2 := hB2.size
  have hq2 := hq1.below hb2 hq1.lt
  have ho2 := ho1.below hb2 ho1.lt
  have CPa := Lib.hid (CP0.out (some ⟨g, 0, none⟩) c2 w2 (Reads.of_own hown2) hc2)
  have HO2 := Lib.hid hown2
  clear c0 c1' c2' c3' c4' hq1 ho1 hb2 hown2 CM1 hB1 CP0
  go_wp2_with fail
  refine CPa.out.mono ?_
  rintro e w3 ⟨rfl, hb3⟩
  have hb4 := (hb3.alloc hb3.size (.cells #[.int .u32 (src : Int), .int .u32 (dst : Int), .int .i64 6, .int .i64 sport, .int .i64 dport] 43)).alloc (by have := hb3.size; simp; omega) (.cells #[.int .i64 y0, .int .i64 y1, .int .i64 (40 + (n : Int)), .int .i64 y3, .int .i64 y4, .int .i64 y5, .int .i64 (T : Int), .int .i64 y7, .int .i64 y8, .int .u32 (y9 : Int), .int .u32 (y10 : Int)] 24)
  have ht4 := (Blk.new w3 43 #[.int .u32 (src : Int), .int .u32 (dst : Int), .int .i64 6, .int .i64 sport, .int .i64 dport]).alloc (.cells #[.int .i64 y0, .int .i64 y1, .int .i64 (40 + (n : Int)), .int .i64 y3, .int .i64 y4, .int .i64 y5, .int .i64 (T : Int), .int .i64 y7, .int .i64 y8, .int .u32 (y9 : Int), .int .u32 (y10 : Int)] 24)
  have hh4 : Blk ((w3.alloc (.cells #[.int .u32 (src : Int), .int .u32 (dst : Int), .int .i64 6, .int .i64 sport, .int .i64 dport] 43)).alloc (.cells #[.int .i64 y0, .int .i64 y1, .int .i64 (40 + (n : Int)), .int .i64 y3, .int .i64 y4, .int .i64 y5, .int .i64 (T : Int), .int .i64 y7, .int .i64 y8, .int .u32 (y9 : Int), .int .u32 (y10 : Int)] 24)) (w3.heap.size + 1) 24 #[.int .i64 y0, .int .i64 y1, .int .i64 (40 + (n : Int)), .int .i64 y3, .int .i64 y4, .int .i64 y5, .int .i64 (T : Int), .int .i64 y7, .int .i64 y8, .int .u32 (y9 : Int), .int .u32 (y10 : Int)] := Blk.new_ (by simp)
  have hq4 := hq2.below hb4 hq2.lt
  have ho4 := ho2.below hb4 ho2.lt
  have hB4 := hB2.trans (hb4.mono hs2)
  have HO4 := Lib.hid (own_below HO2.out hb4)
  have c2' := hq4.cell 2
  simp only [List.getElem?_toArray, List.getElem?_cons_zero, List.getElem?_cons_succ] at c2'
  have HB4 := Lib.hid hB4
  clear CPa hb3 hB2 hq2 ho2 HO2 hb4 hB4
  go_upto_region 6 with (fail)
  obtain ⟨q3, hq3⟩ : ∃ q3, q3 = w3.heap.size := ⟨_, rfl⟩
  rw [← hq3] at ht4 hh4 ⊢
  clear hq3
  generalize (w3.alloc (.cells #[.int .u32 (src : Int), .int .u32 (dst : Int), .int .i64 6, .int .i64 sport, .int .i64 dport] 43)).alloc (.cells #[.int .i64 y0, .int .i64 y1, .int .i64 (40 + (n : Int)), .int .i64 y3, .int .i64 y4, .int .i64 y5, .int .i64 (T : Int), .int .i64 y7, .int .i64 y8, .int .u32 (y9 : Int), .int .u32 (y10 : Int)] 24) = w4 at *
  go_cut [80] (fun v wx => v = .bool false ∧ Below w4.heap.size w4 wx)
  case first =>
    have hr4 := Reads.of_own HO4.out
    have CE1 := Lib.hid (CEk.out (some ⟨g, 0, none⟩) c2 w4 hr4 hc2)
    have CE2 := Lib.hid (fun w' b hb' (hb : Below w4.heap.size w4 w') => CEo.out (some ⟨g, 0, none⟩) c2 w' b hb' ((hr4.below hb).more hb.size) hc2)
    have a0 := ht4.cell 0
    have a1 := ht4.cell 1
    have a2 := ht4.cell 2
    have a3 := ht4.cell 3
    have a4 := ht4.cell 4
    have b0 := hq4.cell 0
    have b1 := hq4.cell 1
    have b3 := hq4.cell 3
    have b4 := hq4.cell 4
    have h6c := hh4.cell 6
    simp only [List.getElem?_toArray, List.getElem?_cons_zero, List.getElem?_cons_succ] at a0 a1 a2 a3 a4 b0 b1 b3 b4 h6c
    clear hr4 CEk CEo CP1 CB1 hh4 ht4
    go_wp2_with fail
    refine CE1.out.mono ?_
    rintro e w5 ⟨rfl, hb5⟩
    have hq5 := hq4.below hb5 hq4.lt
    have ho5 := ho4.below hb5 ho4.lt
    have o0 := ho5.cell 0
    have o1 := ho5.cell 1
    have o2 := ho5.cell 2
    have o3 := ho5.cell 3
    have o4 := ho5.cell 4
    simp only [List.getElem?_toArray, List.getElem?_cons_zero, List.getElem?_cons_succ] at o0 o1 o2 o3 o4
    clear a0 a1 a2 a3 a4 b0 b1 b3 b4 c2' h6c hq4 ho4 CE1
    have CE3 := Lib.hid (CE2.out w5 false (HEA.out _) hb5)
    clear CE2
    go_wp2_with fail
    refine CE3.out.mono ?_
    rintro e w6 ⟨rfl, hb6⟩
    have hb46 := hb5.trans (hb6.mono hb5.size)
    clear o0 o1 o2 o3 o4 CE3 hb5 hb6 hq5 ho5
    go_wp2_with fail
    go_meet
    exact ⟨rfl, hb46⟩
  case rest =>
    obtain ⟨rfl, hb5⟩ := hcut
    have hq5 := hq4.below hb5 hq4.lt
    have hh5 := hh4.below hb5 hh4.lt
    have HO5 := Lib.hid (own_below HO4.out hb5)
    have hB5 := HB4.out.trans (hb5.mono HB4.out.size)
    have hs5 := hB5.size
    clear c2' CEk CEo hq4 hh4 ho4 ht4 HO4 hb5 HB4
    have hr2 := (Reads.of_own HO5.out).cut (k := 20) (cap := c2) (by omega) (by omega)
    rw [if_neg (by omega)] at hr2
    simp only [Option.map_some, Addr.add_lit] at hr2
    have hP : Hid ((bv D).drop (20 * 1) = bv (D.drop 20)) := by show _ = _; simp [bv]
    rw [hP.out, show 0 + 20 * 1 = 20 from rfl] at hr2
    have hPl : Hid ((D.drop 20).length = 20 + n) := by show _ = _; rw [List.length_drop, HLL.out]; omega
    have hPa : Hid (AllB (D.drop 20)) := HL.out.2.drop _
    have hjj : 40 + n - 20 = 20 + n := by omega
    have hjj' : 40 + (n : Int) - 20 = 20 + (n : Int) := by omega
    rw [hjj] at hr2
    have HR2 := Lib.hid hr2
    have d0 : wc.drew.cell? ⟨q, 0, none⟩ = some (.int .u32 (src : Int)) := by have := hq5.cell 0; simpa using this
    have d1 : wc.drew.cell? ⟨q, 1, none⟩ = some (.int .u32 (dst : Int)) := by have := hq5.cell 1; simpa using this
    have d2 : wc.drew.cell? ⟨q, 2, none⟩ = some (.int .i64 6) := by have := hq5.cell 2; simpa using this
    have d3 : wc.drew.cell? ⟨q3 + 1, 2, none⟩ = some (.int .i64 (40 + (n : Int))) := by have := hh5.cell 2; simpa using this
    have hqk := Lib.hid (And.intro hq5 hh5)
    have f5 : ¬ c2 = 20 := by omega
    have f7 : 20 ≤ 40 + n := by omega
    have f8 : (20 : Int) ≤ 40 + (n : Int) := by omega
    have f9 : 40 + (n : Int) ≤ (c2 : Int) := by omega
    have f10 : (20 : Int) ≤ ((40 + n : Nat) : Int) := by omega
    clear hr2 hP hq5 hh5
    go_wp2_with fail
    go_region_held3 (fun wS => wS.cell? ⟨q, 0, none⟩ = some (.int .u32 (src : Int)) ∧ wS.cell? ⟨q, 1, none⟩ = some (.int .u32 (dst : Int)) ∧ wS.cell? ⟨q, 2, none⟩ = some (.int .i64 6) ∧ wS.cell? ⟨q3 + 1, 2, none⟩ = some (.int .i64 (40 + (n : Int)))) (first | with_reducible exact ⟨d0, d1, d2, d3⟩ | with_reducible exact ⟨z0, z1, z2, z3⟩ | with_reducible exact ⟨y0, y1, y2, y3⟩)
      (first
      | (go_at_call 19; (with_reducible refine (CB1.out _).mono ?_); rintro e w5 ⟨A5, c5, rfl, hown5, hb5⟩; have hbk := hqk.out.1.drew.below hb5 hqk.out.1.lt; have hbh := hqk.out.2.drew.below hb5 hqk.out.2.lt; have z0 := hbk.cell 0; have z1 := hbk.cell 1; have z2 := hbk.cell 2; have z3 := hbh.cell 2; simp only [List.getElem?_toArray, List.getElem?_cons_zero, List.getElem?_cons_succ] at z0 z1 z2 z3)
      | (refine step_append_b rfl (.tmp 91) (.tmp 93) _ rfl 5 infoB Try.underlying25 wc.heap.size (.slice A5 20 c5) 20 D1 (by simp [Act.eval, Act.put]) hown5 w5.heap.size (some ⟨g, 20, none⟩) (20 + n) (c2 - 20) _ (by simp [Act.eval, Act.put]) ((HR2.out.drew.below hb5).more hb5.size) (40 + n) (by omega) (by omega) hb5.size ?_; intro A6 c6 w6 hown6 hb6 _ _; have hbk6 := hbk.below hb6 hqk.out.1.lt; have hbh6 := hbh.below hb6 hqk.out.2.lt; have y0 := hbk6.cell 0; have y1 := hbk6.cell 1; have y2 := hbk6.cell 2; have y3 := hbh6.cell 2; simp only [List.getElem?_toArray, List.getElem?_cons_zero, List.getElem?_cons_succ] at y0 y1 y2 y3))
    go_wp2_with fail
    have hb26 := (below_drew hb5).trans hb6
    have CPa := Lib.hid (CP1.out A6 c6 w6 _ hPl.out hPa.out (Reads.of_own hown6) (own_cap hown6))
    clear f8 f9 f10 z0 z1 z2 z3 y0 y1 y2 y3 d0 d1 d2 d3 hown5 hown6 hb5 hb6 CB1 CP1 hbk hbh f5 f7 hjj hjj'
    refine CPa.out.mono ?_
    rintro e w7 ⟨rfl, hb7⟩
    have hb27 := hB5.trans ((hb26.trans (hb7.mono hb26.size)).mono hs5)
    have hb28 := (hb27.alloc hb27.size (.cells #[.int .u32 0, .int .u32 0, .int .i64 0, .int .i64 0, .int .i64 0] 43)).alloc (by have := hb27.size; simp; omega) (.cells #[.int .i64 0, .int .i64 0, .int .i64 0, .int .i64 0, .int .i64 0, .int .i64 0, .int .i64 0, .int .i64 0, .int .i64 0, .int .u32 0, .int .u32 0] 24)
    clear CPa hb7 hb26 hb27
    go_wp2_with fail
    refine (awake21_any _).mono ?_
    rintro e w12 ⟨rfl, hb12⟩
    go_wp2_with fail
    go_ret
    exact ⟨rfl, hb28.trans (hb12.mono hb28.size)⟩

set_option maxHeartbeats 4000000 in
set_option maxRecDepth 100000 in
theorem back_17 (src dst : Nat) (sport dport : Int) (osrc odst : Nat) (opr osp odp : Int) (ttl flags : Int) (A : Option Addr) (n c B : Nat) (l : List Nat) (w : World) (hk : TuOk ⟨src, dst, 17, sport, dport⟩) (hm : mayTu ⟨src, dst, 17, sport, dport⟩ = true) (httl : -9223372036854775808 ≤ ttl ∧ ttl ≤ 9223372036854775807) (hr : Reads w B 1 A n (bv l)) (hB : B ≤ w.heap.size) (hn : n ≤ 1000) (ha : AllB l) :
    Calls Try.prog 8 #[.agg #[.int .u32 (src : Int), .int .u32 (dst : Int), .int .i64 17, .int .i64 sport, .int .i64 dport], .agg #[.int .u32 (osrc : Int), .int .u32 (odst : Int), .int .i64 opr, .int .i64 osp, .int .i64 odp], .int .i64 ttl, .int .i64 flags, .slice A n c] w fun e w' => e = .returned (.bool true) ∧ Below w.heap.size w w' := by
  have hll := hr.length
  obtain ⟨hwy, htp⟩ := made_tells ⟨src, dst, 17, sport, dport⟩ ttl flags l hk hm (by omega)
  have hall := madeB_all ⟨src, dst, 17, sport, dport⟩ ttl flags l ha
  have hlen : (madeB ⟨src, dst, 17, sport, dport⟩ ttl flags l).length = 28 + n := by rw [madeB_length, hll]; show 20 + (8 + n) = _; omega
  have hlP := madeB_lenP ⟨src, dst, 17, sport, dport⟩ ttl flags l (by omega)
  have hem := fun o => ends_made ⟨src, dst, 17, sport, dport⟩ o ttl flags l hk hm (by omega)
  have htt := madeB_ttl ⟨src, dst, 17, sport, dport⟩ ttl flags l
  have k1 := hk.src
  have k2 := hk.dst
  dsimp only at k1 k2
  obtain ⟨T, hT⟩ : ∃ T, T = u64n ttl % 256 := ⟨_, rfl⟩
  have hm255 : bits BinOp.and IntKind.i64 ttl 255 = (T : Int) := by
    have := i64_and_mask 8 (by omega) ttl
    rw [show (((2 ^ 8 - 1 : Nat) : Nat) : Int) = 255 from rfl] at this
    rw [this, hT]
    unfold u64n
    omega
  have HEk : Hid (endsL ⟨src, dst, 17, sport, dport⟩ (madeB ⟨src, dst, 17, sport, dport⟩ ttl flags l) = false) := by
    show _ = _
    rw [hem]
    exact decide_eq_false (fun h => absurd h.2.1 (by show ¬ (17 : Int) = 6; decide))
  have HEo : Hid (∀ o : Tu, o ≠ ⟨src, dst, 17, sport, dport⟩ → endsL o (madeB ⟨src, dst, 17, sport, dport⟩ ttl flags l) = false) := by
    intro o ho
    rw [hem]
    exact decide_eq_false (fun h => ho h.1)
  have HEA : Hid (∀ o : Tu, endsL o (madeB ⟨src, dst, 17, sport, dport⟩ ttl flags l) = false) := by
    intro o
    rw [hem]
    exact decide_eq_false (fun h => absurd h.2.1 (by show ¬ (17 : Int) = 6; decide))
  obtain ⟨D1, hD1⟩ : ∃ D, D = buildB ⟨0, 0, 28 + (n : Int), 0, 1, 0, ttl, 17, 0, src, dst⟩ := ⟨_, rfl⟩
  have hl1 : D1.length = 20 := by rw [hD1]; exact buildB_length _
  have ha1 : AllB D1 := by rw [hD1]; exact buildB_all _
  have CMT : Hid (∀ w', Calls Try.prog 28 #[.agg #[.int .u32 (src : Int), .int .u32 (dst : Int), .int .i64 17, .int .i64 sport, .int .i64 dport]] w' fun e w'' => e = .returned (.bool true) ∧ Below w'.heap.size w' w'') := fun w' => by
    have := maytuple_any ⟨src, dst, 17, sport, dport⟩ w'
    rw [hm] at this
    exact this
  have CM : Hid (∀ w', Below w.heap.size w w' → Calls Try.prog 23 #[.agg #[.int .u32 (src : Int), .int .u32 (dst : Int), .int .i64 17, .int .i64 sport, .int .i64 dport], .int .i64 ttl, .int .i64 flags, .slice A n c] w' fun e w'' => MadeRet ⟨src, dst, 17, sport, dport⟩ ttl flags l w' e w'') :=
    fun w' hb => made_any ⟨src, dst, 17, sport, dport⟩ ttl flags A n c w'.heap.size l w' hk httl ((hr.below (hb.mono hB)).more (Nat.le_trans hB hb.size)) (Nat.le_refl _) (by omega)
  have CB1 : Hid (∀ w', Calls Try.prog 19 #[.agg #[.int .i64 0, .int .i64 0, .int .i64 (28 + (n : Int)), .int .i64 0, .int .i64 1, .int .i64 0, .int .i64 ttl, .int .i64 17, .int .i64 0, .int .u32 (src : Int), .int .u32 (dst : Int)]] w' fun e w'' => ∃ A c', e = .returned (.slice A 20 c') ∧ w''.ownsRow w'.heap.size 5 1 (.slice A 20 c') 20 (bv D1) ∧ Below w'.heap.size w' w'') := fun w' => by
    rw [hD1]
    exact refbuild_any ⟨0, 0, 28 + (n : Int), 0, 1, 0, ttl, 17, 0, src, dst⟩ w' ⟨by dsimp only; omega, by dsimp only; omega, by dsimp only; omega, by dsimp only; omega, by dsimp only; omega, by dsimp only; omega, httl, by dsimp only; omega, by dsimp only; omega, k1, k2⟩
  have CP1 : Hid (∀ A c w' P, P.length = 8 + n → AllB P → Reads w' w'.heap.size 1 A (28 + n) (bv (D1 ++ P)) → 28 + n ≤ c → Calls Try.prog 24 #[.slice A (28 + n) c] w' fun e w'' => e = .returned (.tuple #[.agg #[.int .u32 0, .int .u32 0, .int .i64 0, .int .i64 0, .int .i64 0], .agg #[.int .i64 0, .int .i64 0, .int .i64 0, .int .i64 0, .int .i64 0, .int .i64 0, .int .i64 0, .int .i64 0, .int .i64 0, .int .u32 0, .int .u32 0], .int .i64 6]) ∧ Below w'.heap.size w' w'') := by
    intro A c w' P h1 h2 h3 h4
    have hw : whyT (D1 ++ P) = 6 := by
      rw [hD1]
      exact part_tells _ P (by show u64n (28 + (n : Int)) % 65536 = _; unfold u64n; omega) rfl rfl
    have := ptuple_any A (28 + n) c w'.heap.size (D1 ++ P) w' h3 (Nat.le_refl _) (by omega) h4 (ha1.append h2)
    rw [tuT_no (by omega), hdT_no (by omega), hw] at this
    exact this
  obtain ⟨y0, y1, y2, y3, y4, y5, y6, y7, y8, y9, y10, hv, h2, h6⟩ := hdT_names (madeB ⟨src, dst, 17, sport, dport⟩ ttl flags l)
  rw [hdT_yes hwy] at h2 h6
  have h2' : y2 = 28 + (n : Int) := h2.trans (by show ((lenP _ : Nat) : Int) = _; rw [hlP, hlen]; omega)
  have h6' : y6 = (T : Int) := h6.trans (by show ((at' _ 8 : Nat) : Int) = _; rw [htt, hT])
  clear h2 h6
  subst h2' h6'
  have HHV := Lib.hid hv
  have HTV : Hid ((tuT (madeB ⟨src, dst, 17, sport, dport⟩ ttl flags l)).vals = #[.int .u32 (src : Int), .int .u32 (dst : Int), .int .i64 17, .int .i64 sport, .int .i64 dport]) := by show _ = _; rw [tuT_yes hwy, htp]; rfl
  have HY := Lib.hid hwy
  have CP0 := Lib.hid (fun A c w' h3 h4 => ptuple_any A (28 + n) c w'.heap.size (madeB ⟨src, dst, 17, sport, dport⟩ ttl flags l) w' h3 (Nat.le_refl _) (by omega) h4 hall)
  rw [HTV.out, HHV.out, HY.out] at CP0
  have CE0 := Lib.hid (fun (o : Tu) A c w' h3 h4 => ends_any o A (28 + n) c w'.heap.size (madeB ⟨src, dst, 17, sport, dport⟩ ttl flags l) w' h3 (Nat.le_refl _) (by omega) h4 hall)
  have HL := Lib.hid (And.intro hl1 hall)
  have HLL : Hid ((madeB ⟨src, dst, 17, sport, dport⟩ ttl flags l).length = 28 + n) := hlen
  unfold MadeRet at CM
  rw [hlen] at CM
  clear hD1 hall hlen hl1 ha1 hm hk hwy htp hlP hem htt hT hv httl hr ha hll
  generalize madeB ⟨src, dst, 17, sport, dport⟩ ttl flags l = D at *
  have CEk : Hid (∀ A c w', Reads w' w'.heap.size 1 A (28 + n) (bv D) → 28 + n ≤ c → Calls Try.prog 26 #[.agg #[.int .u32 (src : Int), .int .u32 (dst : Int), .int .i64 17, .int .i64 sport, .int .i64 dport], .slice A (28 + n) c] w' fun e w'' => e = .returned (.bool false) ∧ Below w'.heap.size w' w'') := by
    intro A c w' h3 h4
    have := CE0.out ⟨src, dst, 17, sport, dport⟩ A c w' h3 h4
    rw [HEk.out] at this
    exact this
  have CEo : Hid (∀ A c w' b, endsL ⟨osrc, odst, opr, osp, odp⟩ D = b → Reads w' w'.heap.size 1 A (28 + n) (bv D) → 28 + n ≤ c → Calls Try.prog 26 #[.agg #[.int .u32 (osrc : Int), .int .u32 (odst : Int), .int .i64 opr, .int .i64 osp, .int .i64 odp], .slice A (28 + n) c] w' fun e w'' => e = .returned (.bool b) ∧ Below w'.heap.size w' w'') := by
    intro A c w' b hb h3 h4
    have := CE0.out ⟨osrc, odst, opr, osp, odp⟩ A c w' h3 h4
    rw [hb] at this
    exact this
  clear CE0
  have hd1 : decide ((1000 : Int) < (n : Int)) = false := decide_eq_false (by omega)
  go_enter Try.func8, Try.ntmps8
  go_wp2_with fail
  have hB0 := ((Below.refl w.heap.size w).alloc (Nat.le_refl _) (.cells #[.int .u32 (src : Int), .int .u32 (dst : Int), .int .i64 17, .int .i64 sport, .int .i64 dport] 43)).alloc (by simp) (.cells #[.int .u32 (osrc : Int), .int .u32 (odst : Int), .int .i64 opr, .int .i64 osp, .int .i64 odp] 43)
  have hq := (Blk.new w 43 #[.int .u32 (src : Int), .int .u32 (dst : Int), .int .i64 17, .int .i64 sport, .int .i64 dport]).alloc (.cells #[.int .u32 (osrc : Int), .int .u32 (odst : Int), .int .i64 opr, .int .i64 osp, .int .i64 odp] 43)
  have ho : Blk ((w.alloc (.cells #[.int .u32 (src : Int), .int .u32 (dst : Int), .int .i64 17, .int .i64 sport, .int .i64 dport] 43)).alloc (.cells #[.int .u32 (osrc : Int), .int .u32 (odst : Int), .int .i64 opr, .int .i64 osp, .int .i64 odp] 43)) (w.heap.size + 1) 43 #[.int .u32 (osrc : Int), .int .u32 (odst : Int), .int .i64 opr, .int .i64 osp, .int .i64 odp] := Blk.new_ (by simp)
  refine (CMT.out _).mono ?_
  rintro e w1 ⟨rfl, hb1⟩
  have hB1 := hB0.trans (hb1.mono hB0.size)
  have hq1 := hq.below hb1 hq.lt
  have ho1 := ho.below hb1 ho.lt
  have CM1 := Lib.hid (CM.out w1 hB1)
  obtain ⟨q, hqe⟩ : ∃ q, q = w.heap.size := ⟨_, rfl⟩
  rw [← hqe] at hq1 ho1 ⊢
  have HQ := Lib.hid hqe
  clear hqe hq hb1 hB0 ho CM CMT
  have c0 := hq1.cell 0
  have c1' := hq1.cell 1
  have c2' := hq1.cell 2
  have c3' := hq1.cell 3
  have c4' := hq1.cell 4
  simp only [List.getElem?_toArray, List.getElem?_cons_zero, List.getElem?_cons_succ] at c0 c1' c2' c3' c4'
  go_wp2_with fail
  refine CM1.out.mono ?_
  rintro e w2 ⟨A2, N2, c2, rfl, rfl, hown2, hb2⟩
  obtain ⟨g, rfl, hg1, hg2⟩ := own_head hown2 (by omega)
  have hc2 := own_cap hown2
  have hB2 := hB1.trans (hb2.mono hB1.size)
  have hs2 := hB2.size
  have hq2 := hq1.below hb2 hq1.lt
  have ho2 := ho1.below hb2 ho1.lt
  have CPa := Lib.hid (CP0.out (some ⟨g, 0, none⟩) c2 w2 (Reads.of_own hown2) hc2)
  have HO2 := Lib.hid hown2
  clear c0 c1' c2' c3' c4' hq1 ho1 hb2 hown2 CM1 hB1 CP0
  go_wp2_with fail
  refine CPa.out.mono ?_
  rintro e w3 ⟨rfl, hb3⟩
  have hb4 := (hb3.alloc hb3.size (.cells #[.int .u32 (src : Int), .int .u32 (dst : Int), .int .i64 17, .int .i64 sport, .int .i64 dport] 43)).alloc (by have := hb3.size; simp; omega) (.cells #[.int .i64 y0, .int .i64 y1, .int .i64 (28 + (n : Int)), .int .i64 y3, .int .i64 y4, .int .i64 y5, .int .i64 (T : Int), .int .i64 y7, .int .i64 y8, .int .u32 (y9 : Int), .int .u32 (y10 : Int)] 24)
  have ht4 := (Blk.new w3 43 #[.int .u32 (src : Int), .int .u32 (dst : Int), .int .i64 17, .int .i64 sport, .int .i64 dport]).alloc (.cells #[.int .i64 y0, .int .i64 y1, .int .i64 (28 + (n : Int)), .int .i64 y3, .int .i64 y4, .int .i64 y5, .int .i64 (T : Int), .int .i64 y7, .int .i64 y8, .int .u32 (y9 : Int), .int .u32 (y10 : Int)] 24)
  have hh4 : Blk ((w3.alloc (.cells #[.int .u32 (src : Int), .int .u32 (dst : Int), .int .i64 17, .int .i64 sport, .int .i64 dport] 43)).alloc (.cells #[.int .i64 y0, .int .i64 y1, .int .i64 (28 + (n : Int)), .int .i64 y3, .int .i64 y4, .int .i64 y5, .int .i64 (T : Int), .int .i64 y7, .int .i64 y8, .int .u32 (y9 : Int), .int .u32 (y10 : Int)] 24)) (w3.heap.size + 1) 24 #[.int .i64 y0, .int .i64 y1, .int .i64 (28 + (n : Int)), .int .i64 y3, .int .i64 y4, .int .i64 y5, .int .i64 (T : Int), .int .i64 y7, .int .i64 y8, .int .u32 (y9 : Int), .int .u32 (y10 : Int)] := Blk.new_ (by simp)
  have hq4 := hq2.below hb4 hq2.lt
  have ho4 := ho2.below hb4 ho2.lt
  have hB4 := hB2.trans (hb4.mono hs2)
  have HO4 := Lib.hid (own_below HO2.out hb4)
  have c2' := hq4.cell 2
  simp only [List.getElem?_toArray, List.getElem?_cons_zero, List.getElem?_cons_succ] at c2'
  have HB4 := Lib.hid hB4
  clear CPa hb3 hB2 hq2 ho2 HO2 hb4 hB4
  go_upto_region 6 with (fail)
  obtain ⟨q3, hq3⟩ : ∃ q3, q3 = w3.heap.size := ⟨_, rfl⟩
  rw [← hq3] at ht4 hh4 ⊢
  clear hq3
  generalize (w3.alloc (.cells #[.int .u32 (src : Int), .int .u32 (dst : Int), .int .i64 17, .int .i64 sport, .int .i64 dport] 43)).alloc (.cells #[.int .i64 y0, .int .i64 y1, .int .i64 (28 + (n : Int)), .int .i64 y3, .int .i64 y4, .int .i64 y5, .int .i64 (T : Int), .int .i64 y7, .int .i64 y8, .int .u32 (y9 : Int), .int .u32 (y10 : Int)] 24) = w4 at *
  go_cut [80] (fun v wx => v = .bool false ∧ Below w4.heap.size w4 wx)
  case first =>
    have hr4 := Reads.of_own HO4.out
    have CE1 := Lib.hid (CEk.out (some ⟨g, 0, none⟩) c2 w4 hr4 hc2)
    have CE2 := Lib.hid (fun w' b hb' (hb : Below w4.heap.size w4 w') => CEo.out (some ⟨g, 0, none⟩) c2 w' b hb' ((hr4.below hb).more hb.size) hc2)
    have a0 := ht4.cell 0
    have a1 := ht4.cell 1
    have a2 := ht4.cell 2
    have a3 := ht4.cell 3
    have a4 := ht4.cell 4
    have b0 := hq4.cell 0
    have b1 := hq4.cell 1
    have b3 := hq4.cell 3
    have b4 := hq4.cell 4
    have h6c := hh4.cell 6
    simp only [List.getElem?_toArray, List.getElem?_cons_zero, List.getElem?_cons_succ] at a0 a1 a2 a3 a4 b0 b1 b3 b4 h6c
    clear hr4 CEk CEo CP1 CB1 hh4 ht4
    go_wp2_with fail
    refine CE1.out.mono ?_
    rintro e w5 ⟨rfl, hb5⟩
    have hq5 := hq4.below hb5 hq4.lt
    have ho5 := ho4.below hb5 ho4.lt
    have o0 := ho5.cell 0
    have o1 := ho5.cell 1
    have o2 := ho5.cell 2
    have o3 := ho5.cell 3
    have o4 := ho5.cell 4
    simp only [List.getElem?_toArray, List.getElem?_cons_zero, List.getElem?_cons_succ] at o0 o1 o2 o3 o4
    clear a0 a1 a2 a3 a4 b0 b1 b3 b4 c2' h6c hq4 ho4 CE1
    have CE3 := Lib.hid (CE2.out w5 false (HEA.out _) hb5)
    clear CE2
    go_wp2_with fail
    refine CE3.out.mono ?_
    rintro e w6 ⟨rfl, hb6⟩
    have hb46 := hb5.trans (hb6.mono hb5.size)
    clear o0 o1 o2 o3 o4 CE3 hb5 hb6 hq5 ho5
    go_wp2_with fail
    go_meet
    exact ⟨rfl, hb46⟩
  case rest =>
    obtain ⟨rfl, hb5⟩ := hcut
    have hq5 := hq4.below hb5 hq4.lt
    have hh5 := hh4.below hb5 hh4.lt
    have HO5 := Lib.hid (own_below HO4.out hb5)
    have hB5 := HB4.out.trans (hb5.mono HB4.out.size)
    have hs5 := hB5.size
    clear c2' CEk CEo hq4 hh4 ho4 ht4 HO4 hb5 HB4
    have hr2 := (Reads.of_own HO5.out).cut (k := 20) (cap := c2) (by omega) (by omega)
    rw [if_neg (by omega)] at hr2
    simp only [Option.map_some, Addr.add_lit] at hr2
    have hP : Hid ((bv D).drop (20 * 1) = bv (D.drop 20)) := by show _ = _; simp [bv]
    rw [hP.out, show 0 + 20 * 1 = 20 from rfl] at hr2
    have hPl : Hid ((D.drop 20).length = 8 + n) := by show _ = _; rw [List.length_drop, HLL.out]; omega
    have hPa : Hid (AllB (D.drop 20)) := HL.out.2.drop _
    have hjj : 28 + n - 20 = 8 + n := by omega
    have hjj' : 28 + (n : Int) - 20 = 8 + (n : Int) := by omega
    rw [hjj] at hr2
    have HR2 := Lib.hid hr2
    have d0 : wc.drew.cell? ⟨q, 0, none⟩ = some (.int .u32 (src : Int)) := by have := hq5.cell 0; simpa using this
    have d1 : wc.drew.cell? ⟨q, 1, none⟩ = some (.int .u32 (dst : Int)) := by have := hq5.cell 1; simpa using this
    have d2 : wc.drew.cell? ⟨q, 2, none⟩ = some (.int .i64 17) := by have := hq5.cell 2; simpa using this
    have d3 : wc.drew.cell? ⟨q3 + 1, 2, none⟩ = some (.int .i64 (28 + (n : Int))) := by have := hh5.cell 2; simpa using this
    have hqk := Lib.hid (And.intro hq5 hh5)
    have f5 : ¬ c2 = 20 := by omega
    have f7 : 20 ≤ 28 + n := by omega
    have f8 : (20 : Int) ≤ 28 + (n : Int) := by omega
    have f9 : 28 + (n : Int) ≤ (c2 : Int) := by omega
    have f10 : (20 : Int) ≤ ((28 + n : Nat) : Int) := by omega
    clear hr2 hP hq5 hh5
    go_wp2_with fail
    go_region_held3 (fun wS => wS.cell? ⟨q, 0, none⟩ = some (.int .u32 (src : Int)) ∧ wS.cell? ⟨q, 1, none⟩ = some (.int .u32 (dst : Int)) ∧ wS.cell? ⟨q, 2, none⟩ = some (.int .i64 17) ∧ wS.cell? ⟨q3 + 1, 2, none⟩ = some (.int .i64 (28 + (n : Int)))) (first | with_reducible exact ⟨d0, d1, d2, d3⟩ | with_reducible exact ⟨z0, z1, z2, z3⟩ | with_reducible exact ⟨y0, y1, y2, y3⟩)
      (first
      | (go_at_call 19; (with_reducible refine (CB1.out _).mono ?_); rintro e w5 ⟨A5, c5, rfl, hown5, hb5⟩; have hbk := hqk.out.1.drew.below hb5 hqk.out.1.lt; have hbh := hqk.out.2.drew.below hb5 hqk.out.2.lt; have z0 := hbk.cell 0; have z1 := hbk.cell 1; have z2 := hbk.cell 2; have z3 := hbh.cell 2; simp only [List.getElem?_toArray, List.getElem?_cons_zero, List.getElem?_cons_succ] at z0 z1 z2 z3)
      | (refine step_append_b rfl (.tmp 91) (.tmp 93) _ rfl 5 infoB Try.underlying25 wc.heap.size (.slice A5 20 c5) 20 D1 (by simp [Act.eval, Act.put]) hown5 w5.heap.size (some ⟨g, 20, none⟩) (8 + n) (c2 - 20) _ (by simp [Act.eval, Act.put]) ((HR2.out.drew.below hb5).more hb5.size) (28 + n) (by omega) (by omega) hb5.size ?_; intro A6 c6 w6 hown6 hb6 _ _; have hbk6 := hbk.below hb6 hqk.out.1.lt; have hbh6 := hbh.below hb6 hqk.out.2.lt; have y0 := hbk6.cell 0; have y1 := hbk6.cell 1; have y2 := hbk6.cell 2; have y3 := hbh6.cell 2; simp only [List.getElem?_toArray, List.getElem?_cons_zero, List.getElem?_cons_succ] at y0 y1 y2 y3))
    go_wp2_with fail
    have hb26 := (below_drew hb5).trans hb6
    have CPa := Lib.hid (CP1.out A6 c6 w6 _ hPl.out hPa.out (Reads.of_own hown6) (own_cap hown6))
    clear f8 f9 f10 z0 z1 z2 z3 y0 y1 y2 y3 d0 d1 d2 d3 hown5 hown6 hb5 hb6 CB1 CP1 hbk hbh f5 f7 hjj hjj'
    refine CPa.out.mono ?_
    rintro e w7 ⟨rfl, hb7⟩
    have hb27 := hB5.trans ((hb26.trans (hb7.mono hb26.size)).mono hs5)
    have hb28 := (hb27.alloc hb27.size (.cells #[.int .u32 0, .int .u32 0, .int .i64 0, .int .i64 0, .int .i64 0] 43)).alloc (by have := hb27.size; simp; omega) (.cells #[.int .i64 0, .int .i64 0, .int .i64 0, .int .i64 0, .int .i64 0, .int .i64 0, .int .i64 0, .int .i64 0, .int .i64 0, .int .u32 0, .int .u32 0] 24)
    clear CPa hb7 hb26 hb27
    go_wp2_with fail
    refine (awake21_any _).mono ?_
    rintro e w12 ⟨rfl, hb12⟩
    go_wp2_with fail
    go_ret
    exact ⟨rfl, hb28.trans (hb12.mono hb28.size)⟩

set_option maxHeartbeats 4000000 in
theorem lawWalk (k o : Tu) (ttl flags : Int) (A : Option Addr) (n c : Nat) (l : List Nat) (w : World) (hk : TuOk k) (ho : TuOk o) (httl : -9223372036854775808 ≤ ttl ∧ ttl ≤ 9223372036854775807) (hfl : -9223372036854775808 ≤ flags ∧ flags ≤ 9223372036854775807) (hi : BytesIn w A n c l) :
    Calls Try.prog 8 #[.agg k.vals, .agg o.vals, .int .i64 ttl, .int .i64 flags, .slice A n c] w fun e w' => e = .returned (.bool true) ∧ Below w.heap.size w w' := by
  have hr := hi.reads
  have ha := hi.all
  have hre := hi.reach
  clear hi ho hfl
  obtain ⟨src, dst, proto, sport, dport⟩ := k
  obtain ⟨osrc, odst, opr, osp, odp⟩ := o
  have hB0 := ((Below.refl w.heap.size w).alloc (Nat.le_refl _) (.cells #[.int .u32 (src : Int), .int .u32 (dst : Int), .int .i64 proto, .int .i64 sport, .int .i64 dport] 43)).alloc (by simp) (.cells #[.int .u32 (osrc : Int), .int .u32 (odst : Int), .int .i64 opr, .int .i64 osp, .int .i64 odp] 43)
  cases hm : mayTu ⟨src, dst, proto, sport, dport⟩ with
  | true =>
    by_cases hn : n ≤ 1000
    · rcases (mayTu_parts hm).1 with h | h
      · dsimp only at h
        subst h
        by_cases hz : (u64n flags % 256) &&& 5 = 0
        · exact back_6 src dst sport dport osrc odst opr osp odp ttl flags A n c _ l w hk hm httl hr (Nat.le_refl _) hn ha hz
        · exact back_e src dst sport dport osrc odst opr osp odp ttl flags A n c _ l w hk hm httl hr (Nat.le_refl _) hn ha hz
      · dsimp only at h
        subst h
        exact back_17 src dst sport dport osrc odst opr osp odp ttl flags A n c _ l w hk hm httl hr (Nat.le_refl _) hn ha
    · have hd : decide ((1000 : Int) < (n : Int)) = true := decide_eq_true (by omega)
      have CM := Lib.hid (fun w' => maytuple_any ⟨src, dst, proto, sport, dport⟩ w')
      rw [hm] at CM
      unfold Tu.vals at CM ⊢
      dsimp only at CM ⊢
      clear hm hr
      go_enter Try.func8, Try.ntmps8
      go_wp2_with fail
      refine (CM.out _).mono ?_
      rintro e w1 ⟨rfl, hb1⟩
      have hB1 := hB0.trans (hb1.mono hB0.size)
      clear hB0 hb1 CM
      go_wp2_with fail
      refine (awake21_any _).mono ?_
      rintro e w2 ⟨rfl, hb2⟩
      go_wp2_with fail
      go_ret
      exact ⟨rfl, hB1.trans (hb2.mono hB1.size)⟩
  | false =>
    have CM := Lib.hid (fun w' => maytuple_any ⟨src, dst, proto, sport, dport⟩ w')
    rw [hm] at CM
    unfold Tu.vals at CM ⊢
    dsimp only at CM ⊢
    clear hm hr
    go_enter Try.func8, Try.ntmps8
    go_wp2_with fail
    refine (CM.out _).mono ?_
    rintro e w1 ⟨rfl, hb1⟩
    have hB1 := hB0.trans (hb1.mono hB0.size)
    clear hB0 hb1 CM
    go_wp2_with fail
    refine (awake21_any _).mono ?_
    rintro e w2 ⟨rfl, hb2⟩
    go_wp2_with fail
    go_ret
    exact ⟨rfl, hB1.trans (hb2.mono hB1.size)⟩
end Go.Proofs.Ytpgbldpppdmdoaa.portsBack
