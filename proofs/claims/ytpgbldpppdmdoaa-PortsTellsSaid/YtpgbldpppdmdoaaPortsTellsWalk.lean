/- The walk of PortsTells (wip/genptells.py). -/
import Derived.Test.YtpgbldpppdmdoaaPacket
import Derived.Test.YtpgbldpppdmdoaaRefEnds
import Derived.Test.YtpgbldpppdmdoaaAwake21
import Derived.Test.YtpgbldpppdmdoaaOpenHd
import Derived.Test.YtpgbldpppdmdoaaEncapTwiceWalk
namespace Go.Proofs.Ytpgbldpppdmdoaa.portsTells
set_option linter.unusedVariables false
set_option linter.unusedSimpArgs false
open Go.RowKit

set_option maxHeartbeats 16000000 in
set_option maxRecDepth 100000 in
theorem lawWalk (k : Tu) (ttl flags : Int) (A : Option Addr) (n c : Nat) (l : List Nat) (h : Hd) (A2 : Option Addr) (n2 c2 : Nat) (ps : List Int) (x : Nat) (fix : Bool) (cut : Int) (A3 : Option Addr) (n3 c3 : Nat) (raw : List Nat) (w : World)
    (hk : TuOk k) (httl : -9223372036854775808 ≤ ttl ∧ ttl ≤ 9223372036854775807) (hflg : -9223372036854775808 ≤ flags ∧ flags ≤ 9223372036854775807) (hi : BytesIn w A n c l) (hok : HdOk h) (hp : IntsIn w A2 n2 c2 ps) (hx : x < 256) (hcut : -9223372036854775808 ≤ cut ∧ cut ≤ 9223372036854775807) (hi3 : BytesIn w A3 n3 c3 raw) :
    Calls Try.prog 7 #[.agg k.vals, .int .i64 ttl, .int .i64 flags, .slice A n c, .agg h.vals, .slice A2 n2 c2, .int .u8 (x : Int), .bool fix, .int .i64 cut, .slice A3 n3 c3] w fun e w' => e = .returned (.bool true) ∧ Below w.heap.size w w' := by
  have hr := hi.reads
  have ha := hi.all
  have hll := hr.length
  have hr2 := hp.reads
  have hle2 := hp.le
  have hre2 := hp.reach
  have hr3 := hi3.reads
  have hc3 := hi3.le
  have ha3 := hi3.all
  clear hi hp hi3 hcut hflg
  obtain ⟨src, dst, pr, sp, dp⟩ := k
  obtain ⟨fihl, ftos, flen, fid, fflags, foff, fttl, fproto, fsum, hsrc, hdst⟩ := h
  by_cases h1 : 1000 < n
  · unfold Hd.vals Tu.vals
    dsimp only
    go_enter Try.func7, Try.ntmps7
    go_wp2_with fail
    refine (awake21_any _).mono ?_
    rintro e w9 ⟨rfl, hb9⟩
    go_wp2_with fail
    go_ret
    have hB0 := ((Below.refl w.heap.size w).alloc (Nat.le_refl _) (.cells #[.int .u32 (src : Int), .int .u32 (dst : Int), .int .i64 pr, .int .i64 sp, .int .i64 dp] 43)).alloc (by simp) (.cells #[.int .i64 fihl, .int .i64 ftos, .int .i64 flen, .int .i64 fid, .int .i64 fflags, .int .i64 foff, .int .i64 fttl, .int .i64 fproto, .int .i64 fsum, .int .u32 (hsrc : Int), .int .u32 (hdst : Int)] 24)
    exact ⟨rfl, hB0.trans (hb9.mono hB0.size)⟩
  have hd1 : decide ((1000 : Int) < (n : Int)) = false := decide_eq_false (by omega)
  by_cases h2 : 2000 < n3
  · unfold Hd.vals Tu.vals
    dsimp only
    go_enter Try.func7, Try.ntmps7
    go_wp2_with fail
    refine (awake21_any _).mono ?_
    rintro e w9 ⟨rfl, hb9⟩
    go_wp2_with fail
    go_ret
    have hB0 := ((Below.refl w.heap.size w).alloc (Nat.le_refl _) (.cells #[.int .u32 (src : Int), .int .u32 (dst : Int), .int .i64 pr, .int .i64 sp, .int .i64 dp] 43)).alloc (by simp) (.cells #[.int .i64 fihl, .int .i64 ftos, .int .i64 flen, .int .i64 fid, .int .i64 fflags, .int .i64 foff, .int .i64 fttl, .int .i64 fproto, .int .i64 fsum, .int .u32 (hsrc : Int), .int .u32 (hdst : Int)] 24)
    exact ⟨rfl, hB0.trans (hb9.mono hB0.size)⟩
  have hd2 : decide ((2000 : Int) < (n3 : Int)) = false := decide_eq_false (by omega)
  have hB0 := ((Below.refl w.heap.size w).alloc (Nat.le_refl _) (.cells #[.int .u32 (src : Int), .int .u32 (dst : Int), .int .i64 pr, .int .i64 sp, .int .i64 dp] 43)).alloc (by simp) (.cells #[.int .i64 fihl, .int .i64 ftos, .int .i64 flen, .int .i64 fid, .int .i64 fflags, .int .i64 foff, .int .i64 fttl, .int .i64 fproto, .int .i64 fsum, .int .u32 (hsrc : Int), .int .u32 (hdst : Int)] 24)
  have hk0 := (Blk.new w 43 #[.int .u32 (src : Int), .int .u32 (dst : Int), .int .i64 pr, .int .i64 sp, .int .i64 dp]).alloc (.cells #[.int .i64 fihl, .int .i64 ftos, .int .i64 flen, .int .i64 fid, .int .i64 fflags, .int .i64 foff, .int .i64 fttl, .int .i64 fproto, .int .i64 fsum, .int .u32 (hsrc : Int), .int .u32 (hdst : Int)] 24)
  have hq0 : Blk ((w.alloc (.cells #[.int .u32 (src : Int), .int .u32 (dst : Int), .int .i64 pr, .int .i64 sp, .int .i64 dp] 43)).alloc (.cells #[.int .i64 fihl, .int .i64 ftos, .int .i64 flen, .int .i64 fid, .int .i64 fflags, .int .i64 foff, .int .i64 fttl, .int .i64 fproto, .int .i64 fsum, .int .u32 (hsrc : Int), .int .u32 (hdst : Int)] 24)) (w.heap.size + 1) 24 #[.int .i64 fihl, .int .i64 ftos, .int .i64 flen, .int .i64 fid, .int .i64 fflags, .int .i64 foff, .int .i64 fttl, .int .i64 fproto, .int .i64 fsum, .int .u32 (hsrc : Int), .int .u32 (hdst : Int)] := Blk.new_ (by simp)
  have CM := fun w' (hb : Below w.heap.size w w') => made_any ⟨src, dst, pr, sp, dp⟩ ttl flags A n c w'.heap.size l w' hk httl ((hr.below hb).more hb.size) (Nat.le_refl _) (by omega)
  have CP := fun w' (hb : Below w.heap.size w w') => packet_any ⟨fihl, ftos, flen, fid, fflags, foff, fttl, fproto, fsum, hsrc, hdst⟩ A n c w'.heap.size l A2 n2 c2 ps x fix cut w' hok ((hr.below hb).more hb.size) (Nat.le_refl _) (by omega) ha ((hr2.below hb).more hb.size) (by omega) hx
  have hml : (madeB ⟨src, dst, pr, sp, dp⟩ ttl flags l).length = 20 + ((if pr = 6 then 20 else 8) + l.length) := madeB_length _ _ _ _
  have hml1 : 20 < (madeB ⟨src, dst, pr, sp, dp⟩ ttl flags l).length ∧ (madeB ⟨src, dst, pr, sp, dp⟩ ttl flags l).length ≤ 2000 := by rw [hml, hll]; split <;> omega
  have hmall := madeB_all ⟨src, dst, pr, sp, dp⟩ ttl flags l ha
  unfold MadeRet at CM
  obtain ⟨D, hD⟩ : ∃ D, D = madeB ⟨src, dst, pr, sp, dp⟩ ttl flags l := ⟨_, rfl⟩
  rw [← hD] at CM hml1 hmall
  unfold Tu.vals at CM
  unfold Hd.vals at CP
  dsimp only at CM CP
  have CM := Lib.hid CM
  have CP := Lib.hid CP
  have HR2 := Lib.hid (fun w' (hb : Below w.heap.size w w') => (hr2.below hb).more hb.size)
  have HR3 := Lib.hid (fun w' (hb : Below w.heap.size w w') => (hr3.below hb).more hb.size)
  have HA3 := Lib.hid ha3
  have HMA := Lib.hid hmall
  obtain ⟨N, hN⟩ : ∃ N, N = D.length := ⟨_, rfl⟩
  rw [← hN] at hml1 CM
  obtain ⟨N1, N2⟩ := hml1
  have HN := Lib.hid hN
  have hn1 : n ≤ 1000 := by omega
  have hn3 : n3 ≤ 2000 := by omega
  clear hr hr2 hr3 ha ha3 hok h1 h2 hk httl hml hmall hD hN hll
  unfold Hd.vals Tu.vals
  dsimp only
  go_enter Try.func7, Try.ntmps7
  go_wp2_with fail
  refine (CM.out _ hB0).mono ?_
  rintro e w1 ⟨A1, N', c1, rfl, hNN, hown1, hb1⟩
  rw [hNN] at hown1 ⊢
  clear hNN
  obtain ⟨g, rfl, hg1, hg2⟩ := own_head hown1 (by omega)
  have hc1 := own_cap hown1
  have hB1 := hB0.trans (hb1.mono hB0.size)
  have hk1 := hk0.below hb1 hk0.lt
  have hq1 := hq0.below hb1 hq0.lt
  have hown1 := own_lower hown1 hB0.size
  have hgw : w.heap.size + 2 ≤ g := by simp at hg1; omega
  have hg0 : w.heap.size ≤ g := by omega
  obtain ⟨q, hqe⟩ : ∃ q, q = w.heap.size := ⟨_, rfl⟩
  rw [← hqe] at hk1 hq1 hgw ⊢
  have HQ := Lib.hid hqe
  clear hqe hb1 CM hk0 hq0 hB0 hg1 hg2
  go_wp2_with fail
  go_loopw [48] (fun i wr => ∃ (k : Nat) (m : List Nat), k ≤ n2 ∧ i = .int .i64 (k : Int) ∧ Hid (AllB m) ∧ Hid (m.length = N) ∧ wr.ownsRow w.heap.size 5 1 (.slice (some ⟨g, 0, none⟩) N c1) N (bv m) ∧ Below w.heap.size w wr ∧ Blk wr q 43 #[.int .u32 (src : Int), .int .u32 (dst : Int), .int .i64 pr, .int .i64 sp, .int .i64 dp] ∧ Blk wr (q + 1) 24 #[.int .i64 fihl, .int .i64 ftos, .int .i64 flen, .int .i64 fid, .int .i64 fflags, .int .i64 foff, .int .i64 fttl, .int .i64 fproto, .int .i64 fsum, .int .u32 (hsrc : Int), .int .u32 (hdst : Int)]) (fun i _ => n2 - (intOf i).toNat)
  case atStart => exact ⟨0, D, Nat.zero_le _, rfl, HMA, Lib.hid HN.out.symm, hown1, hB1, hk1, hq1⟩
  case round =>
    obtain ⟨k, m, hk, rfl, hma, hml, hown, hBw, hkw, hqw⟩ := hrel
    clear hown1 hB1 hk1 hq1 HN HMA
    by_cases hlt : k < n2
    · obtain ⟨ad, hl0, rfl, hc⟩ := ints_at (HR2.out wr hBw) hlt
      generalize ps[k] = p at *
      obtain ⟨j, hj, hje0⟩ := idx_rem p (N - 20) (by omega)
      have hje : (IntKind.u64.wrap p).tmod ((N : Int) - 20) = (j : Int) := by rw [← hje0]; congr 1; omega
      have hjl : 20 + j < m.length := by rw [hml.out]; omega
      have hcj := ownb_cell hown (20 + j) (by omega) hjl
      have hfj := hown.frozenAt (20 + j)
      have hold := hma.out _ (List.getElem_mem hjl)
      obtain ⟨o, ho⟩ : ∃ o, o = m[20 + j] := ⟨_, rfl⟩
      rw [← ho] at hcj hold
      have hxor := u8_xor_nat o x hold hx
      have hyl : o ^^^ x < 256 := Nat.xor_lt_two_pow (n := 8) hold hx
      obtain ⟨y, hy⟩ : ∃ y, y = o ^^^ x := ⟨_, rfl⟩
      rw [← hy] at hxor hyl
      have hst := Lib.hid (ownb_store hown (20 + j) y)
      have hma2 : Hid (AllB (m.set (20 + j) y)) := hma.out.set_ (20 + j) y hyl
      have hBs := Lib.hid (hBw.setCell (p := ⟨g, 20 + j, none⟩) hg0 (.int .u8 (y : Int)))
      have hks := Lib.hid (hkw.far (p := ⟨g, 20 + j, none⟩) (by show q ≠ g; omega) (.int .u8 (y : Int)))
      have hqs := Lib.hid (hqw.far (p := ⟨g, 20 + j, none⟩) (by show q + 1 ≠ g; omega) (.int .u8 (y : Int)))
      have hml2 : Hid ((m.set (20 + j) y).length = N) := by show _ = _; rw [List.length_set]; exact hml.out
      have HM := Lib.hid (And.intro hown (And.intro hBw (And.intro hkw hqw)))
      have j1 : (20 + (j : Int)).toNat = 20 + j := by omega
      have j2 : 20 + (j : Int) < (N : Int) := by omega
      have j3 : (0 : Int) ≤ 20 + (j : Int) := by omega
      have j4 : IntKind.i64.wrap (20 + (j : Int)) = 20 + (j : Int) := IntWalk.i64_in _ (by omega)
      have j5 : 20 + j < N := by omega
      have j6 : IntKind.u64.wrap ((N : Int) - 20) = (N : Int) - 20 := by rw [IntKind.wrap_u64]; omega
      have j7 : ¬ (N : Int) - 20 = 0 := by omega
      clear hje0 ho hy hown hBw hjl hkw hqw
      by_cases hk3 : k < 2
      · go_wp2_with fail
        go_roundw
        case rel => exact ⟨k + 1, m.set (20 + j) y, by omega, by go_num, hma2, hml2, hst.out, hBs.out, hks.out, hqs.out⟩
        case measure => simp [intOf]; omega
      · go_wp2_with fail
        go_roundw
        case rel => exact ⟨k + 1, m, by omega, by go_num, hma, hml, HM.out.1, HM.out.2.1, HM.out.2.2.1, HM.out.2.2.2⟩
        case measure => simp [intOf]; omega
    · have hkk : k = n2 := by omega
      subst hkk
      clear hlt hk HR2
      have cq0 := hqw.cell 0
      have cq1 := hqw.cell 1
      have cq2 := hqw.cell 2
      have cq3 := hqw.cell 3
      have cq4 := hqw.cell 4
      have cq5 := hqw.cell 5
      have cq6 := hqw.cell 6
      have cq7 := hqw.cell 7
      have cq8 := hqw.cell 8
      have cq9 := hqw.cell 9
      have cq10 := hqw.cell 10
      simp only [List.getElem?_toArray, List.getElem?_cons_zero, List.getElem?_cons_succ] at cq0 cq1 cq2 cq3 cq4 cq5 cq6 cq7 cq8 cq9 cq10
      have CPw := Lib.hid (CP.out wr hBw)
      clear CP
      go_wp2_with fail
      refine CPw.out.mono ?_
      rintro e w1 ⟨A4, m4, c4, l4, rfl, hc4, hm4, ha4, hr4, hb1⟩
      have hB1 := hBw.trans (hb1.mono hBw.size)
      have HK1 := Lib.hid (hkw.below hb1 hkw.lt)
      have HA4 := Lib.hid ha4
      have HR4 := Lib.hid (fun w' (hb : Below w1.heap.size w1 w') => (hr4.below hb).more hb.size)
      have HRW := Lib.hid (fun w' (hb : Below w1.heap.size w1 w') => (Reads.of_own (own_below (own_below hown hb1) hb)))
      have HRW2 := Lib.hid (fun w' (hb : Below w1.heap.size w1 w') => (HRW.out w' hb))
      have HB1 := Lib.hid hB1
      have i0 : ∀ w, (Instr.index 45 (.agg #[.slice (some ⟨g, 0, none⟩) N c1, .slice A4 m4 c4, .slice A3 n3 c3]) (.int .i64 0)).run Try.prog w = .ok (.slice (some ⟨g, 0, none⟩) N c1) w := fun _ => by kernel_rfl
      have i1 : ∀ w, (Instr.index 45 (.agg #[.slice (some ⟨g, 0, none⟩) N c1, .slice A4 m4 c4, .slice A3 n3 c3]) (.int .i64 1)).run Try.prog w = .ok (.slice A4 m4 c4) w := fun _ => by kernel_rfl
      have i2 : ∀ w, (Instr.index 45 (.agg #[.slice (some ⟨g, 0, none⟩) N c1, .slice A4 m4 c4, .slice A3 n3 c3]) (.int .i64 2)).run Try.prog w = .ok (.slice A3 n3 c3) w := fun _ => by kernel_rfl
      have hBz := Below.refl w1.heap.size w1
      clear hb1 CPw ha4 hr4 hB1 hle2 hre2 hx hown hBw hkw hqw cq0 cq1 cq2 cq3 cq4 cq5 cq6 cq7 cq8 cq9 cq10
      go_wp2_with fail
      go_loopw [81] (fun i wr => ∃ k : Nat, k ≤ 3 ∧ i = .int .i64 (k : Int) ∧ Below w1.heap.size w1 wr) (fun i _ => 3 - (intOf i).toNat)
      case atStart => exact ⟨0, by omega, rfl, hBz⟩
      case round =>
        obtain ⟨k, hk, rfl, hBw⟩ := hrel
        clear hBz
        by_cases hk0 : k = 0
        · subst hk0
          obtain ⟨T, hT⟩ : ∃ T, T = tuT m := ⟨_, rfl⟩
          obtain ⟨Y, hY⟩ : ∃ Y, Y = hdT m := ⟨_, rfl⟩
          obtain ⟨r, hr⟩ : ∃ r, r = whyT m := ⟨_, rfl⟩
          have P1 := ptuple_any (some ⟨g, 0, none⟩) N c1 wr.heap.size m wr (HRW.out wr hBw) (Nat.le_refl _) (by omega) (by omega) hma.out
          have P2 := fun w' (hb : Below w1.heap.size w1 w') => reftuple_any (some ⟨g, 0, none⟩) N c1 w'.heap.size m w' (HRW.out w' hb) (Nat.le_refl _) (by omega) (by omega) hma.out
          have E1 := fun (o : Tu) w' (hb : Below w1.heap.size w1 w') => ends_any o (some ⟨g, 0, none⟩) N c1 w'.heap.size m w' (HRW.out w' hb) (Nat.le_refl _) (by omega) (by omega) hma.out
          have E2 := fun (o : Tu) w' (hb : Below w1.heap.size w1 w') => refends_any o (some ⟨g, 0, none⟩) N c1 w'.heap.size m w' (HRW.out w' hb) (Nat.le_refl _) (by omega) (by omega) hma.out
          rw [← hT, ← hY, ← hr] at P1 P2
          clear hT hY hr
          obtain ⟨t0, t1, t2, t3, t4⟩ := T
          obtain ⟨y0, y1, y2, y3, y4, y5, y6, y7, y8, y9, y10⟩ := Y
          have Ek1 := E1 ⟨src, dst, pr, sp, dp⟩
          have Ek2 := E2 ⟨src, dst, pr, sp, dp⟩
          have Et1 := E1 ⟨t0, t1, t2, t3, t4⟩
          have Et2 := E2 ⟨t0, t1, t2, t3, t4⟩
          unfold Tu.vals at P1 P2 Ek1 Ek2 Et1 Et2
          unfold Hd.vals at P1 P2
          dsimp only at P1 P2 Ek1 Ek2 Et1 Et2
          generalize endsL ⟨src, dst, pr, sp, dp⟩ m = bk at Ek1 Ek2
          generalize endsL ⟨t0, t1, t2, t3, t4⟩ m = bt at Et1 Et2
          have P1 := Lib.hid P1
          have P2 := Lib.hid P2
          have EE := Lib.hid (And.intro Ek1 (And.intro Ek2 (And.intro Et1 Et2)))
          clear E1 E2 Ek1 Ek2 Et1 Et2
          go_wp2_with fail
          refine P1.out.mono ?_
          rintro e wa ⟨rfl, hba⟩
          have hBa := hBw.trans (hba.mono hBw.size)
          have hBa2 := (hBa.alloc hBa.size (.cells #[.int .u32 (t0 : Int), .int .u32 (t1 : Int), .int .i64 t2, .int .i64 t3, .int .i64 t4] 43)).alloc (by have := hBa.size; simp; omega) (.cells #[.int .i64 y0, .int .i64 y1, .int .i64 y2, .int .i64 y3, .int .i64 y4, .int .i64 y5, .int .i64 y6, .int .i64 y7, .int .i64 y8, .int .u32 (y9 : Int), .int .u32 (y10 : Int)] 24)
          have ht := (Blk.new wa 43 #[.int .u32 (t0 : Int), .int .u32 (t1 : Int), .int .i64 t2, .int .i64 t3, .int .i64 t4]).alloc (.cells #[.int .i64 y0, .int .i64 y1, .int .i64 y2, .int .i64 y3, .int .i64 y4, .int .i64 y5, .int .i64 y6, .int .i64 y7, .int .i64 y8, .int .u32 (y9 : Int), .int .u32 (y10 : Int)] 24)
          have hh : Blk ((wa.alloc (.cells #[.int .u32 (t0 : Int), .int .u32 (t1 : Int), .int .i64 t2, .int .i64 t3, .int .i64 t4] 43)).alloc (.cells #[.int .i64 y0, .int .i64 y1, .int .i64 y2, .int .i64 y3, .int .i64 y4, .int .i64 y5, .int .i64 y6, .int .i64 y7, .int .i64 y8, .int .u32 (y9 : Int), .int .u32 (y10 : Int)] 24)) (wa.heap.size + 1) 24 #[.int .i64 y0, .int .i64 y1, .int .i64 y2, .int .i64 y3, .int .i64 y4, .int .i64 y5, .int .i64 y6, .int .i64 y7, .int .i64 y8, .int .u32 (y9 : Int), .int .u32 (y10 : Int)] := Blk.new_ (by simp)
          have P2 := Lib.hid (P2.out _ hBa2)
          have HX := Lib.hid (And.intro ht (And.intro hh hBa2))
          obtain ⟨pa, hpa⟩ : ∃ pa, pa = wa.heap.size := ⟨_, rfl⟩
          rw [← hpa] at HX
          clear hba P1 hBa hBa2 ht hh hBw
          go_wp2_with fail
          rw [← hpa]
          clear hpa
          refine P2.out.mono ?_
          rintro e wb ⟨rfl, hbb⟩
          have hBb := HX.out.2.2.trans (hbb.mono HX.out.2.2.size)
          have hBc := (hBb.alloc hBb.size (.cells #[.int .u32 (t0 : Int), .int .u32 (t1 : Int), .int .i64 t2, .int .i64 t3, .int .i64 t4] 43)).alloc (by have := hBb.size; simp; omega) (.cells #[.int .i64 y0, .int .i64 y1, .int .i64 y2, .int .i64 y3, .int .i64 y4, .int .i64 y5, .int .i64 y6, .int .i64 y7, .int .i64 y8, .int .u32 (y9 : Int), .int .u32 (y10 : Int)] 24)
          have hta := ((HX.out.1.below hbb HX.out.1.lt).alloc (.cells #[.int .u32 (t0 : Int), .int .u32 (t1 : Int), .int .i64 t2, .int .i64 t3, .int .i64 t4] 43)).alloc (.cells #[.int .i64 y0, .int .i64 y1, .int .i64 y2, .int .i64 y3, .int .i64 y4, .int .i64 y5, .int .i64 y6, .int .i64 y7, .int .i64 y8, .int .u32 (y9 : Int), .int .u32 (y10 : Int)] 24)
          have hha := ((HX.out.2.1.below hbb HX.out.2.1.lt).alloc (.cells #[.int .u32 (t0 : Int), .int .u32 (t1 : Int), .int .i64 t2, .int .i64 t3, .int .i64 t4] 43)).alloc (.cells #[.int .i64 y0, .int .i64 y1, .int .i64 y2, .int .i64 y3, .int .i64 y4, .int .i64 y5, .int .i64 y6, .int .i64 y7, .int .i64 y8, .int .u32 (y9 : Int), .int .u32 (y10 : Int)] 24)
          have htb := (Blk.new wb 43 #[.int .u32 (t0 : Int), .int .u32 (t1 : Int), .int .i64 t2, .int .i64 t3, .int .i64 t4]).alloc (.cells #[.int .i64 y0, .int .i64 y1, .int .i64 y2, .int .i64 y3, .int .i64 y4, .int .i64 y5, .int .i64 y6, .int .i64 y7, .int .i64 y8, .int .u32 (y9 : Int), .int .u32 (y10 : Int)] 24)
          have hhb : Blk ((wb.alloc (.cells #[.int .u32 (t0 : Int), .int .u32 (t1 : Int), .int .i64 t2, .int .i64 t3, .int .i64 t4] 43)).alloc (.cells #[.int .i64 y0, .int .i64 y1, .int .i64 y2, .int .i64 y3, .int .i64 y4, .int .i64 y5, .int .i64 y6, .int .i64 y7, .int .i64 y8, .int .u32 (y9 : Int), .int .u32 (y10 : Int)] 24)) (wb.heap.size + 1) 24 #[.int .i64 y0, .int .i64 y1, .int .i64 y2, .int .i64 y3, .int .i64 y4, .int .i64 y5, .int .i64 y6, .int .i64 y7, .int .i64 y8, .int .u32 (y9 : Int), .int .u32 (y10 : Int)] := Blk.new_ (by simp)
          have hkk := HK1.out.below hBc HK1.out.lt
          have HT2 := Lib.hid (And.intro hta (And.intro hha (And.intro htb (And.intro hhb (And.intro hkk hBc)))))
          obtain ⟨pb, hpb⟩ : ∃ pb, pb = wb.heap.size := ⟨_, rfl⟩
          rw [← hpb] at HT2
          clear hbb P2 HX hBb hBc hta hha htb hhb hkk
          go_upto_region 15 with (fail)
          rw [← hpb]
          clear hpb
          generalize (wb.alloc (.cells #[.int .u32 (t0 : Int), .int .u32 (t1 : Int), .int .i64 t2, .int .i64 t3, .int .i64 t4] 43)).alloc (.cells #[.int .i64 y0, .int .i64 y1, .int .i64 y2, .int .i64 y3, .int .i64 y4, .int .i64 y5, .int .i64 y6, .int .i64 y7, .int .i64 y8, .int .u32 (y9 : Int), .int .u32 (y10 : Int)] 24) = v3 at *
          have QK := Lib.hid (fun w' (hq : Below v3.heap.size v3 w') => below_made hq (EE.out.1 w' (HT2.out.2.2.2.2.2.trans (hq.mono HT2.out.2.2.2.2.2.size))))
          have QR := Lib.hid (fun w' (hq : Below v3.heap.size v3 w') => below_made hq (EE.out.2.1 w' (HT2.out.2.2.2.2.2.trans (hq.mono HT2.out.2.2.2.2.2.size))))
          have QT := Lib.hid (fun w' (hq : Below v3.heap.size v3 w') => below_made hq (EE.out.2.2.1 w' (HT2.out.2.2.2.2.2.trans (hq.mono HT2.out.2.2.2.2.2.size))))
          have QS := Lib.hid (fun w' (hq : Below v3.heap.size v3 w') => below_made hq (EE.out.2.2.2 w' (HT2.out.2.2.2.2.2.trans (hq.mono HT2.out.2.2.2.2.2.size))))
          clear EE
          refine wp_region_below (by kernel_rfl) (by kernel_rfl) ?_
          go_big_quiet_want
          refine ⟨.agg #[.int .u32 (t0 : Int), .int .u32 (t1 : Int), .int .i64 t2, .int .i64 t3, .int .i64 t4], fun w' hw' => ?_, ?_⟩
          · have hz := HT2.out.1.below hw' HT2.out.1.lt
            have z0 := hz.cell 0
            have z1 := hz.cell 1
            have z2 := hz.cell 2
            have z3 := hz.cell 3
            have z4 := hz.cell 4
            simp only [List.getElem?_toArray, List.getElem?_cons_zero, List.getElem?_cons_succ] at z0 z1 z2 z3 z4
            clear hz
            unfold Oper.quietAt
            go_simp
          go_simp
          go_big_quiet_on
          repeat (go_big_quiet_step (first | with_reducible exact fun _ => rfl | with_reducible exact QK.out _ | with_reducible exact QR.out _ | with_reducible exact QT.out _ | with_reducible exact QS.out _))
          go_big_quiet_want
          refine ⟨.agg #[.int .u32 (t0 : Int), .int .u32 (t1 : Int), .int .i64 t2, .int .i64 t3, .int .i64 t4], fun w' hw' => ?_, ?_⟩
          · have hz := HT2.out.2.2.1.below hw' HT2.out.2.2.1.lt
            have z0 := hz.cell 0
            have z1 := hz.cell 1
            have z2 := hz.cell 2
            have z3 := hz.cell 3
            have z4 := hz.cell 4
            simp only [List.getElem?_toArray, List.getElem?_cons_zero, List.getElem?_cons_succ] at z0 z1 z2 z3 z4
            clear hz
            unfold Oper.quietAt
            go_simp
          go_simp
          go_big_quiet_on
          repeat (go_big_quiet_step (first | with_reducible exact fun _ => rfl | with_reducible exact QK.out _ | with_reducible exact QR.out _ | with_reducible exact QT.out _ | with_reducible exact QS.out _))
          go_big_quiet_want
          refine ⟨.agg #[.int .i64 y0, .int .i64 y1, .int .i64 y2, .int .i64 y3, .int .i64 y4, .int .i64 y5, .int .i64 y6, .int .i64 y7, .int .i64 y8, .int .u32 (y9 : Int), .int .u32 (y10 : Int)], fun w' hw' => ?_, ?_⟩
          · have hz := HT2.out.2.1.below hw' HT2.out.2.1.lt
            have z0 := hz.cell 0
            have z1 := hz.cell 1
            have z2 := hz.cell 2
            have z3 := hz.cell 3
            have z4 := hz.cell 4
            have z5 := hz.cell 5
            have z6 := hz.cell 6
            have z7 := hz.cell 7
            have z8 := hz.cell 8
            have z9 := hz.cell 9
            have z10 := hz.cell 10
            simp only [List.getElem?_toArray, List.getElem?_cons_zero, List.getElem?_cons_succ] at z0 z1 z2 z3 z4 z5 z6 z7 z8 z9 z10
            clear hz
            unfold Oper.quietAt
            go_simp
          go_simp
          go_big_quiet_on
          repeat (go_big_quiet_step (first | with_reducible exact fun _ => rfl | with_reducible exact QK.out _ | with_reducible exact QR.out _ | with_reducible exact QT.out _ | with_reducible exact QS.out _))
          go_big_quiet_want
          refine ⟨.agg #[.int .i64 y0, .int .i64 y1, .int .i64 y2, .int .i64 y3, .int .i64 y4, .int .i64 y5, .int .i64 y6, .int .i64 y7, .int .i64 y8, .int .u32 (y9 : Int), .int .u32 (y10 : Int)], fun w' hw' => ?_, ?_⟩
          · have hz := HT2.out.2.2.2.1.below hw' HT2.out.2.2.2.1.lt
            have z0 := hz.cell 0
            have z1 := hz.cell 1
            have z2 := hz.cell 2
            have z3 := hz.cell 3
            have z4 := hz.cell 4
            have z5 := hz.cell 5
            have z6 := hz.cell 6
            have z7 := hz.cell 7
            have z8 := hz.cell 8
            have z9 := hz.cell 9
            have z10 := hz.cell 10
            simp only [List.getElem?_toArray, List.getElem?_cons_zero, List.getElem?_cons_succ] at z0 z1 z2 z3 z4 z5 z6 z7 z8 z9 z10
            clear hz
            unfold Oper.quietAt
            go_simp
          go_simp
          go_big_quiet_on
          repeat (go_big_quiet_step (first | with_reducible exact fun _ => rfl | with_reducible exact QK.out _ | with_reducible exact QR.out _ | with_reducible exact QT.out _ | with_reducible exact QS.out _))
          go_big_quiet_want
          refine ⟨.agg #[.int .u32 (src : Int), .int .u32 (dst : Int), .int .i64 pr, .int .i64 sp, .int .i64 dp], fun w' hw' => ?_, ?_⟩
          · have hz := HT2.out.2.2.2.2.1.below hw' HT2.out.2.2.2.2.1.lt
            have z0 := hz.cell 0
            have z1 := hz.cell 1
            have z2 := hz.cell 2
            have z3 := hz.cell 3
            have z4 := hz.cell 4
            simp only [List.getElem?_toArray, List.getElem?_cons_zero, List.getElem?_cons_succ] at z0 z1 z2 z3 z4
            clear hz
            unfold Oper.quietAt
            go_simp
          go_simp
          go_big_quiet_on
          repeat (go_big_quiet_step (first | with_reducible exact fun _ => rfl | with_reducible exact QK.out _ | with_reducible exact QR.out _ | with_reducible exact QT.out _ | with_reducible exact QS.out _))
          go_big_quiet_want
          refine ⟨.agg #[.int .u32 (src : Int), .int .u32 (dst : Int), .int .i64 pr, .int .i64 sp, .int .i64 dp], fun w' hw' => ?_, ?_⟩
          · have hz := HT2.out.2.2.2.2.1.below hw' HT2.out.2.2.2.2.1.lt
            have z0 := hz.cell 0
            have z1 := hz.cell 1
            have z2 := hz.cell 2
            have z3 := hz.cell 3
            have z4 := hz.cell 4
            simp only [List.getElem?_toArray, List.getElem?_cons_zero, List.getElem?_cons_succ] at z0 z1 z2 z3 z4
            clear hz
            unfold Oper.quietAt
            go_simp
          go_simp
          go_big_quiet_on
          repeat (go_big_quiet_step (first | with_reducible exact fun _ => rfl | with_reducible exact QK.out _ | with_reducible exact QR.out _ | with_reducible exact QT.out _ | with_reducible exact QS.out _))
          go_big_quiet_want
          refine ⟨.agg #[.int .u32 (t0 : Int), .int .u32 (t1 : Int), .int .i64 t2, .int .i64 t3, .int .i64 t4], fun w' hw' => ?_, ?_⟩
          · have hz := HT2.out.1.below hw' HT2.out.1.lt
            have z0 := hz.cell 0
            have z1 := hz.cell 1
            have z2 := hz.cell 2
            have z3 := hz.cell 3
            have z4 := hz.cell 4
            simp only [List.getElem?_toArray, List.getElem?_cons_zero, List.getElem?_cons_succ] at z0 z1 z2 z3 z4
            clear hz
            unfold Oper.quietAt
            go_simp
          go_simp
          go_big_quiet_on
          repeat (go_big_quiet_step (first | with_reducible exact fun _ => rfl | with_reducible exact QK.out _ | with_reducible exact QR.out _ | with_reducible exact QT.out _ | with_reducible exact QS.out _))
          go_big_quiet_want
          refine ⟨.agg #[.int .u32 (t0 : Int), .int .u32 (t1 : Int), .int .i64 t2, .int .i64 t3, .int .i64 t4], fun w' hw' => ?_, ?_⟩
          · have hz := HT2.out.2.2.1.below hw' HT2.out.2.2.1.lt
            have z0 := hz.cell 0
            have z1 := hz.cell 1
            have z2 := hz.cell 2
            have z3 := hz.cell 3
            have z4 := hz.cell 4
            simp only [List.getElem?_toArray, List.getElem?_cons_zero, List.getElem?_cons_succ] at z0 z1 z2 z3 z4
            clear hz
            unfold Oper.quietAt
            go_simp
          go_simp
          go_big_quiet_on
          repeat (go_big_quiet_step (first | with_reducible exact fun _ => rfl | with_reducible exact QK.out _ | with_reducible exact QR.out _ | with_reducible exact QT.out _ | with_reducible exact QS.out _))
          refine wpQuiet_nil ?_
          intro w9 hb9
          have hB9 := HT2.out.2.2.2.2.2.trans (hb9.mono HT2.out.2.2.2.2.2.size)
          clear HT2 QK QR QT QS
          go_wp2_with fail
          go_roundw
          case rel => exact ⟨1, by omega, by go_num, hB9⟩
          case measure => simp [intOf]
        by_cases hk1 : k = 1
        · subst hk1
          obtain ⟨T, hT⟩ : ∃ T, T = tuT l4 := ⟨_, rfl⟩
          obtain ⟨Y, hY⟩ : ∃ Y, Y = hdT l4 := ⟨_, rfl⟩
          obtain ⟨r, hr⟩ : ∃ r, r = whyT l4 := ⟨_, rfl⟩
          have P1 := ptuple_any A4 m4 c4 wr.heap.size l4 wr (HR4.out wr hBw) (Nat.le_refl _) (by omega) (by omega) HA4.out
          have P2 := fun w' (hb : Below w1.heap.size w1 w') => reftuple_any A4 m4 c4 w'.heap.size l4 w' (HR4.out w' hb) (Nat.le_refl _) (by omega) (by omega) HA4.out
          have E1 := fun (o : Tu) w' (hb : Below w1.heap.size w1 w') => ends_any o A4 m4 c4 w'.heap.size l4 w' (HR4.out w' hb) (Nat.le_refl _) (by omega) (by omega) HA4.out
          have E2 := fun (o : Tu) w' (hb : Below w1.heap.size w1 w') => refends_any o A4 m4 c4 w'.heap.size l4 w' (HR4.out w' hb) (Nat.le_refl _) (by omega) (by omega) HA4.out
          rw [← hT, ← hY, ← hr] at P1 P2
          clear hT hY hr
          obtain ⟨t0, t1, t2, t3, t4⟩ := T
          obtain ⟨y0, y1, y2, y3, y4, y5, y6, y7, y8, y9, y10⟩ := Y
          have Ek1 := E1 ⟨src, dst, pr, sp, dp⟩
          have Ek2 := E2 ⟨src, dst, pr, sp, dp⟩
          have Et1 := E1 ⟨t0, t1, t2, t3, t4⟩
          have Et2 := E2 ⟨t0, t1, t2, t3, t4⟩
          unfold Tu.vals at P1 P2 Ek1 Ek2 Et1 Et2
          unfold Hd.vals at P1 P2
          dsimp only at P1 P2 Ek1 Ek2 Et1 Et2
          generalize endsL ⟨src, dst, pr, sp, dp⟩ l4 = bk at Ek1 Ek2
          generalize endsL ⟨t0, t1, t2, t3, t4⟩ l4 = bt at Et1 Et2
          have P1 := Lib.hid P1
          have P2 := Lib.hid P2
          have EE := Lib.hid (And.intro Ek1 (And.intro Ek2 (And.intro Et1 Et2)))
          clear E1 E2 Ek1 Ek2 Et1 Et2
          go_wp2_with fail
          refine P1.out.mono ?_
          rintro e wa ⟨rfl, hba⟩
          have hBa := hBw.trans (hba.mono hBw.size)
          have hBa2 := (hBa.alloc hBa.size (.cells #[.int .u32 (t0 : Int), .int .u32 (t1 : Int), .int .i64 t2, .int .i64 t3, .int .i64 t4] 43)).alloc (by have := hBa.size; simp; omega) (.cells #[.int .i64 y0, .int .i64 y1, .int .i64 y2, .int .i64 y3, .int .i64 y4, .int .i64 y5, .int .i64 y6, .int .i64 y7, .int .i64 y8, .int .u32 (y9 : Int), .int .u32 (y10 : Int)] 24)
          have ht := (Blk.new wa 43 #[.int .u32 (t0 : Int), .int .u32 (t1 : Int), .int .i64 t2, .int .i64 t3, .int .i64 t4]).alloc (.cells #[.int .i64 y0, .int .i64 y1, .int .i64 y2, .int .i64 y3, .int .i64 y4, .int .i64 y5, .int .i64 y6, .int .i64 y7, .int .i64 y8, .int .u32 (y9 : Int), .int .u32 (y10 : Int)] 24)
          have hh : Blk ((wa.alloc (.cells #[.int .u32 (t0 : Int), .int .u32 (t1 : Int), .int .i64 t2, .int .i64 t3, .int .i64 t4] 43)).alloc (.cells #[.int .i64 y0, .int .i64 y1, .int .i64 y2, .int .i64 y3, .int .i64 y4, .int .i64 y5, .int .i64 y6, .int .i64 y7, .int .i64 y8, .int .u32 (y9 : Int), .int .u32 (y10 : Int)] 24)) (wa.heap.size + 1) 24 #[.int .i64 y0, .int .i64 y1, .int .i64 y2, .int .i64 y3, .int .i64 y4, .int .i64 y5, .int .i64 y6, .int .i64 y7, .int .i64 y8, .int .u32 (y9 : Int), .int .u32 (y10 : Int)] := Blk.new_ (by simp)
          have P2 := Lib.hid (P2.out _ hBa2)
          have HX := Lib.hid (And.intro ht (And.intro hh hBa2))
          obtain ⟨pa, hpa⟩ : ∃ pa, pa = wa.heap.size := ⟨_, rfl⟩
          rw [← hpa] at HX
          clear hba P1 hBa hBa2 ht hh hBw
          go_wp2_with fail
          rw [← hpa]
          clear hpa
          refine P2.out.mono ?_
          rintro e wb ⟨rfl, hbb⟩
          have hBb := HX.out.2.2.trans (hbb.mono HX.out.2.2.size)
          have hBc := (hBb.alloc hBb.size (.cells #[.int .u32 (t0 : Int), .int .u32 (t1 : Int), .int .i64 t2, .int .i64 t3, .int .i64 t4] 43)).alloc (by have := hBb.size; simp; omega) (.cells #[.int .i64 y0, .int .i64 y1, .int .i64 y2, .int .i64 y3, .int .i64 y4, .int .i64 y5, .int .i64 y6, .int .i64 y7, .int .i64 y8, .int .u32 (y9 : Int), .int .u32 (y10 : Int)] 24)
          have hta := ((HX.out.1.below hbb HX.out.1.lt).alloc (.cells #[.int .u32 (t0 : Int), .int .u32 (t1 : Int), .int .i64 t2, .int .i64 t3, .int .i64 t4] 43)).alloc (.cells #[.int .i64 y0, .int .i64 y1, .int .i64 y2, .int .i64 y3, .int .i64 y4, .int .i64 y5, .int .i64 y6, .int .i64 y7, .int .i64 y8, .int .u32 (y9 : Int), .int .u32 (y10 : Int)] 24)
          have hha := ((HX.out.2.1.below hbb HX.out.2.1.lt).alloc (.cells #[.int .u32 (t0 : Int), .int .u32 (t1 : Int), .int .i64 t2, .int .i64 t3, .int .i64 t4] 43)).alloc (.cells #[.int .i64 y0, .int .i64 y1, .int .i64 y2, .int .i64 y3, .int .i64 y4, .int .i64 y5, .int .i64 y6, .int .i64 y7, .int .i64 y8, .int .u32 (y9 : Int), .int .u32 (y10 : Int)] 24)
          have htb := (Blk.new wb 43 #[.int .u32 (t0 : Int), .int .u32 (t1 : Int), .int .i64 t2, .int .i64 t3, .int .i64 t4]).alloc (.cells #[.int .i64 y0, .int .i64 y1, .int .i64 y2, .int .i64 y3, .int .i64 y4, .int .i64 y5, .int .i64 y6, .int .i64 y7, .int .i64 y8, .int .u32 (y9 : Int), .int .u32 (y10 : Int)] 24)
          have hhb : Blk ((wb.alloc (.cells #[.int .u32 (t0 : Int), .int .u32 (t1 : Int), .int .i64 t2, .int .i64 t3, .int .i64 t4] 43)).alloc (.cells #[.int .i64 y0, .int .i64 y1, .int .i64 y2, .int .i64 y3, .int .i64 y4, .int .i64 y5, .int .i64 y6, .int .i64 y7, .int .i64 y8, .int .u32 (y9 : Int), .int .u32 (y10 : Int)] 24)) (wb.heap.size + 1) 24 #[.int .i64 y0, .int .i64 y1, .int .i64 y2, .int .i64 y3, .int .i64 y4, .int .i64 y5, .int .i64 y6, .int .i64 y7, .int .i64 y8, .int .u32 (y9 : Int), .int .u32 (y10 : Int)] := Blk.new_ (by simp)
          have hkk := HK1.out.below hBc HK1.out.lt
          have HT2 := Lib.hid (And.intro hta (And.intro hha (And.intro htb (And.intro hhb (And.intro hkk hBc)))))
          obtain ⟨pb, hpb⟩ : ∃ pb, pb = wb.heap.size := ⟨_, rfl⟩
          rw [← hpb] at HT2
          clear hbb P2 HX hBb hBc hta hha htb hhb hkk
          go_upto_region 15 with (fail)
          rw [← hpb]
          clear hpb
          generalize (wb.alloc (.cells #[.int .u32 (t0 : Int), .int .u32 (t1 : Int), .int .i64 t2, .int .i64 t3, .int .i64 t4] 43)).alloc (.cells #[.int .i64 y0, .int .i64 y1, .int .i64 y2, .int .i64 y3, .int .i64 y4, .int .i64 y5, .int .i64 y6, .int .i64 y7, .int .i64 y8, .int .u32 (y9 : Int), .int .u32 (y10 : Int)] 24) = v3 at *
          have QK := Lib.hid (fun w' (hq : Below v3.heap.size v3 w') => below_made hq (EE.out.1 w' (HT2.out.2.2.2.2.2.trans (hq.mono HT2.out.2.2.2.2.2.size))))
          have QR := Lib.hid (fun w' (hq : Below v3.heap.size v3 w') => below_made hq (EE.out.2.1 w' (HT2.out.2.2.2.2.2.trans (hq.mono HT2.out.2.2.2.2.2.size))))
          have QT := Lib.hid (fun w' (hq : Below v3.heap.size v3 w') => below_made hq (EE.out.2.2.1 w' (HT2.out.2.2.2.2.2.trans (hq.mono HT2.out.2.2.2.2.2.size))))
          have QS := Lib.hid (fun w' (hq : Below v3.heap.size v3 w') => below_made hq (EE.out.2.2.2 w' (HT2.out.2.2.2.2.2.trans (hq.mono HT2.out.2.2.2.2.2.size))))
          clear EE
          refine wp_region_below (by kernel_rfl) (by kernel_rfl) ?_
          go_big_quiet_want
          refine ⟨.agg #[.int .u32 (t0 : Int), .int .u32 (t1 : Int), .int .i64 t2, .int .i64 t3, .int .i64 t4], fun w' hw' => ?_, ?_⟩
          · have hz := HT2.out.1.below hw' HT2.out.1.lt
            have z0 := hz.cell 0
            have z1 := hz.cell 1
            have z2 := hz.cell 2
            have z3 := hz.cell 3
            have z4 := hz.cell 4
            simp only [List.getElem?_toArray, List.getElem?_cons_zero, List.getElem?_cons_succ] at z0 z1 z2 z3 z4
            clear hz
            unfold Oper.quietAt
            go_simp
          go_simp
          go_big_quiet_on
          repeat (go_big_quiet_step (first | with_reducible exact fun _ => rfl | with_reducible exact QK.out _ | with_reducible exact QR.out _ | with_reducible exact QT.out _ | with_reducible exact QS.out _))
          go_big_quiet_want
          refine ⟨.agg #[.int .u32 (t0 : Int), .int .u32 (t1 : Int), .int .i64 t2, .int .i64 t3, .int .i64 t4], fun w' hw' => ?_, ?_⟩
          · have hz := HT2.out.2.2.1.below hw' HT2.out.2.2.1.lt
            have z0 := hz.cell 0
            have z1 := hz.cell 1
            have z2 := hz.cell 2
            have z3 := hz.cell 3
            have z4 := hz.cell 4
            simp only [List.getElem?_toArray, List.getElem?_cons_zero, List.getElem?_cons_succ] at z0 z1 z2 z3 z4
            clear hz
            unfold Oper.quietAt
            go_simp
          go_simp
          go_big_quiet_on
          repeat (go_big_quiet_step (first | with_reducible exact fun _ => rfl | with_reducible exact QK.out _ | with_reducible exact QR.out _ | with_reducible exact QT.out _ | with_reducible exact QS.out _))
          go_big_quiet_want
          refine ⟨.agg #[.int .i64 y0, .int .i64 y1, .int .i64 y2, .int .i64 y3, .int .i64 y4, .int .i64 y5, .int .i64 y6, .int .i64 y7, .int .i64 y8, .int .u32 (y9 : Int), .int .u32 (y10 : Int)], fun w' hw' => ?_, ?_⟩
          · have hz := HT2.out.2.1.below hw' HT2.out.2.1.lt
            have z0 := hz.cell 0
            have z1 := hz.cell 1
            have z2 := hz.cell 2
            have z3 := hz.cell 3
            have z4 := hz.cell 4
            have z5 := hz.cell 5
            have z6 := hz.cell 6
            have z7 := hz.cell 7
            have z8 := hz.cell 8
            have z9 := hz.cell 9
            have z10 := hz.cell 10
            simp only [List.getElem?_toArray, List.getElem?_cons_zero, List.getElem?_cons_succ] at z0 z1 z2 z3 z4 z5 z6 z7 z8 z9 z10
            clear hz
            unfold Oper.quietAt
            go_simp
          go_simp
          go_big_quiet_on
          repeat (go_big_quiet_step (first | with_reducible exact fun _ => rfl | with_reducible exact QK.out _ | with_reducible exact QR.out _ | with_reducible exact QT.out _ | with_reducible exact QS.out _))
          go_big_quiet_want
          refine ⟨.agg #[.int .i64 y0, .int .i64 y1, .int .i64 y2, .int .i64 y3, .int .i64 y4, .int .i64 y5, .int .i64 y6, .int .i64 y7, .int .i64 y8, .int .u32 (y9 : Int), .int .u32 (y10 : Int)], fun w' hw' => ?_, ?_⟩
          · have hz := HT2.out.2.2.2.1.below hw' HT2.out.2.2.2.1.lt
            have z0 := hz.cell 0
            have z1 := hz.cell 1
            have z2 := hz.cell 2
            have z3 := hz.cell 3
            have z4 := hz.cell 4
            have z5 := hz.cell 5
            have z6 := hz.cell 6
            have z7 := hz.cell 7
            have z8 := hz.cell 8
            have z9 := hz.cell 9
            have z10 := hz.cell 10
            simp only [List.getElem?_toArray, List.getElem?_cons_zero, List.getElem?_cons_succ] at z0 z1 z2 z3 z4 z5 z6 z7 z8 z9 z10
            clear hz
            unfold Oper.quietAt
            go_simp
          go_simp
          go_big_quiet_on
          repeat (go_big_quiet_step (first | with_reducible exact fun _ => rfl | with_reducible exact QK.out _ | with_reducible exact QR.out _ | with_reducible exact QT.out _ | with_reducible exact QS.out _))
          go_big_quiet_want
          refine ⟨.agg #[.int .u32 (src : Int), .int .u32 (dst : Int), .int .i64 pr, .int .i64 sp, .int .i64 dp], fun w' hw' => ?_, ?_⟩
          · have hz := HT2.out.2.2.2.2.1.below hw' HT2.out.2.2.2.2.1.lt
            have z0 := hz.cell 0
            have z1 := hz.cell 1
            have z2 := hz.cell 2
            have z3 := hz.cell 3
            have z4 := hz.cell 4
            simp only [List.getElem?_toArray, List.getElem?_cons_zero, List.getElem?_cons_succ] at z0 z1 z2 z3 z4
            clear hz
            unfold Oper.quietAt
            go_simp
          go_simp
          go_big_quiet_on
          repeat (go_big_quiet_step (first | with_reducible exact fun _ => rfl | with_reducible exact QK.out _ | with_reducible exact QR.out _ | with_reducible exact QT.out _ | with_reducible exact QS.out _))
          go_big_quiet_want
          refine ⟨.agg #[.int .u32 (src : Int), .int .u32 (dst : Int), .int .i64 pr, .int .i64 sp, .int .i64 dp], fun w' hw' => ?_, ?_⟩
          · have hz := HT2.out.2.2.2.2.1.below hw' HT2.out.2.2.2.2.1.lt
            have z0 := hz.cell 0
            have z1 := hz.cell 1
            have z2 := hz.cell 2
            have z3 := hz.cell 3
            have z4 := hz.cell 4
            simp only [List.getElem?_toArray, List.getElem?_cons_zero, List.getElem?_cons_succ] at z0 z1 z2 z3 z4
            clear hz
            unfold Oper.quietAt
            go_simp
          go_simp
          go_big_quiet_on
          repeat (go_big_quiet_step (first | with_reducible exact fun _ => rfl | with_reducible exact QK.out _ | with_reducible exact QR.out _ | with_reducible exact QT.out _ | with_reducible exact QS.out _))
          go_big_quiet_want
          refine ⟨.agg #[.int .u32 (t0 : Int), .int .u32 (t1 : Int), .int .i64 t2, .int .i64 t3, .int .i64 t4], fun w' hw' => ?_, ?_⟩
          · have hz := HT2.out.1.below hw' HT2.out.1.lt
            have z0 := hz.cell 0
            have z1 := hz.cell 1
            have z2 := hz.cell 2
            have z3 := hz.cell 3
            have z4 := hz.cell 4
            simp only [List.getElem?_toArray, List.getElem?_cons_zero, List.getElem?_cons_succ] at z0 z1 z2 z3 z4
            clear hz
            unfold Oper.quietAt
            go_simp
          go_simp
          go_big_quiet_on
          repeat (go_big_quiet_step (first | with_reducible exact fun _ => rfl | with_reducible exact QK.out _ | with_reducible exact QR.out _ | with_reducible exact QT.out _ | with_reducible exact QS.out _))
          go_big_quiet_want
          refine ⟨.agg #[.int .u32 (t0 : Int), .int .u32 (t1 : Int), .int .i64 t2, .int .i64 t3, .int .i64 t4], fun w' hw' => ?_, ?_⟩
          · have hz := HT2.out.2.2.1.below hw' HT2.out.2.2.1.lt
            have z0 := hz.cell 0
            have z1 := hz.cell 1
            have z2 := hz.cell 2
            have z3 := hz.cell 3
            have z4 := hz.cell 4
            simp only [List.getElem?_toArray, List.getElem?_cons_zero, List.getElem?_cons_succ] at z0 z1 z2 z3 z4
            clear hz
            unfold Oper.quietAt
            go_simp
          go_simp
          go_big_quiet_on
          repeat (go_big_quiet_step (first | with_reducible exact fun _ => rfl | with_reducible exact QK.out _ | with_reducible exact QR.out _ | with_reducible exact QT.out _ | with_reducible exact QS.out _))
          refine wpQuiet_nil ?_
          intro w9 hb9
          have hB9 := HT2.out.2.2.2.2.2.trans (hb9.mono HT2.out.2.2.2.2.2.size)
          clear HT2 QK QR QT QS
          go_wp2_with fail
          go_roundw
          case rel => exact ⟨2, by omega, by go_num, hB9⟩
          case measure => simp [intOf]
        by_cases hk2 : k = 2
        · subst hk2
          obtain ⟨T, hT⟩ : ∃ T, T = tuT raw := ⟨_, rfl⟩
          obtain ⟨Y, hY⟩ : ∃ Y, Y = hdT raw := ⟨_, rfl⟩
          obtain ⟨r, hr⟩ : ∃ r, r = whyT raw := ⟨_, rfl⟩
          have P1 := ptuple_any A3 n3 c3 wr.heap.size raw wr (HR3.out wr (HB1.out.trans (hBw.mono HB1.out.size))) (Nat.le_refl _) (by omega) (by omega) HA3.out
          have P2 := fun w' (hb : Below w1.heap.size w1 w') => reftuple_any A3 n3 c3 w'.heap.size raw w' (HR3.out w' (HB1.out.trans (hb.mono HB1.out.size))) (Nat.le_refl _) (by omega) (by omega) HA3.out
          have E1 := fun (o : Tu) w' (hb : Below w1.heap.size w1 w') => ends_any o A3 n3 c3 w'.heap.size raw w' (HR3.out w' (HB1.out.trans (hb.mono HB1.out.size))) (Nat.le_refl _) (by omega) (by omega) HA3.out
          have E2 := fun (o : Tu) w' (hb : Below w1.heap.size w1 w') => refends_any o A3 n3 c3 w'.heap.size raw w' (HR3.out w' (HB1.out.trans (hb.mono HB1.out.size))) (Nat.le_refl _) (by omega) (by omega) HA3.out
          rw [← hT, ← hY, ← hr] at P1 P2
          clear hT hY hr
          obtain ⟨t0, t1, t2, t3, t4⟩ := T
          obtain ⟨y0, y1, y2, y3, y4, y5, y6, y7, y8, y9, y10⟩ := Y
          have Ek1 := E1 ⟨src, dst, pr, sp, dp⟩
          have Ek2 := E2 ⟨src, dst, pr, sp, dp⟩
          have Et1 := E1 ⟨t0, t1, t2, t3, t4⟩
          have Et2 := E2 ⟨t0, t1, t2, t3, t4⟩
          unfold Tu.vals at P1 P2 Ek1 Ek2 Et1 Et2
          unfold Hd.vals at P1 P2
          dsimp only at P1 P2 Ek1 Ek2 Et1 Et2
          generalize endsL ⟨src, dst, pr, sp, dp⟩ raw = bk at Ek1 Ek2
          generalize endsL ⟨t0, t1, t2, t3, t4⟩ raw = bt at Et1 Et2
          have P1 := Lib.hid P1
          have P2 := Lib.hid P2
          have EE := Lib.hid (And.intro Ek1 (And.intro Ek2 (And.intro Et1 Et2)))
          clear E1 E2 Ek1 Ek2 Et1 Et2
          go_wp2_with fail
          refine P1.out.mono ?_
          rintro e wa ⟨rfl, hba⟩
          have hBa := hBw.trans (hba.mono hBw.size)
          have hBa2 := (hBa.alloc hBa.size (.cells #[.int .u32 (t0 : Int), .int .u32 (t1 : Int), .int .i64 t2, .int .i64 t3, .int .i64 t4] 43)).alloc (by have := hBa.size; simp; omega) (.cells #[.int .i64 y0, .int .i64 y1, .int .i64 y2, .int .i64 y3, .int .i64 y4, .int .i64 y5, .int .i64 y6, .int .i64 y7, .int .i64 y8, .int .u32 (y9 : Int), .int .u32 (y10 : Int)] 24)
          have ht := (Blk.new wa 43 #[.int .u32 (t0 : Int), .int .u32 (t1 : Int), .int .i64 t2, .int .i64 t3, .int .i64 t4]).alloc (.cells #[.int .i64 y0, .int .i64 y1, .int .i64 y2, .int .i64 y3, .int .i64 y4, .int .i64 y5, .int .i64 y6, .int .i64 y7, .int .i64 y8, .int .u32 (y9 : Int), .int .u32 (y10 : Int)] 24)
          have hh : Blk ((wa.alloc (.cells #[.int .u32 (t0 : Int), .int .u32 (t1 : Int), .int .i64 t2, .int .i64 t3, .int .i64 t4] 43)).alloc (.cells #[.int .i64 y0, .int .i64 y1, .int .i64 y2, .int .i64 y3, .int .i64 y4, .int .i64 y5, .int .i64 y6, .int .i64 y7, .int .i64 y8, .int .u32 (y9 : Int), .int .u32 (y10 : Int)] 24)) (wa.heap.size + 1) 24 #[.int .i64 y0, .int .i64 y1, .int .i64 y2, .int .i64 y3, .int .i64 y4, .int .i64 y5, .int .i64 y6, .int .i64 y7, .int .i64 y8, .int .u32 (y9 : Int), .int .u32 (y10 : Int)] := Blk.new_ (by simp)
          have P2 := Lib.hid (P2.out _ hBa2)
          have HX := Lib.hid (And.intro ht (And.intro hh hBa2))
          obtain ⟨pa, hpa⟩ : ∃ pa, pa = wa.heap.size := ⟨_, rfl⟩
          rw [← hpa] at HX
          clear hba P1 hBa hBa2 ht hh hBw
          go_wp2_with fail
          rw [← hpa]
          clear hpa
          refine P2.out.mono ?_
          rintro e wb ⟨rfl, hbb⟩
          have hBb := HX.out.2.2.trans (hbb.mono HX.out.2.2.size)
          have hBc := (hBb.alloc hBb.size (.cells #[.int .u32 (t0 : Int), .int .u32 (t1 : Int), .int .i64 t2, .int .i64 t3, .int .i64 t4] 43)).alloc (by have := hBb.size; simp; omega) (.cells #[.int .i64 y0, .int .i64 y1, .int .i64 y2, .int .i64 y3, .int .i64 y4, .int .i64 y5, .int .i64 y6, .int .i64 y7, .int .i64 y8, .int .u32 (y9 : Int), .int .u32 (y10 : Int)] 24)
          have hta := ((HX.out.1.below hbb HX.out.1.lt).alloc (.cells #[.int .u32 (t0 : Int), .int .u32 (t1 : Int), .int .i64 t2, .int .i64 t3, .int .i64 t4] 43)).alloc (.cells #[.int .i64 y0, .int .i64 y1, .int .i64 y2, .int .i64 y3, .int .i64 y4, .int .i64 y5, .int .i64 y6, .int .i64 y7, .int .i64 y8, .int .u32 (y9 : Int), .int .u32 (y10 : Int)] 24)
          have hha := ((HX.out.2.1.below hbb HX.out.2.1.lt).alloc (.cells #[.int .u32 (t0 : Int), .int .u32 (t1 : Int), .int .i64 t2, .int .i64 t3, .int .i64 t4] 43)).alloc (.cells #[.int .i64 y0, .int .i64 y1, .int .i64 y2, .int .i64 y3, .int .i64 y4, .int .i64 y5, .int .i64 y6, .int .i64 y7, .int .i64 y8, .int .u32 (y9 : Int), .int .u32 (y10 : Int)] 24)
          have htb := (Blk.new wb 43 #[.int .u32 (t0 : Int), .int .u32 (t1 : Int), .int .i64 t2, .int .i64 t3, .int .i64 t4]).alloc (.cells #[.int .i64 y0, .int .i64 y1, .int .i64 y2, .int .i64 y3, .int .i64 y4, .int .i64 y5, .int .i64 y6, .int .i64 y7, .int .i64 y8, .int .u32 (y9 : Int), .int .u32 (y10 : Int)] 24)
          have hhb : Blk ((wb.alloc (.cells #[.int .u32 (t0 : Int), .int .u32 (t1 : Int), .int .i64 t2, .int .i64 t3, .int .i64 t4] 43)).alloc (.cells #[.int .i64 y0, .int .i64 y1, .int .i64 y2, .int .i64 y3, .int .i64 y4, .int .i64 y5, .int .i64 y6, .int .i64 y7, .int .i64 y8, .int .u32 (y9 : Int), .int .u32 (y10 : Int)] 24)) (wb.heap.size + 1) 24 #[.int .i64 y0, .int .i64 y1, .int .i64 y2, .int .i64 y3, .int .i64 y4, .int .i64 y5, .int .i64 y6, .int .i64 y7, .int .i64 y8, .int .u32 (y9 : Int), .int .u32 (y10 : Int)] := Blk.new_ (by simp)
          have hkk := HK1.out.below hBc HK1.out.lt
          have HT2 := Lib.hid (And.intro hta (And.intro hha (And.intro htb (And.intro hhb (And.intro hkk hBc)))))
          obtain ⟨pb, hpb⟩ : ∃ pb, pb = wb.heap.size := ⟨_, rfl⟩
          rw [← hpb] at HT2
          clear hbb P2 HX hBb hBc hta hha htb hhb hkk
          go_upto_region 15 with (fail)
          rw [← hpb]
          clear hpb
          generalize (wb.alloc (.cells #[.int .u32 (t0 : Int), .int .u32 (t1 : Int), .int .i64 t2, .int .i64 t3, .int .i64 t4] 43)).alloc (.cells #[.int .i64 y0, .int .i64 y1, .int .i64 y2, .int .i64 y3, .int .i64 y4, .int .i64 y5, .int .i64 y6, .int .i64 y7, .int .i64 y8, .int .u32 (y9 : Int), .int .u32 (y10 : Int)] 24) = v3 at *
          have QK := Lib.hid (fun w' (hq : Below v3.heap.size v3 w') => below_made hq (EE.out.1 w' (HT2.out.2.2.2.2.2.trans (hq.mono HT2.out.2.2.2.2.2.size))))
          have QR := Lib.hid (fun w' (hq : Below v3.heap.size v3 w') => below_made hq (EE.out.2.1 w' (HT2.out.2.2.2.2.2.trans (hq.mono HT2.out.2.2.2.2.2.size))))
          have QT := Lib.hid (fun w' (hq : Below v3.heap.size v3 w') => below_made hq (EE.out.2.2.1 w' (HT2.out.2.2.2.2.2.trans (hq.mono HT2.out.2.2.2.2.2.size))))
          have QS := Lib.hid (fun w' (hq : Below v3.heap.size v3 w') => below_made hq (EE.out.2.2.2 w' (HT2.out.2.2.2.2.2.trans (hq.mono HT2.out.2.2.2.2.2.size))))
          clear EE
          refine wp_region_below (by kernel_rfl) (by kernel_rfl) ?_
          go_big_quiet_want
          refine ⟨.agg #[.int .u32 (t0 : Int), .int .u32 (t1 : Int), .int .i64 t2, .int .i64 t3, .int .i64 t4], fun w' hw' => ?_, ?_⟩
          · have hz := HT2.out.1.below hw' HT2.out.1.lt
            have z0 := hz.cell 0
            have z1 := hz.cell 1
            have z2 := hz.cell 2
            have z3 := hz.cell 3
            have z4 := hz.cell 4
            simp only [List.getElem?_toArray, List.getElem?_cons_zero, List.getElem?_cons_succ] at z0 z1 z2 z3 z4
            clear hz
            unfold Oper.quietAt
            go_simp
          go_simp
          go_big_quiet_on
          repeat (go_big_quiet_step (first | with_reducible exact fun _ => rfl | with_reducible exact QK.out _ | with_reducible exact QR.out _ | with_reducible exact QT.out _ | with_reducible exact QS.out _))
          go_big_quiet_want
          refine ⟨.agg #[.int .u32 (t0 : Int), .int .u32 (t1 : Int), .int .i64 t2, .int .i64 t3, .int .i64 t4], fun w' hw' => ?_, ?_⟩
          · have hz := HT2.out.2.2.1.below hw' HT2.out.2.2.1.lt
            have z0 := hz.cell 0
            have z1 := hz.cell 1
            have z2 := hz.cell 2
            have z3 := hz.cell 3
            have z4 := hz.cell 4
            simp only [List.getElem?_toArray, List.getElem?_cons_zero, List.getElem?_cons_succ] at z0 z1 z2 z3 z4
            clear hz
            unfold Oper.quietAt
            go_simp
          go_simp
          go_big_quiet_on
          repeat (go_big_quiet_step (first | with_reducible exact fun _ => rfl | with_reducible exact QK.out _ | with_reducible exact QR.out _ | with_reducible exact QT.out _ | with_reducible exact QS.out _))
          go_big_quiet_want
          refine ⟨.agg #[.int .i64 y0, .int .i64 y1, .int .i64 y2, .int .i64 y3, .int .i64 y4, .int .i64 y5, .int .i64 y6, .int .i64 y7, .int .i64 y8, .int .u32 (y9 : Int), .int .u32 (y10 : Int)], fun w' hw' => ?_, ?_⟩
          · have hz := HT2.out.2.1.below hw' HT2.out.2.1.lt
            have z0 := hz.cell 0
            have z1 := hz.cell 1
            have z2 := hz.cell 2
            have z3 := hz.cell 3
            have z4 := hz.cell 4
            have z5 := hz.cell 5
            have z6 := hz.cell 6
            have z7 := hz.cell 7
            have z8 := hz.cell 8
            have z9 := hz.cell 9
            have z10 := hz.cell 10
            simp only [List.getElem?_toArray, List.getElem?_cons_zero, List.getElem?_cons_succ] at z0 z1 z2 z3 z4 z5 z6 z7 z8 z9 z10
            clear hz
            unfold Oper.quietAt
            go_simp
          go_simp
          go_big_quiet_on
          repeat (go_big_quiet_step (first | with_reducible exact fun _ => rfl | with_reducible exact QK.out _ | with_reducible exact QR.out _ | with_reducible exact QT.out _ | with_reducible exact QS.out _))
          go_big_quiet_want
          refine ⟨.agg #[.int .i64 y0, .int .i64 y1, .int .i64 y2, .int .i64 y3, .int .i64 y4, .int .i64 y5, .int .i64 y6, .int .i64 y7, .int .i64 y8, .int .u32 (y9 : Int), .int .u32 (y10 : Int)], fun w' hw' => ?_, ?_⟩
          · have hz := HT2.out.2.2.2.1.below hw' HT2.out.2.2.2.1.lt
            have z0 := hz.cell 0
            have z1 := hz.cell 1
            have z2 := hz.cell 2
            have z3 := hz.cell 3
            have z4 := hz.cell 4
            have z5 := hz.cell 5
            have z6 := hz.cell 6
            have z7 := hz.cell 7
            have z8 := hz.cell 8
            have z9 := hz.cell 9
            have z10 := hz.cell 10
            simp only [List.getElem?_toArray, List.getElem?_cons_zero, List.getElem?_cons_succ] at z0 z1 z2 z3 z4 z5 z6 z7 z8 z9 z10
            clear hz
            unfold Oper.quietAt
            go_simp
          go_simp
          go_big_quiet_on
          repeat (go_big_quiet_step (first | with_reducible exact fun _ => rfl | with_reducible exact QK.out _ | with_reducible exact QR.out _ | with_reducible exact QT.out _ | with_reducible exact QS.out _))
          go_big_quiet_want
          refine ⟨.agg #[.int .u32 (src : Int), .int .u32 (dst : Int), .int .i64 pr, .int .i64 sp, .int .i64 dp], fun w' hw' => ?_, ?_⟩
          · have hz := HT2.out.2.2.2.2.1.below hw' HT2.out.2.2.2.2.1.lt
            have z0 := hz.cell 0
            have z1 := hz.cell 1
            have z2 := hz.cell 2
            have z3 := hz.cell 3
            have z4 := hz.cell 4
            simp only [List.getElem?_toArray, List.getElem?_cons_zero, List.getElem?_cons_succ] at z0 z1 z2 z3 z4
            clear hz
            unfold Oper.quietAt
            go_simp
          go_simp
          go_big_quiet_on
          repeat (go_big_quiet_step (first | with_reducible exact fun _ => rfl | with_reducible exact QK.out _ | with_reducible exact QR.out _ | with_reducible exact QT.out _ | with_reducible exact QS.out _))
          go_big_quiet_want
          refine ⟨.agg #[.int .u32 (src : Int), .int .u32 (dst : Int), .int .i64 pr, .int .i64 sp, .int .i64 dp], fun w' hw' => ?_, ?_⟩
          · have hz := HT2.out.2.2.2.2.1.below hw' HT2.out.2.2.2.2.1.lt
            have z0 := hz.cell 0
            have z1 := hz.cell 1
            have z2 := hz.cell 2
            have z3 := hz.cell 3
            have z4 := hz.cell 4
            simp only [List.getElem?_toArray, List.getElem?_cons_zero, List.getElem?_cons_succ] at z0 z1 z2 z3 z4
            clear hz
            unfold Oper.quietAt
            go_simp
          go_simp
          go_big_quiet_on
          repeat (go_big_quiet_step (first | with_reducible exact fun _ => rfl | with_reducible exact QK.out _ | with_reducible exact QR.out _ | with_reducible exact QT.out _ | with_reducible exact QS.out _))
          go_big_quiet_want
          refine ⟨.agg #[.int .u32 (t0 : Int), .int .u32 (t1 : Int), .int .i64 t2, .int .i64 t3, .int .i64 t4], fun w' hw' => ?_, ?_⟩
          · have hz := HT2.out.1.below hw' HT2.out.1.lt
            have z0 := hz.cell 0
            have z1 := hz.cell 1
            have z2 := hz.cell 2
            have z3 := hz.cell 3
            have z4 := hz.cell 4
            simp only [List.getElem?_toArray, List.getElem?_cons_zero, List.getElem?_cons_succ] at z0 z1 z2 z3 z4
            clear hz
            unfold Oper.quietAt
            go_simp
          go_simp
          go_big_quiet_on
          repeat (go_big_quiet_step (first | with_reducible exact fun _ => rfl | with_reducible exact QK.out _ | with_reducible exact QR.out _ | with_reducible exact QT.out _ | with_reducible exact QS.out _))
          go_big_quiet_want
          refine ⟨.agg #[.int .u32 (t0 : Int), .int .u32 (t1 : Int), .int .i64 t2, .int .i64 t3, .int .i64 t4], fun w' hw' => ?_, ?_⟩
          · have hz := HT2.out.2.2.1.below hw' HT2.out.2.2.1.lt
            have z0 := hz.cell 0
            have z1 := hz.cell 1
            have z2 := hz.cell 2
            have z3 := hz.cell 3
            have z4 := hz.cell 4
            simp only [List.getElem?_toArray, List.getElem?_cons_zero, List.getElem?_cons_succ] at z0 z1 z2 z3 z4
            clear hz
            unfold Oper.quietAt
            go_simp
          go_simp
          go_big_quiet_on
          repeat (go_big_quiet_step (first | with_reducible exact fun _ => rfl | with_reducible exact QK.out _ | with_reducible exact QR.out _ | with_reducible exact QT.out _ | with_reducible exact QS.out _))
          refine wpQuiet_nil ?_
          intro w9 hb9
          have hB9 := HT2.out.2.2.2.2.2.trans (hb9.mono HT2.out.2.2.2.2.2.size)
          clear HT2 QK QR QT QS
          go_wp2_with fail
          go_roundw
          case rel => exact ⟨3, by omega, by go_num, hB9⟩
          case measure => simp [intOf]
        obtain rfl : k = 3 := by omega
        have hB9 := HB1.out.trans (hBw.mono HB1.out.size)
        clear hk hk0 hk1 hk2 i0 i1 i2 hBw
        go_wp2_with fail
        refine (awake21_any _).mono ?_
        rintro e w11 ⟨rfl, hb11⟩
        go_wp2_with fail
        go_ret
        exact ⟨rfl, hB9.trans (hb11.mono hB9.size)⟩
end Go.Proofs.Ytpgbldpppdmdoaa.portsTells
