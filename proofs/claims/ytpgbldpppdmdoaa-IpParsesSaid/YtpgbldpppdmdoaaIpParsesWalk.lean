/- The walk of IpParses (wip/genparses.py). -/
import Derived.Test.YtpgbldpppdmdoaaPacket
import Derived.Test.YtpgbldpppdmdoaaIpGen
import Derived.Test.YtpgbldpppdmdoaaOpenHd
import Derived.Deep.RegionHeld3
import Derived.Deep.RegionHeld
namespace Go.Proofs.Ytpgbldpppdmdoaa.ipParses
set_option linter.unusedVariables false
set_option linter.unusedSimpArgs false
open Go.RowKit

set_option maxHeartbeats 16000000 in
set_option maxRecDepth 100000 in
theorem lawWalk (h : Hd) (A : Option Addr) (n c : Nat) (l : List Nat) (A2 : Option Addr) (n2 c2 : Nat) (ps : List Int) (x : Nat) (fix : Bool) (cut : Int) (A3 : Option Addr) (n3 c3 : Nat) (raw : List Nat) (w : World)
    (hok : HdOk h) (hi : BytesIn w A n c l) (hp : IntsIn w A2 n2 c2 ps) (hx : x < 256) (hcut : -9223372036854775808 ≤ cut ∧ cut ≤ 9223372036854775807) (hi3 : BytesIn w A3 n3 c3 raw) :
    Calls Try.prog 6 #[.agg h.vals, .slice A n c, .slice A2 n2 c2, .int .u8 (x : Int), .bool fix, .int .i64 cut, .slice A3 n3 c3] w fun e w' => e = .returned (.bool true) ∧ Below w.heap.size w w' := by
  have hr := hi.reads
  have ha := hi.all
  have hr2 := hp.reads
  have hle2 := hp.le
  have hre2 := hp.reach
  have hr3 := hi3.reads
  have hc3 := hi3.le
  have ha3 := hi3.all
  clear hi hp hi3 hcut
  obtain ⟨ihl, tos, len, id, flags, off, ttl, proto, sum, src, dst⟩ := h
  by_cases h1 : 2000 < n
  · unfold Hd.vals
    dsimp only
    go_enter Try.func6, Try.ntmps6
    go_wp2_with fail
    refine (awake20_any _).mono ?_
    rintro e w9 ⟨rfl, hb9⟩
    go_wp2_with fail
    go_ret
    have hB0 := (Below.refl w.heap.size w).alloc (Nat.le_refl _) (.cells #[.int .i64 ihl, .int .i64 tos, .int .i64 len, .int .i64 id, .int .i64 flags, .int .i64 off, .int .i64 ttl, .int .i64 proto, .int .i64 sum, .int .u32 (src : Int), .int .u32 (dst : Int)] 24)
    exact ⟨rfl, hB0.trans (hb9.mono hB0.size)⟩
  have hd1 : decide ((2000 : Int) < (n : Int)) = false := decide_eq_false (by omega)
  by_cases h2 : 2000 < n3
  · unfold Hd.vals
    dsimp only
    go_enter Try.func6, Try.ntmps6
    go_wp2_with fail
    refine (awake20_any _).mono ?_
    rintro e w9 ⟨rfl, hb9⟩
    go_wp2_with fail
    go_ret
    have hB0 := (Below.refl w.heap.size w).alloc (Nat.le_refl _) (.cells #[.int .i64 ihl, .int .i64 tos, .int .i64 len, .int .i64 id, .int .i64 flags, .int .i64 off, .int .i64 ttl, .int .i64 proto, .int .i64 sum, .int .u32 (src : Int), .int .u32 (dst : Int)] 24)
    exact ⟨rfl, hB0.trans (hb9.mono hB0.size)⟩
  have hd2 : decide ((2000 : Int) < (n3 : Int)) = false := decide_eq_false (by omega)
  have hB0 := (Below.refl w.heap.size w).alloc (Nat.le_refl _) (.cells #[.int .i64 ihl, .int .i64 tos, .int .i64 len, .int .i64 id, .int .i64 flags, .int .i64 off, .int .i64 ttl, .int .i64 proto, .int .i64 sum, .int .u32 (src : Int), .int .u32 (dst : Int)] 24)
  have hq0 := Blk.new w 24 #[.int .i64 ihl, .int .i64 tos, .int .i64 len, .int .i64 id, .int .i64 flags, .int .i64 off, .int .i64 ttl, .int .i64 proto, .int .i64 sum, .int .u32 (src : Int), .int .u32 (dst : Int)]
  have CP := Lib.hid (packet_any ⟨ihl, tos, len, id, flags, off, ttl, proto, sum, src, dst⟩ A n c (w.alloc (.cells #[.int .i64 ihl, .int .i64 tos, .int .i64 len, .int .i64 id, .int .i64 flags, .int .i64 off, .int .i64 ttl, .int .i64 proto, .int .i64 sum, .int .u32 (src : Int), .int .u32 (dst : Int)] 24)).heap.size l A2 n2 c2 ps x fix cut (w.alloc (.cells #[.int .i64 ihl, .int .i64 tos, .int .i64 len, .int .i64 id, .int .i64 flags, .int .i64 off, .int .i64 ttl, .int .i64 proto, .int .i64 sum, .int .u32 (src : Int), .int .u32 (dst : Int)] 24)) hok ((hr.alloc (Nat.le_refl _) _).more hB0.size) (Nat.le_refl _) (by omega) ha ((hr2.alloc (Nat.le_refl _) _).more hB0.size) (by omega) hx)
  have HR3 := Lib.hid (fun w' (hb : Below w.heap.size w w') => (hr3.below hb).more hb.size)
  have HA3 := Lib.hid ha3
  have HOK := Lib.hid hok
  have hn1 : n ≤ 2000 := by omega
  have hn3 : n3 ≤ 2000 := by omega
  clear hr hr2 hr3 ha ha3 hok h1 h2
  unfold Hd.vals at CP ⊢
  dsimp only at CP ⊢
  go_enter Try.func6, Try.ntmps6
  go_wp2_with fail
  obtain ⟨q, hqe⟩ : ∃ q, q = w.heap.size := ⟨_, rfl⟩
  rw [← hqe] at hq0 ⊢
  have HQ := Lib.hid hqe
  clear hqe
  generalize w.alloc (.cells #[.int .i64 ihl, .int .i64 tos, .int .i64 len, .int .i64 id, .int .i64 flags, .int .i64 off, .int .i64 ttl, .int .i64 proto, .int .i64 sum, .int .u32 (src : Int), .int .u32 (dst : Int)] 24) = v0 at *
  refine CP.out.mono ?_
  rintro e w1 ⟨A4, m4, c4, l4, rfl, hc4, hm4, ha4, hr4, hb1⟩
  have hB1 := hB0.trans (hb1.mono hB0.size)
  have hq1 := Lib.hid (hq0.below hb1 hq0.lt)
  have HA4 := Lib.hid ha4
  have HR4 := Lib.hid (fun w' (hb : Below w1.heap.size w1 w') => (hr4.below hb).more hb.size)
  have HB1 := Lib.hid hB1
  have i0 : ∀ w, (Instr.index 39 (.agg #[.slice A4 m4 c4, .slice A3 n3 c3]) (.int .i64 0)).run Try.prog w = .ok (.slice A4 m4 c4) w := fun _ => by kernel_rfl
  have i1 : ∀ w, (Instr.index 39 (.agg #[.slice A4 m4 c4, .slice A3 n3 c3]) (.int .i64 1)).run Try.prog w = .ok (.slice A3 n3 c3) w := fun _ => by kernel_rfl
  have hBz := Below.refl w1.heap.size w1
  clear hq0 hB0 hb1 CP ha4 hr4 hB1 hle2 hre2 hx
  go_wp2_with fail
  go_loopw [41] (fun i wr => ∃ k : Nat, k ≤ 2 ∧ i = .int .i64 (k : Int) ∧ Below w1.heap.size w1 wr) (fun i _ => 2 - (intOf i).toNat)
  case atStart => exact ⟨0, by omega, rfl, hBz⟩
  case round =>
    obtain ⟨k, hk, rfl, hBw⟩ := hrel
    clear hBz
    by_cases hk0 : k = 0
    · subst hk0
      obtain ⟨y0, y1, y2, y3, y4, y5, y6, y7, y8, y9, y10, hy⟩ := hdQ_names l4
      have HY := Lib.hid hy
      have P1 := Lib.hid (parse_any A4 m4 c4 wr.heap.size l4 wr (HR4.out wr hBw) (Nat.le_refl _) (by omega) (by omega) HA4.out)
      clear hy
      go_wp2_with fail
      refine P1.out.mono ?_
      rintro e wa ⟨hret, hba⟩
      obtain ⟨Aa, ca, rfl, howna⟩ := hret.gen
      rw [HY.out]
      have hBa := hBw.trans (hba.mono hBw.size)
      have hbk := Blk.new wa 24 #[.int .i64 y0, .int .i64 y1, .int .i64 y2, .int .i64 y3, .int .i64 y4, .int .i64 y5, .int .i64 y6, .int .i64 y7, .int .i64 y8, .int .u32 (y9 : Int), .int .u32 (y10 : Int)]
      have hB2 := hBa.alloc hBa.size (.cells #[.int .i64 y0, .int .i64 y1, .int .i64 y2, .int .i64 y3, .int .i64 y4, .int .i64 y5, .int .i64 y6, .int .i64 y7, .int .i64 y8, .int .u32 (y9 : Int), .int .u32 (y10 : Int)] 24)
      have P2 := Lib.hid (refparse_any A4 m4 c4 (wa.alloc (.cells #[.int .i64 y0, .int .i64 y1, .int .i64 y2, .int .i64 y3, .int .i64 y4, .int .i64 y5, .int .i64 y6, .int .i64 y7, .int .i64 y8, .int .u32 (y9 : Int), .int .u32 (y10 : Int)] 24)).heap.size l4 (wa.alloc (.cells #[.int .i64 y0, .int .i64 y1, .int .i64 y2, .int .i64 y3, .int .i64 y4, .int .i64 y5, .int .i64 y6, .int .i64 y7, .int .i64 y8, .int .u32 (y9 : Int), .int .u32 (y10 : Int)] 24)) (HR4.out (wa.alloc (.cells #[.int .i64 y0, .int .i64 y1, .int .i64 y2, .int .i64 y3, .int .i64 y4, .int .i64 y5, .int .i64 y6, .int .i64 y7, .int .i64 y8, .int .u32 (y9 : Int), .int .u32 (y10 : Int)] 24)) hB2) (Nat.le_refl _) (by omega) (by omega) HA4.out)
      have HOa := Lib.hid (howna.alloc (.cells #[.int .i64 y0, .int .i64 y1, .int .i64 y2, .int .i64 y3, .int .i64 y4, .int .i64 y5, .int .i64 y6, .int .i64 y7, .int .i64 y8, .int .u32 (y9 : Int), .int .u32 (y10 : Int)] 24))
      clear hret hba P1 hBa howna
      go_wp2_with fail
      refine P2.out.mono ?_
      rintro e wb ⟨hret, hbb⟩
      obtain ⟨Ab, cb, rfl, hownb⟩ := hret.gen
      rw [HY.out]
      obtain ⟨q, hq⟩ : ∃ q, q = bodyQ l4 := ⟨_, rfl⟩
      have hqa : AllB q := by rw [hq]; exact bodyQ_all HA4.out
      rw [← hq] at hownb HOa ⊢
      clear hq
      have hoa2 := own_below HOa.out hbb
      have S1 := fun T => run_string_back (P := Try.prog) (w := wb.alloc T) (c := ca) 25 9 5 Try.underlying25 Try.underlying5 Try.underlying9 ((Reads.of_own hoa2).alloc (Nat.le_refl _) T) hqa
      have S2 := fun T => run_string_back (P := Try.prog) (w := wb.alloc T) (c := cb) 25 9 5 Try.underlying25 Try.underlying5 Try.underlying9 ((Reads.of_own hownb).alloc (Nat.le_refl _) T) hqa
      have hbk2 := (hbk.below hbb hbk.lt).alloc (.cells #[.int .i64 y0, .int .i64 y1, .int .i64 y2, .int .i64 y3, .int .i64 y4, .int .i64 y5, .int .i64 y6, .int .i64 y7, .int .i64 y8, .int .u32 (y9 : Int), .int .u32 (y10 : Int)] 24)
      have hB3 := hB2.trans (hbb.mono hB2.size)
      have hB4 := Lib.hid (hB3.alloc hB3.size (.cells #[.int .i64 y0, .int .i64 y1, .int .i64 y2, .int .i64 y3, .int .i64 y4, .int .i64 y5, .int .i64 y6, .int .i64 y7, .int .i64 y8, .int .u32 (y9 : Int), .int .u32 (y10 : Int)] 24))
      have e0 := hbk2.cell 0
      have e1 := hbk2.cell 1
      have e2 := hbk2.cell 2
      have e3 := hbk2.cell 3
      have e4 := hbk2.cell 4
      have e5 := hbk2.cell 5
      have e6 := hbk2.cell 6
      have e7 := hbk2.cell 7
      have e8 := hbk2.cell 8
      have e9 := hbk2.cell 9
      have e10 := hbk2.cell 10
      simp only [List.getElem?_toArray, List.getElem?_cons_zero, List.getElem?_cons_succ] at e0 e1 e2 e3 e4 e5 e6 e7 e8 e9 e10
      clear hret hbb P2 hownb HOa hoa2 hbk hbk2 hB2 hB3 hqa HY hBw
      go_wp2_with fail
      go_roundw
      case rel => exact ⟨1, by omega, by go_num, hB4.out⟩
      case measure => simp [intOf]
    by_cases hk1 : k = 1
    · subst hk1
      obtain ⟨y0, y1, y2, y3, y4, y5, y6, y7, y8, y9, y10, hy⟩ := hdQ_names raw
      have HY := Lib.hid hy
      have P1 := Lib.hid (parse_any A3 n3 c3 wr.heap.size raw wr (HR3.out wr (HB1.out.trans (hBw.mono HB1.out.size))) (Nat.le_refl _) (by omega) (by omega) HA3.out)
      clear hy
      go_wp2_with fail
      refine P1.out.mono ?_
      rintro e wa ⟨hret, hba⟩
      obtain ⟨Aa, ca, rfl, howna⟩ := hret.gen
      rw [HY.out]
      have hBa := hBw.trans (hba.mono hBw.size)
      have hbk := Blk.new wa 24 #[.int .i64 y0, .int .i64 y1, .int .i64 y2, .int .i64 y3, .int .i64 y4, .int .i64 y5, .int .i64 y6, .int .i64 y7, .int .i64 y8, .int .u32 (y9 : Int), .int .u32 (y10 : Int)]
      have hB2 := hBa.alloc hBa.size (.cells #[.int .i64 y0, .int .i64 y1, .int .i64 y2, .int .i64 y3, .int .i64 y4, .int .i64 y5, .int .i64 y6, .int .i64 y7, .int .i64 y8, .int .u32 (y9 : Int), .int .u32 (y10 : Int)] 24)
      have P2 := Lib.hid (refparse_any A3 n3 c3 (wa.alloc (.cells #[.int .i64 y0, .int .i64 y1, .int .i64 y2, .int .i64 y3, .int .i64 y4, .int .i64 y5, .int .i64 y6, .int .i64 y7, .int .i64 y8, .int .u32 (y9 : Int), .int .u32 (y10 : Int)] 24)).heap.size raw (wa.alloc (.cells #[.int .i64 y0, .int .i64 y1, .int .i64 y2, .int .i64 y3, .int .i64 y4, .int .i64 y5, .int .i64 y6, .int .i64 y7, .int .i64 y8, .int .u32 (y9 : Int), .int .u32 (y10 : Int)] 24)) (HR3.out (wa.alloc (.cells #[.int .i64 y0, .int .i64 y1, .int .i64 y2, .int .i64 y3, .int .i64 y4, .int .i64 y5, .int .i64 y6, .int .i64 y7, .int .i64 y8, .int .u32 (y9 : Int), .int .u32 (y10 : Int)] 24)) (HB1.out.trans (hB2.mono HB1.out.size))) (Nat.le_refl _) (by omega) (by omega) HA3.out)
      have HOa := Lib.hid (howna.alloc (.cells #[.int .i64 y0, .int .i64 y1, .int .i64 y2, .int .i64 y3, .int .i64 y4, .int .i64 y5, .int .i64 y6, .int .i64 y7, .int .i64 y8, .int .u32 (y9 : Int), .int .u32 (y10 : Int)] 24))
      clear hret hba P1 hBa howna
      go_wp2_with fail
      refine P2.out.mono ?_
      rintro e wb ⟨hret, hbb⟩
      obtain ⟨Ab, cb, rfl, hownb⟩ := hret.gen
      rw [HY.out]
      obtain ⟨q, hq⟩ : ∃ q, q = bodyQ raw := ⟨_, rfl⟩
      have hqa : AllB q := by rw [hq]; exact bodyQ_all HA3.out
      rw [← hq] at hownb HOa ⊢
      clear hq
      have hoa2 := own_below HOa.out hbb
      have S1 := fun T => run_string_back (P := Try.prog) (w := wb.alloc T) (c := ca) 25 9 5 Try.underlying25 Try.underlying5 Try.underlying9 ((Reads.of_own hoa2).alloc (Nat.le_refl _) T) hqa
      have S2 := fun T => run_string_back (P := Try.prog) (w := wb.alloc T) (c := cb) 25 9 5 Try.underlying25 Try.underlying5 Try.underlying9 ((Reads.of_own hownb).alloc (Nat.le_refl _) T) hqa
      have hbk2 := (hbk.below hbb hbk.lt).alloc (.cells #[.int .i64 y0, .int .i64 y1, .int .i64 y2, .int .i64 y3, .int .i64 y4, .int .i64 y5, .int .i64 y6, .int .i64 y7, .int .i64 y8, .int .u32 (y9 : Int), .int .u32 (y10 : Int)] 24)
      have hB3 := hB2.trans (hbb.mono hB2.size)
      have hB4 := Lib.hid (hB3.alloc hB3.size (.cells #[.int .i64 y0, .int .i64 y1, .int .i64 y2, .int .i64 y3, .int .i64 y4, .int .i64 y5, .int .i64 y6, .int .i64 y7, .int .i64 y8, .int .u32 (y9 : Int), .int .u32 (y10 : Int)] 24))
      have e0 := hbk2.cell 0
      have e1 := hbk2.cell 1
      have e2 := hbk2.cell 2
      have e3 := hbk2.cell 3
      have e4 := hbk2.cell 4
      have e5 := hbk2.cell 5
      have e6 := hbk2.cell 6
      have e7 := hbk2.cell 7
      have e8 := hbk2.cell 8
      have e9 := hbk2.cell 9
      have e10 := hbk2.cell 10
      simp only [List.getElem?_toArray, List.getElem?_cons_zero, List.getElem?_cons_succ] at e0 e1 e2 e3 e4 e5 e6 e7 e8 e9 e10
      clear hret hbb P2 hownb HOa hoa2 hbk hbk2 hB2 hB3 hqa HY hBw
      go_wp2_with fail
      go_roundw
      case rel => exact ⟨2, by omega, by go_num, hB4.out⟩
      case measure => simp [intOf]
    obtain rfl : k = 2 := by omega
    clear hk hk0 hk1 i0 i1
    go_wp2_with fail
    have CBI := Lib.hid (fun w' => build_any ⟨ihl, tos, len, id, flags, off, ttl, proto, sum, src, dst⟩ w' HOK.out)
    have CBR := Lib.hid (fun w' => refbuild_any ⟨ihl, tos, len, id, flags, off, ttl, proto, sum, src, dst⟩ w' HOK.out)
    obtain ⟨D, hD⟩ : ∃ D, D = buildB ⟨ihl, tos, len, id, flags, off, ttl, proto, sum, src, dst⟩ := ⟨_, rfl⟩
    have HD : Hid (AllB D) := by rw [hD]; exact buildB_all _
    rw [← hD] at CBI CBR
    unfold Hd.vals at CBI CBR
    dsimp only at CBI CBR
    have hqr := (hq1.out.below hBw hq1.out.lt).drew
    have hBd := (HB1.out.trans (hBw.mono HB1.out.size)).drew
    clear hD HOK HR3 HA3 HA4 HR4 hBw
    have d0 := hqr.cell 0
    have d1 := hqr.cell 1
    have d2 := hqr.cell 2
    have d3 := hqr.cell 3
    have d4 := hqr.cell 4
    have d5 := hqr.cell 5
    have d6 := hqr.cell 6
    have d7 := hqr.cell 7
    have d8 := hqr.cell 8
    have d9 := hqr.cell 9
    have d10 := hqr.cell 10
    simp only [List.getElem?_toArray, List.getElem?_cons_zero, List.getElem?_cons_succ] at d0 d1 d2 d3 d4 d5 d6 d7 d8 d9 d10
    have HQR := Lib.hid hqr
    have HBD := Lib.hid hBd
    clear hqr hBd
    go_region_held (fun wS => wS.cell? ⟨q, 0, none⟩ = some (.int .i64 ihl) ∧ wS.cell? ⟨q, 1, none⟩ = some (.int .i64 tos) ∧ wS.cell? ⟨q, 2, none⟩ = some (.int .i64 len) ∧ wS.cell? ⟨q, 3, none⟩ = some (.int .i64 id) ∧ wS.cell? ⟨q, 4, none⟩ = some (.int .i64 flags) ∧ wS.cell? ⟨q, 5, none⟩ = some (.int .i64 off) ∧ wS.cell? ⟨q, 6, none⟩ = some (.int .i64 ttl) ∧ wS.cell? ⟨q, 7, none⟩ = some (.int .i64 proto) ∧ wS.cell? ⟨q, 8, none⟩ = some (.int .i64 sum) ∧ wS.cell? ⟨q, 9, none⟩ = some (.int .u32 (src : Int)) ∧ wS.cell? ⟨q, 10, none⟩ = some (.int .u32 (dst : Int))) (first | with_reducible exact ⟨d0, d1, d2, d3, d4, d5, d6, d7, d8, d9, d10⟩ | with_reducible exact ⟨z0, z1, z2, z3, z4, z5, z6, z7, z8, z9, z10⟩ | with_reducible exact ⟨y0, y1, y2, y3, y4, y5, y6, y7, y8, y9, y10⟩ | with_reducible exact ⟨x0, x1, x2, x3, x4, x5, x6, x7, x8, x9, x10⟩ | with_reducible exact ⟨v0, v1, v2, v3, v4, v5, v6, v7, v8, v9, v10⟩ | with_reducible exact ⟨t0, t1, t2, t3, t4, t5, t6, t7, t8, t9, t10⟩)
      (first
      | (go_at_call 14; (with_reducible refine (CBI.out _).mono ?_); rintro e u1 ⟨A7, c7, rfl, ho7, hb7⟩; have hk1 := HQR.out.below hb7 HQR.out.lt; have z0 := hk1.cell 0; have z1 := hk1.cell 1; have z2 := hk1.cell 2; have z3 := hk1.cell 3; have z4 := hk1.cell 4; have z5 := hk1.cell 5; have z6 := hk1.cell 6; have z7 := hk1.cell 7; have z8 := hk1.cell 8; have z9 := hk1.cell 9; have z10 := hk1.cell 10; simp only [List.getElem?_toArray, List.getElem?_cons_zero, List.getElem?_cons_succ] at z0 z1 z2 z3 z4 z5 z6 z7 z8 z9 z10; have HK1 := Lib.hid hk1; have HO7 := Lib.hid ho7; have S74 := run_string_back (P := Try.prog) (w := u1) (c := c7) 25 9 5 Try.underlying25 Try.underlying5 Try.underlying9 (Reads.of_own HO7.out) HD.out; have HU1 := Lib.hid (HBD.out.trans (hb7.mono HBD.out.size)); clear hk1 ho7 hb7)
      | (go_at_call 19; (with_reducible refine (CBR.out _).mono ?_); rintro e u2 ⟨A8, c8, rfl, ho8, hb8⟩; have hk2 := HK1.out.below hb8 HK1.out.lt; have y0 := hk2.cell 0; have y1 := hk2.cell 1; have y2 := hk2.cell 2; have y3 := hk2.cell 3; have y4 := hk2.cell 4; have y5 := hk2.cell 5; have y6 := hk2.cell 6; have y7 := hk2.cell 7; have y8 := hk2.cell 8; have y9 := hk2.cell 9; have y10 := hk2.cell 10; simp only [List.getElem?_toArray, List.getElem?_cons_zero, List.getElem?_cons_succ] at y0 y1 y2 y3 y4 y5 y6 y7 y8 y9 y10; have HK2 := Lib.hid hk2; have ho72 := own_below HO7.out hb8; have S742 := run_string_back (P := Try.prog) (w := u2) (c := c7) 25 9 5 Try.underlying25 Try.underlying5 Try.underlying9 (Reads.of_own ho72) HD.out; have S77 := run_string_back (P := Try.prog) (w := u2) (c := c8) 25 9 5 Try.underlying25 Try.underlying5 Try.underlying9 (Reads.of_own ho8) HD.out; have HU2 := Lib.hid (HU1.out.trans (hb8.mono HU1.out.size)); clear hk2 ho72 ho8 hb8)
      | (go_at_call 20; (with_reducible refine (wholez_any ihl tos len id flags off ttl proto sum src dst _).mono ?_); rintro e u3 ⟨rfl, hb9⟩; have hk3 := HK2.out.below hb9 HK2.out.lt; have x0 := hk3.cell 0; have x1 := hk3.cell 1; have x2 := hk3.cell 2; have x3 := hk3.cell 3; have x4 := hk3.cell 4; have x5 := hk3.cell 5; have x6 := hk3.cell 6; have x7 := hk3.cell 7; have x8 := hk3.cell 8; have x9 := hk3.cell 9; have x10 := hk3.cell 10; simp only [List.getElem?_toArray, List.getElem?_cons_zero, List.getElem?_cons_succ] at x0 x1 x2 x3 x4 x5 x6 x7 x8 x9 x10; have HK3 := Lib.hid hk3; have HU3 := Lib.hid (HU2.out.trans (hb9.mono HU2.out.size)); clear hk3 hb9)
      | (go_at_call 21; (with_reducible refine (refwholez_any ihl tos len id flags off ttl proto sum src dst _).mono ?_); rintro e u4 ⟨rfl, hb10⟩; have hk4 := HK3.out.below hb10 HK3.out.lt; have v0 := hk4.cell 0; have v1 := hk4.cell 1; have v2 := hk4.cell 2; have v3 := hk4.cell 3; have v4 := hk4.cell 4; have v5 := hk4.cell 5; have v6 := hk4.cell 6; have v7 := hk4.cell 7; have v8 := hk4.cell 8; have v9 := hk4.cell 9; have v10 := hk4.cell 10; simp only [List.getElem?_toArray, List.getElem?_cons_zero, List.getElem?_cons_succ] at v0 v1 v2 v3 v4 v5 v6 v7 v8 v9 v10; have HK4 := Lib.hid hk4; have HU4 := Lib.hid (HU3.out.trans (hb10.mono HU3.out.size)); clear hk4 hb10)
      | (go_at_call 13; (with_reducible refine (awake20_any _).mono ?_); rintro e u5 ⟨rfl, hb11⟩; have hk5 := HK4.out.below hb11 HK4.out.lt; have t0 := hk5.cell 0; have t1 := hk5.cell 1; have t2 := hk5.cell 2; have t3 := hk5.cell 3; have t4 := hk5.cell 4; have t5 := hk5.cell 5; have t6 := hk5.cell 6; have t7 := hk5.cell 7; have t8 := hk5.cell 8; have t9 := hk5.cell 9; have t10 := hk5.cell 10; simp only [List.getElem?_toArray, List.getElem?_cons_zero, List.getElem?_cons_succ] at t0 t1 t2 t3 t4 t5 t6 t7 t8 t9 t10; have HU5 := Lib.hid (HU4.out.trans (hb11.mono HU4.out.size)); clear hk5 hb11))
    all_goals
      go_wp2_with fail
      go_ret
      exact ⟨rfl, HU5.out⟩
end Go.Proofs.Ytpgbldpppdmdoaa.ipParses
