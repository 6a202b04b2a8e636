/- The walk of EncapWraps (wip/genwraps.py). -/
import Derived.Test.YtpgbldpppdmdoaaPacket
import Derived.Test.YtpgbldpppdmdoaaEncapGen
import Derived.Test.YtpgbldpppdmdoaaOpenHd
namespace Go.Proofs.Ytpgbldpppdmdoaa.encapWraps
set_option linter.unusedVariables false
set_option linter.unusedSimpArgs false
open Go.RowKit

set_option maxHeartbeats 16000000 in
set_option maxRecDepth 100000 in
theorem lawWalk (h : Hd) (A : Option Addr) (n c : Nat) (l : List Nat) (A2 : Option Addr) (n2 c2 : Nat) (ps : List Int) (x : Nat) (fix : Bool) (cut : Int) (A3 : Option Addr) (n3 c3 : Nat) (raw : List Nat) (self dest : Nat) (mtu : Int) (w : World)
    (hok : HdOk h) (hi : BytesIn w A n c l) (hp : IntsIn w A2 n2 c2 ps) (hx : x < 256) (hcut : -9223372036854775808 ≤ cut ∧ cut ≤ 9223372036854775807) (hi3 : BytesIn w A3 n3 c3 raw) (hsa : self < 4294967296) (hsb : dest < 4294967296) (hmtu : -9223372036854775808 ≤ mtu ∧ mtu ≤ 9223372036854775807) :
    Calls Try.prog 10 #[.agg h.vals, .slice A n c, .slice A2 n2 c2, .int .u8 (x : Int), .bool fix, .int .i64 cut, .slice A3 n3 c3, .int .u32 (self : Int), .int .u32 (dest : Int), .int .i64 mtu] w fun e w' => e = .returned (.bool true) ∧ Below w.heap.size w w' := by
  have hr := hi.reads
  have ha := hi.all
  have hr2 := hp.reads
  have hle2 := hp.le
  have hre2 := hp.reach
  have hr3 := hi3.reads
  have hc3 := hi3.le
  have ha3 := hi3.all
  clear hi hp hi3 hcut hmtu
  have HS := Lib.hid (And.intro hsa hsb)
  clear hsa hsb
  obtain ⟨ihl, tos, len, id, flags, off, ttl, proto, sum, src, dst⟩ := h
  by_cases h1 : 2100 < n
  · unfold Hd.vals
    dsimp only
    go_enter Try.func10, Try.ntmps10
    go_wp2_with fail
    refine (awake22_any _).mono ?_
    rintro e w9 ⟨rfl, hb9⟩
    go_wp2_with fail
    go_ret
    have hB0 := (Below.refl w.heap.size w).alloc (Nat.le_refl _) (.cells #[.int .i64 ihl, .int .i64 tos, .int .i64 len, .int .i64 id, .int .i64 flags, .int .i64 off, .int .i64 ttl, .int .i64 proto, .int .i64 sum, .int .u32 (src : Int), .int .u32 (dst : Int)] 24)
    exact ⟨rfl, hB0.trans (hb9.mono hB0.size)⟩
  have hd1 : decide ((2100 : Int) < (n : Int)) = false := decide_eq_false (by omega)
  by_cases h2 : 2100 < n3
  · unfold Hd.vals
    dsimp only
    go_enter Try.func10, Try.ntmps10
    go_wp2_with fail
    refine (awake22_any _).mono ?_
    rintro e w9 ⟨rfl, hb9⟩
    go_wp2_with fail
    go_ret
    have hB0 := (Below.refl w.heap.size w).alloc (Nat.le_refl _) (.cells #[.int .i64 ihl, .int .i64 tos, .int .i64 len, .int .i64 id, .int .i64 flags, .int .i64 off, .int .i64 ttl, .int .i64 proto, .int .i64 sum, .int .u32 (src : Int), .int .u32 (dst : Int)] 24)
    exact ⟨rfl, hB0.trans (hb9.mono hB0.size)⟩
  have hd2 : decide ((2100 : Int) < (n3 : Int)) = false := decide_eq_false (by omega)
  have hB0 := (Below.refl w.heap.size w).alloc (Nat.le_refl _) (.cells #[.int .i64 ihl, .int .i64 tos, .int .i64 len, .int .i64 id, .int .i64 flags, .int .i64 off, .int .i64 ttl, .int .i64 proto, .int .i64 sum, .int .u32 (src : Int), .int .u32 (dst : Int)] 24)
  have CP := Lib.hid (packet_any ⟨ihl, tos, len, id, flags, off, ttl, proto, sum, src, dst⟩ A n c (w.alloc (.cells #[.int .i64 ihl, .int .i64 tos, .int .i64 len, .int .i64 id, .int .i64 flags, .int .i64 off, .int .i64 ttl, .int .i64 proto, .int .i64 sum, .int .u32 (src : Int), .int .u32 (dst : Int)] 24)).heap.size l A2 n2 c2 ps x fix cut (w.alloc (.cells #[.int .i64 ihl, .int .i64 tos, .int .i64 len, .int .i64 id, .int .i64 flags, .int .i64 off, .int .i64 ttl, .int .i64 proto, .int .i64 sum, .int .u32 (src : Int), .int .u32 (dst : Int)] 24)) hok ((hr.alloc (Nat.le_refl _) _).more hB0.size) (Nat.le_refl _) (by omega) ha ((hr2.alloc (Nat.le_refl _) _).more hB0.size) (by omega) hx)
  have HR3 := Lib.hid (fun w' (hb : Below w.heap.size w w') => (hr3.below hb).more hb.size)
  have HA3 := Lib.hid ha3
  have hn1 : n ≤ 2100 := by omega
  have hn3 : n3 ≤ 2100 := by omega
  clear hr hr2 hr3 ha ha3 hok h1 h2
  unfold Hd.vals at CP ⊢
  dsimp only at CP ⊢
  go_enter Try.func10, Try.ntmps10
  go_wp2_with fail
  generalize w.alloc (.cells #[.int .i64 ihl, .int .i64 tos, .int .i64 len, .int .i64 id, .int .i64 flags, .int .i64 off, .int .i64 ttl, .int .i64 proto, .int .i64 sum, .int .u32 (src : Int), .int .u32 (dst : Int)] 24) = v0 at *
  refine CP.out.mono ?_
  rintro e w1 ⟨A4, m4, c4, l4, rfl, hc4, hm4, ha4, hr4, hb1⟩
  have hB1 := hB0.trans (hb1.mono hB0.size)
  have HA4 := Lib.hid ha4
  have HR4 := Lib.hid (fun w' (hb : Below w1.heap.size w1 w') => (hr4.below hb).more hb.size)
  have HB1 := Lib.hid hB1
  have i0 : ∀ w, (Instr.index 39 (.agg #[.slice A4 m4 c4, .slice A3 n3 c3]) (.int .i64 0)).run Try.prog w = .ok (.slice A4 m4 c4) w := fun _ => by kernel_rfl
  have i1 : ∀ w, (Instr.index 39 (.agg #[.slice A4 m4 c4, .slice A3 n3 c3]) (.int .i64 1)).run Try.prog w = .ok (.slice A3 n3 c3) w := fun _ => by kernel_rfl
  have hBz := Below.refl w1.heap.size w1
  clear hB0 hb1 CP ha4 hr4 hB1 hle2 hre2 hx
  go_wp2_with fail
  go_loopw [53] (fun i wr => ∃ k : Nat, k ≤ 2 ∧ i = .int .i64 (k : Int) ∧ Below w1.heap.size w1 wr) (fun i _ => 2 - (intOf i).toNat)
  case atStart => exact ⟨0, by omega, rfl, hBz⟩
  case round =>
    obtain ⟨k, hk, rfl, hBw⟩ := hrel
    clear hBz
    by_cases hk0 : k = 0
    · subst hk0
      have W1 := Lib.hid (wrap_any A4 m4 c4 wr.heap.size l4 self dest mtu wr (HR4.out wr hBw) (Nat.le_refl _) (by omega) (by omega) HA4.out HS.out.1 HS.out.2)
      go_wp2_with fail
      refine W1.out.mono ?_
      rintro e wa ⟨hret, hba⟩
      obtain ⟨Aa, ca, rfl, hra⟩ := hret.gen
      have hBa := hBw.trans (hba.mono hBw.size)
      have W2 := Lib.hid (refwrap_any A4 m4 c4 wa.heap.size l4 self dest mtu wa (HR4.out wa hBa) (Nat.le_refl _) (by omega) (by omega) HA4.out HS.out.1 HS.out.2)
      have HRA := Lib.hid hra
      clear hret hba W1 hra
      go_wp2_with fail
      refine W2.out.mono ?_
      rintro e wb ⟨hret, hbb⟩
      obtain ⟨Ab, cb, rfl, hrb⟩ := hret.gen
      have hBb := hBa.trans (hbb.mono hBa.size)
      have hra2 := HRA.out.below hbb
      have hqa : AllB (outW l4 self dest mtu) := outW_all HA4.out self dest mtu
      obtain ⟨q, hq⟩ : ∃ q, q = outW l4 self dest mtu := ⟨_, rfl⟩
      obtain ⟨r, hr⟩ : ∃ r, r = whyW l4 mtu := ⟨_, rfl⟩
      rw [← hq] at hra2 hrb hqa ⊢
      rw [← hr]
      have S1 := run_string_back (P := Try.prog) (w := wb) (c := ca) 25 9 5 Try.underlying25 Try.underlying5 Try.underlying9 hra2 hqa
      have S2 := run_string_back (P := Try.prog) (w := wb) (c := cb) 25 9 5 Try.underlying25 Try.underlying5 Try.underlying9 hrb hqa
      have U1 := Lib.hid (unwrap_any A4 m4 c4 wb.heap.size l4 wb (HR4.out wb hBb) (Nat.le_refl _) (by omega) (by omega) HA4.out)
      clear hret hbb W2 hra2 hrb HRA hqa hq hr hBa
      go_wp2_with fail
      refine U1.out.mono ?_
      rintro e wc ⟨hret, hbc⟩
      obtain ⟨Ac, cc, rfl, hrc⟩ := hret.gen
      have hBc := hBb.trans (hbc.mono hBb.size)
      have U2 := Lib.hid (refunwrap_any A4 m4 c4 wc.heap.size l4 wc (HR4.out wc hBc) (Nat.le_refl _) (by omega) (by omega) HA4.out)
      have HRC := Lib.hid hrc
      clear hret hbc U1 hrc S1 S2 hBb
      go_wp2_with fail
      refine U2.out.mono ?_
      rintro e wd ⟨hret, hbd⟩
      obtain ⟨Ad, cd, rfl, hrd⟩ := hret.gen
      have hBd := hBc.trans (hbd.mono hBc.size)
      have hrc2 := HRC.out.below hbd
      have hqa : AllB (outU l4) := outU_all HA4.out
      obtain ⟨q2, hq⟩ : ∃ q, q = outU l4 := ⟨_, rfl⟩
      obtain ⟨r2, hr⟩ : ∃ r, r = whyU l4 := ⟨_, rfl⟩
      obtain ⟨s2, hs⟩ : ∃ r, r = srcU l4 := ⟨_, rfl⟩
      obtain ⟨d2, hd⟩ : ∃ r, r = dstU l4 := ⟨_, rfl⟩
      rw [← hq] at hrc2 hrd hqa ⊢
      rw [← hr, ← hs, ← hd]
      have S3 := run_string_back (P := Try.prog) (w := wd) (c := cc) 25 9 5 Try.underlying25 Try.underlying5 Try.underlying9 hrc2 hqa
      have S4 := run_string_back (P := Try.prog) (w := wd) (c := cd) 25 9 5 Try.underlying25 Try.underlying5 Try.underlying9 hrd hqa
      have HBd := Lib.hid hBd
      clear hret hbd U2 hrc2 hrd HRC hqa hq hr hs hd hBc hBd hBw
      go_wp2_with fail
      go_roundw
      case rel => exact ⟨1, by omega, by go_num, HBd.out⟩
      case measure => simp [intOf]
    by_cases hk1 : k = 1
    · subst hk1
      have W1 := Lib.hid (wrap_any A3 n3 c3 wr.heap.size raw self dest mtu wr (HR3.out wr (HB1.out.trans (hBw.mono HB1.out.size))) (Nat.le_refl _) (by omega) (by omega) HA3.out HS.out.1 HS.out.2)
      go_wp2_with fail
      refine W1.out.mono ?_
      rintro e wa ⟨hret, hba⟩
      obtain ⟨Aa, ca, rfl, hra⟩ := hret.gen
      have hBa := hBw.trans (hba.mono hBw.size)
      have W2 := Lib.hid (refwrap_any A3 n3 c3 wa.heap.size raw self dest mtu wa (HR3.out wa (HB1.out.trans (hBa.mono HB1.out.size))) (Nat.le_refl _) (by omega) (by omega) HA3.out HS.out.1 HS.out.2)
      have HRA := Lib.hid hra
      clear hret hba W1 hra
      go_wp2_with fail
      refine W2.out.mono ?_
      rintro e wb ⟨hret, hbb⟩
      obtain ⟨Ab, cb, rfl, hrb⟩ := hret.gen
      have hBb := hBa.trans (hbb.mono hBa.size)
      have hra2 := HRA.out.below hbb
      have hqa : AllB (outW raw self dest mtu) := outW_all HA3.out self dest mtu
      obtain ⟨q, hq⟩ : ∃ q, q = outW raw self dest mtu := ⟨_, rfl⟩
      obtain ⟨r, hr⟩ : ∃ r, r = whyW raw mtu := ⟨_, rfl⟩
      rw [← hq] at hra2 hrb hqa ⊢
      rw [← hr]
      have S1 := run_string_back (P := Try.prog) (w := wb) (c := ca) 25 9 5 Try.underlying25 Try.underlying5 Try.underlying9 hra2 hqa
      have S2 := run_string_back (P := Try.prog) (w := wb) (c := cb) 25 9 5 Try.underlying25 Try.underlying5 Try.underlying9 hrb hqa
      have U1 := Lib.hid (unwrap_any A3 n3 c3 wb.heap.size raw wb (HR3.out wb (HB1.out.trans (hBb.mono HB1.out.size))) (Nat.le_refl _) (by omega) (by omega) HA3.out)
      clear hret hbb W2 hra2 hrb HRA hqa hq hr hBa
      go_wp2_with fail
      refine U1.out.mono ?_
      rintro e wc ⟨hret, hbc⟩
      obtain ⟨Ac, cc, rfl, hrc⟩ := hret.gen
      have hBc := hBb.trans (hbc.mono hBb.size)
      have U2 := Lib.hid (refunwrap_any A3 n3 c3 wc.heap.size raw wc (HR3.out wc (HB1.out.trans (hBc.mono HB1.out.size))) (Nat.le_refl _) (by omega) (by omega) HA3.out)
      have HRC := Lib.hid hrc
      clear hret hbc U1 hrc S1 S2 hBb
      go_wp2_with fail
      refine U2.out.mono ?_
      rintro e wd ⟨hret, hbd⟩
      obtain ⟨Ad, cd, rfl, hrd⟩ := hret.gen
      have hBd := hBc.trans (hbd.mono hBc.size)
      have hrc2 := HRC.out.below hbd
      have hqa : AllB (outU raw) := outU_all HA3.out
      obtain ⟨q2, hq⟩ : ∃ q, q = outU raw := ⟨_, rfl⟩
      obtain ⟨r2, hr⟩ : ∃ r, r = whyU raw := ⟨_, rfl⟩
      obtain ⟨s2, hs⟩ : ∃ r, r = srcU raw := ⟨_, rfl⟩
      obtain ⟨d2, hd⟩ : ∃ r, r = dstU raw := ⟨_, rfl⟩
      rw [← hq] at hrc2 hrd hqa ⊢
      rw [← hr, ← hs, ← hd]
      have S3 := run_string_back (P := Try.prog) (w := wd) (c := cc) 25 9 5 Try.underlying25 Try.underlying5 Try.underlying9 hrc2 hqa
      have S4 := run_string_back (P := Try.prog) (w := wd) (c := cd) 25 9 5 Try.underlying25 Try.underlying5 Try.underlying9 hrd hqa
      have HBd := Lib.hid hBd
      clear hret hbd U2 hrc2 hrd HRC hqa hq hr hs hd hBc hBd hBw
      go_wp2_with fail
      go_roundw
      case rel => exact ⟨2, by omega, by go_num, HBd.out⟩
      case measure => simp [intOf]
    obtain rfl : k = 2 := by omega
    have hB9 := HB1.out.trans (hBw.mono HB1.out.size)
    clear hk hk0 hk1 i0 i1 hBw
    go_wp2_with fail
    refine (awake22_any _).mono ?_
    rintro e w11 ⟨rfl, hb11⟩
    go_wp2_with fail
    go_ret
    exact ⟨rfl, hB9.trans (hb11.mono hB9.size)⟩
end Go.Proofs.Ytpgbldpppdmdoaa.encapWraps
