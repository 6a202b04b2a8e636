/- The walk of goitlaw21's Made: a whole packet of a tuple. -/
import Derived.Test.YtpgbldpppdmdoaaPortsIn
namespace Go.Proofs.Ytpgbldpppdmdoaa
set_option linter.unusedVariables false
set_option linter.unusedSimpArgs false
open Go.RowKit

structure Tu where
  src : Nat
  dst : Nat
  proto : Int
  sport : Int
  dport : Int
def Tu.vals (k : Tu) : Array Value := #[.int .u32 (k.src : Int), .int .u32 (k.dst : Int), .int .i64 k.proto, .int .i64 k.sport, .int .i64 k.dport]
structure TuOk (k : Tu) : Prop where
  src : k.src < 4294967296
  dst : k.dst < 4294967296
  proto : -9223372036854775808 ≤ k.proto ∧ k.proto ≤ 9223372036854775807
  sport : -9223372036854775808 ≤ k.sport ∧ k.sport ≤ 9223372036854775807
  dport : -9223372036854775808 ≤ k.dport ∧ k.dport ≤ 9223372036854775807
def two8 (z : Int) : List Nat := [u64n z / 256 % 256, u64n z % 256]
theorem two8_all (z : Int) : AllB (two8 z) := by
  intro x hx
  simp [two8] at hx
  rcases hx with rfl | rfl <;> omega
def tcpHead (k : Tu) (flags : Int) : List Nat := two8 k.sport ++ two8 k.dport ++ [0, 0, 0, 0, 0, 0, 0, 0, 80, u64n flags % 256, 0, 0, 0, 0, 0, 0]
def udpHead (k : Tu) (n : Nat) : List Nat := two8 k.sport ++ two8 k.dport ++ two8 (8 + (n : Int)) ++ [0, 0]
def madeP (k : Tu) (flags : Int) (l : List Nat) : List Nat := if k.proto = 6 then tcpHead k flags ++ l else udpHead k l.length ++ l
def madeHd (k : Tu) (ttl : Int) (L : Nat) : Hd := ⟨0, 0, 20 + (L : Int), 0, 0, 0, ttl, k.proto, 0, k.src, k.dst⟩
def madeB (k : Tu) (ttl flags : Int) (l : List Nat) : List Nat := buildB (madeHd k ttl (madeP k flags l).length) ++ madeP k flags l

def MadeRet (k : Tu) (ttl flags : Int) (l : List Nat) (w : World) (e : Ending) (w' : World) : Prop :=
  ∃ A N c, e = .returned (.slice A N c) ∧ N = (madeB k ttl flags l).length ∧ w'.ownsRow w.heap.size 5 1 (.slice A N c) N (bv (madeB k ttl flags l)) ∧ Below w.heap.size w w'

set_option maxHeartbeats 4000000 in
set_option maxRecDepth 100000 in
theorem made_any (k : Tu) (ttl flags : Int) (A : Option Addr) (n c B : Nat) (l : List Nat) (w : World) (hk : TuOk k) (httl : -9223372036854775808 ≤ ttl ∧ ttl ≤ 9223372036854775807) (hr : Reads w B 1 A n (bv l)) (hB : B ≤ w.heap.size) (hn : n ≤ 100000) :
    Calls Try.prog 23 #[.agg k.vals, .int .i64 ttl, .int .i64 flags, .slice A n c] w fun e w' => MadeRet k ttl flags l w e w' := by
  have hlen := hr.length
  obtain ⟨src, dst, proto, sport, dport⟩ := k
  obtain ⟨k1, k2, k3, k4, k5⟩ := hk
  dsimp only at k1 k2 k3 k4 k5
  have hfl : Hid (flags % 256 = ((u64n flags % 256 : Nat) : Int)) := by show _ = _; unfold u64n; omega
  have HR := Lib.hid (fun w' (hb : Below w.heap.size w w') => (hr.below (hb.mono hB)).more (Nat.le_trans hB hb.size))
  have CB := Lib.hid (fun (L : Nat) (hL : L ≤ 200000) w' => refbuild_any ⟨0, 0, 20 + (L : Int), 0, 0, 0, ttl, proto, 0, src, dst⟩ w' ⟨by dsimp only; omega, by dsimp only; omega, by dsimp only; omega, by dsimp only; omega, by dsimp only; omega, by dsimp only; omega, httl, k3, by dsimp only; omega, k1, k2⟩)
  have HE : Hid (∀ P L, madeP ⟨src, dst, proto, sport, dport⟩ flags l = P → P.length = L → madeB ⟨src, dst, proto, sport, dport⟩ ttl flags l = buildB ⟨0, 0, 20 + (L : Int), 0, 0, 0, ttl, proto, 0, src, dst⟩ ++ P) := by
    intro P L h1 h2
    unfold madeB madeHd
    rw [h1, h2]
  have HL := Lib.hid hlen
  clear hr hlen hB
  unfold Tu.vals
  dsimp only
  unfold Hd.vals at CB
  dsimp only at CB
  have both : ∀ tcp : Bool, (proto == 6) = tcp → Calls Try.prog 23 #[.agg #[.int .u32 (src : Int), .int .u32 (dst : Int), .int .i64 proto, .int .i64 sport, .int .i64 dport], .int .i64 ttl, .int .i64 flags, .slice A n c] w fun e w' => MadeRet ⟨src, dst, proto, sport, dport⟩ ttl flags l w e w' := by
    intro tcp htcp
    have HTC := Lib.hid htcp
    go_enter Try.func23, Try.ntmps23
    go_wp2_with fail
    have hq := Blk.new w 43 #[.int .u32 (src : Int), .int .u32 (dst : Int), .int .i64 proto, .int .i64 sport, .int .i64 dport]
    have hB0 : Below w.heap.size w (w.alloc (.cells #[.int .u32 (src : Int), .int .u32 (dst : Int), .int .i64 proto, .int .i64 sport, .int .i64 dport] 43)) := (Below.refl _ _).alloc (Nat.le_refl _) _
    obtain ⟨q, hqq⟩ : ∃ q, q = w.heap.size := ⟨_, rfl⟩
    have hszl : q + 1 ≤ (w.alloc (.cells #[.int .u32 (src : Int), .int .u32 (dst : Int), .int .i64 proto, .int .i64 sport, .int .i64 dport] 43)).heap.size := by simp [hqq]
    rw [← hqq] at hq ⊢
    generalize w.alloc (.cells #[.int .u32 (src : Int), .int .u32 (dst : Int), .int .i64 proto, .int .i64 sport, .int .i64 dport] 43) = v0 at *
    have HQ := Lib.hid hqq
    clear hqq htcp
    have hc3 := hq.cell 3
    have hc4 := hq.cell 4
    simp only [List.getElem?_toArray, List.getElem?_cons_zero, List.getElem?_cons_succ] at hc3 hc4
    go_cut [9] (fun v wx => ∃ A1 c1, v = .slice A1 4 c1 ∧ wx.ownsRow (q + 1) 5 1 (.slice A1 4 c1) 4 (bv (two8 sport ++ two8 dport)) ∧ Below (q + 1) v0 wx)
    case first =>
      have hall3 : ∀ o, (v0.alloc o).drew.cell? ⟨q, 3, none⟩ = some (.int .i64 sport) := fun o => (hq.alloc o).drew.cell 3
      have hall4 : ∀ o, (v0.alloc o).drew.cell? ⟨q, 4, none⟩ = some (.int .i64 dport) := fun o => (hq.alloc o).drew.cell 4
      go_region_law (first
        | (go_simp; go_at_call 47; (with_reducible refine (bytes2_any sport _).mono ?_); rintro e w' ⟨rfl, rfl⟩; first | (have _t := tok2; have tok21 : True := trivial; clear _t tok2) | (have tok1 : True := trivial))
        | (go_simp; go_at_call 47; (with_reducible refine (bytes2_any dport _).mono ?_); rintro e w' ⟨rfl, rfl⟩; first | (have _t := tok1; have tok12 : True := trivial; clear _t tok1) | (have tok2 : True := trivial))
        | (have _t := tok12; clear _t tok12; refine step_append_b rfl (.tmp 13) (.tmp 16) _ rfl 5 infoB Try.underlying25 (q + 1) (.slice (some ⟨v0.heap.size, 0, none⟩) 2 2) 2 ([u64n sport / 256 % 256, u64n sport % 256]) (by simp [Act.eval, Act.put]) (lit_own (cs := #[.int .u8 ((u64n sport / 256 % 256 : Nat) : Int), .int .u8 ((u64n sport % 256 : Nat) : Int)]) (Blk.drew (Blk.alloc (Blk.new_ rfl) _)) (by omega) (by decide) rfl (by simp [bv])) _ (some ⟨v0.heap.size + 1, 0, none⟩) 2 2 ([u64n dport / 256 % 256, u64n dport % 256]) (by simp [Act.eval, Act.put]) ((reads_new _ _ _ _ 2 _ _ (by rfl) (by rfl) (by simp) _ (by simp [bv])).drew) 4 rfl (by omega) (by simp; omega) ?_; intro A1 c1 w1 hown1 hb1 hg1 hat1; have hBy := (((Below.refl (q + 1) v0).alloc (by omega) _).alloc (by simp; omega) _).drew.trans hb1)
        | (have _t := tok21; clear _t tok21; refine step_append_b rfl (.tmp 13) (.tmp 16) _ rfl 5 infoB Try.underlying25 (q + 1) (.slice (some ⟨v0.heap.size + 1, 0, none⟩) 2 2) 2 ([u64n sport / 256 % 256, u64n sport % 256]) (by simp [Act.eval, Act.put]) (lit_own (cs := #[.int .u8 ((u64n sport / 256 % 256 : Nat) : Int), .int .u8 ((u64n sport % 256 : Nat) : Int)]) (Blk.drew (Blk.new_ (by simp))) (by omega) (by decide) rfl (by simp [bv])) _ (some ⟨v0.heap.size, 0, none⟩) 2 2 ([u64n dport / 256 % 256, u64n dport % 256]) (by simp [Act.eval, Act.put]) (((reads_new _ _ _ _ 2 _ _ (by rfl) (by rfl) (by simp) _ (by simp [bv])).alloc (by simp) _).drew) 4 rfl (by omega) (by simp; omega) ?_; intro A1 c1 w1 hown1 hb1 hg1 hat1; have hBy := (((Below.refl (q + 1) v0).alloc (by omega) _).alloc (by simp; omega) _).drew.trans hb1))
      all_goals
        go_wp2_with fail
        go_meet
        exact ⟨A1, c1, rfl, hown1, hBy⟩
    case rest =>
      obtain ⟨A1, c1, rfl, hown1, hB1'⟩ := hcut
      have hB1 := hB0.trans (hB1'.mono (by rw [← HQ.out]; omega))
      have hq1 := hq.below hB1' (Nat.lt_succ_self q)
      have hs1' := hB1'.size
      clear hc3 hc4 hq
      have hc2 := hq1.cell 2
      simp only [List.getElem?_toArray, List.getElem?_cons_zero, List.getElem?_cons_succ] at hc2
      cases tcp
      · have hbt : (proto == 6) = false := HTC.out
        have hs1 := hB1.size
        go_wp2_with fail
        refine (bytes2_any (8 + (n : Int)) wc).mono ?_
        rintro e w3 ⟨rfl, hw3⟩
        subst hw3
        go_wp2_with (at_builtin; refine stop_ ?_)
        refine on_ ?_
        refine wpList_append_b rfl (.tmp 26) (.tmp 30) _ rfl 5 infoB Try.underlying25 (q + 1) (.slice A1 4 c1) 4 _ rfl (hown1.alloc _) _ (some ⟨wc.heap.size, 0, none⟩) 2 2 (two8 (8 + (n : Int))) rfl (reads_new _ _ _ _ 2 _ _ (by rfl) (by rfl) (by rfl) _ (by rfl)) 6 rfl (by omega) (by simp; omega) ?_
        intro A2 c2 w2 hown2 hb2 _ _
        have hB2' := (hB1'.alloc (by omega) _).trans hb2
        have hq2 := hq1.below ((Below.refl _ _).alloc (Nat.le_refl _) (.cells #[.int .u8 (((u64n (8 + (n : Int))) / 256 % 256 : Nat) : Int), .int .u8 (((u64n (8 + (n : Int))) % 256 : Nat) : Int)] 5)) hq1.lt
        have hq2 := hq2.below hb2 (Nat.lt_succ_self q)
        have hs2 := hB2'.size
        clear hown1 hb2 hc2 hq1
        go_wp2_with (at_builtin; refine stop_ ?_)
        refine on_ ?_
        refine wpList_append_b rfl (.tmp 31) (.tmp 32) _ rfl 5 infoB Try.underlying25 (q + 1) (.slice A2 6 c2) 6 _ rfl (hown2.alloc _) _ (some ⟨w2.heap.size, 0, none⟩) 2 2 [0, 0] rfl (reads_new _ _ _ _ 2 _ _ (by rfl) (by rfl) (by rfl) _ (by rfl)) 8 rfl (by omega) (by simp; omega) ?_
        intro A3 c3 w3 hown3 hb3 _ _
        have hB3' := (hB2'.alloc (by omega) _).trans hb3
        have hq3 := hq2.below ((Below.refl _ _).alloc (Nat.le_refl _) (.cells #[.int .u8 0, .int .u8 0] 5)) hq2.lt
        have hq3 := hq3.below hb3 (Nat.lt_succ_self q)
        have hs3 := hB3'.size
        have hB3 := hB0.trans (hB3'.mono (by rw [← HQ.out]; omega))
        clear hown2 hb3 hq2 hB2'
        go_wp2_with (at_builtin; refine stop_ ?_)
        refine on_ ?_
        refine wpList_append_b rfl (.tmp 34) (.tmp 35) _ rfl 5 infoB Try.underlying25 (q + 1) (.slice A3 8 c3) 8 _ rfl hown3 w3.heap.size A n c l rfl (HR.out w3 hB3) (8 + n) rfl (by omega) (by omega) ?_
        intro A4 c4 w4 hown4 hb4 _ _
        have hB4' := hB3'.trans hb4
        have hq4 := hq3.below hb4 (Nat.lt_succ_self q)
        have hB4 := hB0.trans (hB4'.mono (by rw [← HQ.out]; omega))
        have hs4 := hB4'.size
        have hO4 := Lib.hid hown4
        have hc0 := hq4.cell 0
        have hc1 := hq4.cell 1
        have hc2 := hq4.cell 2
        simp only [List.getElem?_toArray, List.getElem?_cons_zero, List.getElem?_cons_succ] at hc0 hc1 hc2
        clear hown3 hb4 hq3 hB3' hown4
        go_wp2_with fail
        have CBn := CB.out (8 + n) (by omega) w4
        have hcast : ((8 + n : Nat) : Int) = 8 + (n : Int) := by omega
        rw [hcast] at CBn
        have HCB := Lib.hid CBn
        have HEn := Lib.hid (HE.out (udpHead ⟨src, dst, proto, sport, dport⟩ n ++ l) (8 + n) (by unfold madeP; rw [if_neg (by intro h; have h' : proto = 6 := h; rw [h'] at hbt; exact absurd hbt (by decide))]; unfold udpHead; rw [HL.out]) (by rw [List.length_append, HL.out]; rfl))
        rw [hcast] at HEn
        clear CBn hcast hc0 hc1 hc2
        refine HCB.out.mono ?_
        rintro e w5 ⟨A5, c5, rfl, hown5, hb5⟩
        have hB5 := hB4.trans (hb5.mono hB4.size)
        have hO45 := own_below hO4.out hb5
        have hs5 := hb5.size
        have hBA := Lib.hid hb5
        clear HCB hO4 hb5
        go_wp2_with (at_builtin; refine stop_ ?_)
        refine on_ ?_
        refine wpList_append_b rfl (.tmp 48) (.tmp 49) _ rfl 5 infoB Try.underlying25 w4.heap.size (.slice A5 20 c5) 20 _ rfl hown5 w5.heap.size A4 (8 + n) c4 _ rfl (Reads.of_own hO45) (20 + (8 + n)) rfl (by omega) hs5 ?_
        intro A6 c6 w6 hown6 hb6 _ _
        have hown6 : w6.ownsRow w4.heap.size 5 1 (.slice A6 (20 + (8 + n)) c6) (20 + (8 + n)) (bv (madeB ⟨src, dst, proto, sport, dport⟩ ttl flags l)) := by rw [HEn.out]; exact hown6
        have hB6 := hB5.trans (hb6.mono hB4.size)
        have hlN : 20 + (8 + n) = (madeB ⟨src, dst, proto, sport, dport⟩ ttl flags l).length := by
          have := hown6.1
          rw [bv_length] at this
          omega
        have HF : Hid (MadeRet ⟨src, dst, proto, sport, dport⟩ ttl flags l w (.returned (.slice A6 (20 + (8 + n)) c6)) w6) := ⟨A6, _, c6, rfl, hlN, own_lower hown6 hB4.size, hB6⟩
        clear hlN hown6 hown5 hO45
        go_wp2_with fail
        go_ret
        exact HF.out
      · have hbt : (proto == 6) = true := HTC.out
        have hs1 := hB1.size
        go_wp2_with (at_builtin; refine stop_ ?_)
        refine on_ ?_
        rw [hfl.out]
        refine wpList_append_b rfl (.tmp 21) (.tmp 24) _ rfl 5 infoB Try.underlying25 (q + 1) (.slice A1 4 c1) 4 _ rfl (hown1.alloc _) _ (some ⟨wc.heap.size, 0, none⟩) 16 16 [0, 0, 0, 0, 0, 0, 0, 0, 80, u64n flags % 256, 0, 0, 0, 0, 0, 0] rfl (reads_new _ _ _ _ 16 _ _ (by rfl) (by rfl) (by rfl) _ (by rfl)) 20 rfl (by omega) (by simp; omega) ?_
        intro A3 c3 w3 hown3 hb3 _ _
        have hB3' := (hB1'.alloc (by omega) _).trans hb3
        have hq3 := hq1.below ((Below.refl _ _).alloc (Nat.le_refl _) (.cells #[.int .u8 0, .int .u8 0, .int .u8 0, .int .u8 0, .int .u8 0, .int .u8 0, .int .u8 0, .int .u8 0, .int .u8 80, .int .u8 ((u64n flags % 256 : Nat) : Int), .int .u8 0, .int .u8 0, .int .u8 0, .int .u8 0, .int .u8 0, .int .u8 0] 5)) hq1.lt
        have hq3 := hq3.below hb3 (Nat.lt_succ_self q)
        have hs3 := hB3'.size
        have hB3 := hB0.trans (hB3'.mono (by rw [← HQ.out]; omega))
        clear hown1 hb3 hq1 hc2
        go_wp2_with (at_builtin; refine stop_ ?_)
        refine on_ ?_
        refine wpList_append_b rfl (.tmp 34) (.tmp 35) _ rfl 5 infoB Try.underlying25 (q + 1) (.slice A3 20 c3) 20 _ rfl hown3 w3.heap.size A n c l rfl (HR.out w3 hB3) (20 + n) rfl (by omega) (by omega) ?_
        intro A4 c4 w4 hown4 hb4 _ _
        have hB4' := hB3'.trans hb4
        have hq4 := hq3.below hb4 (Nat.lt_succ_self q)
        have hB4 := hB0.trans (hB4'.mono (by rw [← HQ.out]; omega))
        have hs4 := hB4'.size
        have hO4 := Lib.hid hown4
        have hc0 := hq4.cell 0
        have hc1 := hq4.cell 1
        have hc2 := hq4.cell 2
        simp only [List.getElem?_toArray, List.getElem?_cons_zero, List.getElem?_cons_succ] at hc0 hc1 hc2
        clear hown3 hb4 hq3 hB3' hown4
        go_wp2_with fail
        have CBn := CB.out (20 + n) (by omega) w4
        have hcast : ((20 + n : Nat) : Int) = 20 + (n : Int) := by omega
        rw [hcast] at CBn
        have HCB := Lib.hid CBn
        have HEn := Lib.hid (HE.out (tcpHead ⟨src, dst, proto, sport, dport⟩ flags ++ l) (20 + n) (by unfold madeP; rw [if_pos (by simpa using hbt)]) (by rw [List.length_append, HL.out]; rfl))
        rw [hcast] at HEn
        clear CBn hcast hc0 hc1 hc2
        refine HCB.out.mono ?_
        rintro e w5 ⟨A5, c5, rfl, hown5, hb5⟩
        have hB5 := hB4.trans (hb5.mono hB4.size)
        have hO45 := own_below hO4.out hb5
        have hs5 := hb5.size
        have hBA := Lib.hid hb5
        clear HCB hO4 hb5
        go_wp2_with (at_builtin; refine stop_ ?_)
        refine on_ ?_
        refine wpList_append_b rfl (.tmp 48) (.tmp 49) _ rfl 5 infoB Try.underlying25 w4.heap.size (.slice A5 20 c5) 20 _ rfl hown5 w5.heap.size A4 (20 + n) c4 _ rfl (Reads.of_own hO45) (20 + (20 + n)) rfl (by omega) hs5 ?_
        intro A6 c6 w6 hown6 hb6 _ _
        have hown6 : w6.ownsRow w4.heap.size 5 1 (.slice A6 (20 + (20 + n)) c6) (20 + (20 + n)) (bv (madeB ⟨src, dst, proto, sport, dport⟩ ttl flags l)) := by rw [HEn.out]; exact hown6
        have hB6 := hB5.trans (hb6.mono hB4.size)
        have hlN : 20 + (20 + n) = (madeB ⟨src, dst, proto, sport, dport⟩ ttl flags l).length := by
          have := hown6.1
          rw [bv_length] at this
          omega
        have HF : Hid (MadeRet ⟨src, dst, proto, sport, dport⟩ ttl flags l w (.returned (.slice A6 (20 + (20 + n)) c6)) w6) := ⟨A6, _, c6, rfl, hlN, own_lower hown6 hB4.size, hB6⟩
        clear hlN hown6 hown5 hO45
        go_wp2_with fail
        go_ret
        exact HF.out
  exact both _ rfl
end Go.Proofs.Ytpgbldpppdmdoaa
