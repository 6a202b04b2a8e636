/- The walk of IpBack. -/
import Derived.Test.YtpgbldpppdmdoaaIpAwake
import Derived.Test.YtpgbldpppdmdoaaIpLaws2
import Derived.Test.YtpgbldpppdmdoaaOpenHd
namespace Go.Proofs.Ytpgbldpppdmdoaa.ipBack
set_option linter.unusedVariables false
set_option linter.unusedSimpArgs false
open Go.RowKit

theorem AllB.set' {l : List Nat} (h : AllB l) (i y : Nat) (hy : y < 256) : AllB (l.set i y) := by
  intro x hx
  rcases List.mem_or_eq_of_mem_set hx with hx | rfl
  · exact h x hx
  · exact hy
theorem at_get {l : List Nat} {j : Nat} (h : j < l.length) : l[j] = at' l j := by unfold at'; simp [h]

set_option maxHeartbeats 4000000 in
set_option maxRecDepth 100000 in
theorem lawWalk (h : Hd) (A : Option Addr) (n c : Nat) (l : List Nat) (A' : Option Addr) (n' c' : Nat) (m : List Nat) (at_ : Int) (x : Nat) (w : World) (hok : HdOk h) (hi : BytesIn w A n c l) (hi' : BytesIn w A' n' c' m) (hat : -9223372036854775808 ≤ at_ ∧ at_ ≤ 9223372036854775807) (hx : x < 256) :
    Calls Try.prog 3 #[.agg h.vals, .slice A n c, .slice A' n' c', .int .i64 at_, .int .u8 x] w fun e w' => e = .returned (.bool true) ∧ Below w.heap.size w w' := by
  have hr := hi.reads
  have hnc := hi.le
  have hall := hi.all
  have hr' := hi'.reads
  have hnc' := hi'.le
  have hall' := hi'.all
  have hlen := hr.length
  have hlen' := hr'.length
  have hre := hi.reach
  have hre' := hi'.reach
  clear hi hi'
  obtain ⟨ihl, tos, len, id, flags, off, ttl, proto, sum, src, dst⟩ := h
  by_cases h5 : 1000 < n
  · unfold Hd.vals
    dsimp only
    go_enter Try.func3, Try.ntmps3
    go_wp2_with fail
    refine (awake20_any _).mono ?_
    rintro e w9 ⟨rfl, hb9⟩
    go_wp2_with fail
    go_ret
    have hB0 := (Below.refl w.heap.size w).alloc (Nat.le_refl _) (.cells #[.int .i64 ihl, .int .i64 tos, .int .i64 len, .int .i64 id, .int .i64 flags, .int .i64 off, .int .i64 ttl, .int .i64 proto, .int .i64 sum, .int .u32 (src : Int), .int .u32 (dst : Int)] 24)
    exact ⟨rfl, hB0.trans (hb9.mono hB0.size)⟩
  have hd5 : decide ((1000 : Int) < (n : Int)) = false := decide_eq_false (by omega)
  by_cases h2 : 200 < n'
  · unfold Hd.vals
    dsimp only
    go_enter Try.func3, Try.ntmps3
    go_wp2_with fail
    refine (awake20_any _).mono ?_
    rintro e w9 ⟨rfl, hb9⟩
    go_wp2_with fail
    go_ret
    have hB0 := (Below.refl w.heap.size w).alloc (Nat.le_refl _) (.cells #[.int .i64 ihl, .int .i64 tos, .int .i64 len, .int .i64 id, .int .i64 flags, .int .i64 off, .int .i64 ttl, .int .i64 proto, .int .i64 sum, .int .u32 (src : Int), .int .u32 (dst : Int)] 24)
    exact ⟨rfl, hB0.trans (hb9.mono hB0.size)⟩
  have hd2 : decide ((200 : Int) < (n' : Int)) = false := decide_eq_false (by omega)
  have m1 : bits BinOp.and IntKind.i64 tos 255 = ((tos % 256).toNat : Int) := i64_and_mask 8 (by omega) tos
  have m2 : bits BinOp.and IntKind.i64 id 65535 = ((id % 65536).toNat : Int) := i64_and_mask 16 (by omega) id
  have m3 : bits BinOp.and IntKind.i64 flags 7 = ((flags % 8).toNat : Int) := i64_and_mask 3 (by omega) flags
  have m4 : bits BinOp.and IntKind.i64 off 8191 = ((off % 8192).toNat : Int) := i64_and_mask 13 (by omega) off
  have m5 : bits BinOp.and IntKind.i64 ttl 255 = ((ttl % 256).toNat : Int) := i64_and_mask 8 (by omega) ttl
  have m6 : bits BinOp.and IntKind.i64 proto 255 = ((proto % 256).toNat : Int) := i64_and_mask 8 (by omega) proto
  obtain ⟨T, hT, hTl⟩ : ∃ T, T = (tos % 256).toNat ∧ T < 256 := ⟨_, rfl, by omega⟩
  obtain ⟨I, hI, hIl⟩ : ∃ I, I = (id % 65536).toNat ∧ I < 65536 := ⟨_, rfl, by omega⟩
  obtain ⟨F, hF, hFl⟩ : ∃ F, F = (flags % 8).toNat ∧ F < 8 := ⟨_, rfl, by omega⟩
  obtain ⟨O, hO, hOl⟩ : ∃ O, O = (off % 8192).toNat ∧ O < 8192 := ⟨_, rfl, by omega⟩
  obtain ⟨TT, hTT, hTTl⟩ : ∃ TT, TT = (ttl % 256).toNat ∧ TT < 256 := ⟨_, rfl, by omega⟩
  obtain ⟨PR, hPR, hPRl⟩ : ∃ PR, PR = (proto % 256).toNat ∧ PR < 256 := ⟨_, rfl, by omega⟩
  rw [← hT] at m1
  rw [← hI] at m2
  rw [← hF] at m3
  rw [← hO] at m4
  rw [← hTT] at m5
  rw [← hPR] at m6
  have hsrc := hok.src
  have hdst := hok.dst
  dsimp only at hsrc hdst
  clear hT hI hF hO hTT hPR hok
  have hok2 : HdOk ⟨5, (T : Int), 20 + (n : Int), (I : Int), (F : Int), (O : Int), (TT : Int), (PR : Int), 0, src, dst⟩ := by
    refine ⟨?_, ?_, ?_, ?_, ?_, ?_, ?_, ?_, ?_, hsrc, hdst⟩ <;> dsimp only <;> omega
  have CB := Lib.hid (fun w' => build_any _ w' hok2)
  have hcast : ((20 + n : Nat) : Int) = 20 + (n : Int) := by omega
  have hP := hdP_build (T := T) (L := 20 + n) (I := I) (F := F) (O := O) (TT := TT) (PR := PR) (src := src) (dst := dst) 0 hTl (by omega) hIl hFl hOl hTTl hPRl hsrc hdst
  rw [hcast] at hP
  obtain ⟨D, hD⟩ : ∃ D, D = buildB ⟨5, (T : Int), 20 + (n : Int), (I : Int), (F : Int), (O : Int), (TT : Int), (PR : Int), 0, src, dst⟩ := ⟨_, rfl⟩
  rw [← hD] at hP
  have hLn : u64n (20 + (n : Int)) % 65536 = 20 + n := by unfold u64n; omega
  have W1 : Hid (∀ r : List Nat, whyP (D ++ r) = if 20 + r.length < 20 + n then 5 else 0) := fun r => by rw [hD, why_build _ r (by show 20 ≤ u64n (20 + (n : Int)) % 65536; omega)]; show (if 20 + r.length < u64n (20 + (n : Int)) % 65536 then 5 else 0) = _; rw [hLn]
  have W2 : Hid (∀ r : List Nat, bodyP (D ++ r) = r.take n) := fun r => by rw [hD]; exact body_build _ r n hLn
  have W3 : Hid (∀ r : List Nat, lenP (D ++ r) - 4 * ihlP (D ++ r) = n) := fun r => by
    rw [hD, build_len, build_ihl]
    show u64n (20 + (n : Int)) % 65536 - 4 * 5 = n
    omega
  have hDl : D.length = 20 := by rw [hD]; exact buildB_length _
  have hDa : AllB D := by rw [hD]; exact buildB_all _
  have hDn : netN D = 0 := by rw [hD]; exact net_build _
  have hD0 : at' D 0 = 69 := by rw [hD]; exact head_at0 _ _
  have h10 := at_lt hDa 10
  have h11 := at_lt hDa 11
  obtain ⟨a10, ha10⟩ : ∃ a10, a10 = at' D 10 := ⟨_, rfl⟩
  obtain ⟨a11, ha11⟩ : ∃ a11, a11 = at' D 11 := ⟨_, rfl⟩
  rw [← ha10] at h10
  rw [← ha11] at h11
  have hS : two' D 10 = a10 * 256 + a11 := by rw [ha10, ha11]; rfl
  rw [hS] at hP
  obtain ⟨S, hSS⟩ : ∃ S, S = a10 * 256 + a11 := ⟨_, rfl⟩
  rw [← hSS] at hP
  have HV : Hid (∀ r : List Nat, (hdP (D ++ r)).vals = #[.int .i64 5, .int .i64 (T : Int), .int .i64 (20 + (n : Int)), .int .i64 (I : Int), .int .i64 (F : Int), .int .i64 (O : Int), .int .i64 (TT : Int), .int .i64 (PR : Int), .int .i64 (S : Int), .int .u32 (src : Int), .int .u32 (dst : Int)]) := fun r => by rw [hdP_append r (by omega), hP]; rfl
  have hor : bits BinOp.or IntKind.i64 ((a10 : Int) * 256) (a11 : Int) = (S : Int) := by
    have := i64_or_nat (a10 * 256) a11 (by omega) (by omega)
    rw [nat_join 8 (a10 * 256) a11 (by omega) (by omega), ← hSS] at this
    exact this
  have HC := Lib.hid (And.intro ha10 ha11)
  have HA := Lib.hid (And.intro (And.intro hall hall') (And.intro hDa (And.intro hDl (And.intro hlen hlen'))))
  have HN := Lib.hid (And.intro hDn hD0)
  rw [← hD] at CB
  have HR := Lib.hid (And.intro hr hr')
  have HS2 := Lib.hid hSS
  clear hD hLn hok2 hP hr hr' hall hall' hDa hDl hlen hlen' hDn hD0 hcast ha10 ha11 hS hSS
  unfold Hd.vals at CB ⊢
  dsimp only at CB ⊢
  go_enter Try.func3, Try.ntmps3
  go_wp2_with fail
  have hB0 := (Below.refl w.heap.size w).alloc (Nat.le_refl _) (.cells #[.int .i64 5, .int .i64 (T : Int), .int .i64 (20 + (n : Int)), .int .i64 (I : Int), .int .i64 (F : Int), .int .i64 (O : Int), .int .i64 (TT : Int), .int .i64 (PR : Int), .int .i64 0, .int .u32 (src : Int), .int .u32 (dst : Int)] 24)
  have hq0 := Blk.new w 24 #[.int .i64 5, .int .i64 (T : Int), .int .i64 (20 + (n : Int)), .int .i64 (I : Int), .int .i64 (F : Int), .int .i64 (O : Int), .int .i64 (TT : Int), .int .i64 (PR : Int), .int .i64 0, .int .u32 (src : Int), .int .u32 (dst : Int)]
  generalize w.alloc (.cells #[.int .i64 5, .int .i64 (T : Int), .int .i64 (20 + (n : Int)), .int .i64 (I : Int), .int .i64 (F : Int), .int .i64 (O : Int), .int .i64 (TT : Int), .int .i64 (PR : Int), .int .i64 0, .int .u32 (src : Int), .int .u32 (dst : Int)] 24) = v0 at *
  obtain ⟨q, hq⟩ : ∃ q, q = w.heap.size := ⟨_, rfl⟩
  rw [← hq] at hq0 ⊢
  have HQ := Lib.hid hq
  clear hq m1 m2 m3 m4 m5 m6
  refine (CB.out v0).mono ?_
  rintro e w1 ⟨A1, c1, rfl, hown1, hb1⟩
  have hB1 := hB0.trans (hb1.mono hB0.size)
  have hs1 := hB1.size
  have hq1 := hq0.below hb1 hq0.lt
  obtain ⟨g1, hA1, hg1, _⟩ := own_head hown1 (by omega)
  subst hA1
  have hO1 := Lib.hid hown1
  have CN := Lib.hid (net_any w1 w1.heap.size (some ⟨g1, 0, none⟩) 20 c1 D (Reads.of_own hown1) (by omega) HA.out.2.1)
  rw [HN.out.1] at CN
  clear hown1 CB hq0
  go_wp2_with fail
  refine CN.out.mono ?_
  rintro e w' ⟨rfl, rfl⟩
  clear CN
  go_wp2_with (at_builtin; refine stop_ ?_)
  refine on_ ?_
  refine wpList_append_b rfl (.tmp 61) (.tmp 62) _ rfl 5 infoB Try.underlying25 w1.heap.size (.slice (some ⟨w1.heap.size, 0, none⟩) 0 0) 0 [] rfl
    (lit_own (cs := #[]) (Blk.new_ rfl) (Nat.le_refl _) (by decide) rfl rfl) w1.heap.size (some ⟨g1, 0, none⟩) 20 c1 D rfl ((Reads.of_own hO1.out).alloc (Nat.le_refl _) _) 20 rfl (by omega) (by simp) ?_
  intro A2 c2 w2 hown2 hb2 _ _
  rw [List.nil_append] at hown2
  have hb12 : Below w1.heap.size w1 w2 := ((Below.refl _ _).alloc (Nat.le_refl _) _).trans hb2
  have hB2 := hB1.trans (hb12.mono hs1)
  have hs2 := hB2.size
  clear hb2
  go_wp2_with (at_builtin; refine stop_ ?_)
  refine on_ ?_
  refine wpList_append_b rfl (.tmp 63) (.tmp 64) _ rfl 5 infoB Try.underlying25 w1.heap.size (.slice A2 20 c2) 20 D rfl hown2 w2.heap.size A n c l rfl ((HR.out.1.below hB2).more hs2) (20 + n) rfl (by omega) hb12.size ?_
  intro A3 c3 w3 hown3 hb3 _ _
  have hb13 := hb12.trans hb3
  have hB3 := hB1.trans (hb13.mono hs1)
  have hs3 := hB3.size
  clear hb3 hb12 hown2 hB2 hs2
  go_wp2_with (at_builtin; refine stop_ ?_)
  refine on_ ?_
  refine wpList_append_b rfl (.tmp 65) (.tmp 66) _ rfl 5 infoB Try.underlying25 w1.heap.size (.slice A3 (20 + n) c3) (20 + n) (D ++ l) rfl hown3 w3.heap.size A' n' c' m rfl ((HR.out.2.below hB3).more hs3) (20 + n + n') rfl (by omega) hb13.size ?_
  intro A4 c4 w4 hown4 hb4 _ _
  have hb14 := hb13.trans hb4
  have hB4 := hB1.trans (hb14.mono hs1)
  have hs4 := hB4.size
  clear hb4 hb13 hown3 hB3 hs3
  obtain ⟨g4, hA4, hg4, hg4l⟩ := own_head hown4 (by omega)
  subst hA4
  have hq4 := hq1.below hb14 hq1.lt
  have hg1l : g1 < w1.heap.size := (hO1.out.lt g1 rfl).2
  have hO14 := Lib.hid (own_below hO1.out hb14)
  have hc4 := own_cap hown4
  have hDa4 := Lib.hid ((HA.out.2.1.append HA.out.1.1).append HA.out.1.2)
  have P4 := Lib.hid (parse_any (some ⟨g4, 0, none⟩) (20 + n + n') c4 w4.heap.size ((D ++ l) ++ m) w4 (Reads.of_own hown4) (Nat.le_refl _) (by omega) hc4 hDa4.out)
  have hO4 := Lib.hid hown4
  clear hown4 hO1
  go_wp2_with fail
  refine P4.out.mono ?_
  rintro e w5 ⟨hret, hb5⟩
  rw [List.append_assoc] at hret
  obtain ⟨A5, c5, rfl, hown5⟩ := hret.yes (by rw [W1.out, if_neg (by have := HA.out.2.2.2.1; rw [List.length_append]; omega)])
  rw [W3.out] at hown5 ⊢
  rw [HV.out]
  rw [W2.out, List.take_append_of_le_length (by rw [HA.out.2.2.2.1]; exact Nat.le_refl _), List.take_of_length_le (by rw [HA.out.2.2.2.1]; exact Nat.le_refl _)] at hown5
  have hB5 := hB4.trans (hb5.mono hs4)
  have hs5 := hB5.size
  have hq5 := hq4.below hb5 hq4.lt
  have hO15 := own_below hO14.out hb5
  have hO45 := own_below hO4.out hb5
  clear hret hb5 P4 hO14 hO4 hq4 hq1
  have hqp : q < w5.heap.size := hq5.lt
  have hf8 := hq5.frozen 8
  have hf8c := hq5.cell 8
  simp only [List.getElem?_toArray, List.getElem?_cons_zero, List.getElem?_cons_succ] at hf8c
  go_wp2_with fail
  obtain ⟨ph, hph⟩ : ∃ ph, ph = w5.heap.size := ⟨_, rfl⟩
  obtain ⟨w7, hw7⟩ : ∃ w7, w7 = (w5.setCell ⟨q, 8, none⟩ (.int .i64 (S : Int))).alloc (.cells #[.int .i64 5, .int .i64 (T : Int), .int .i64 (20 + (n : Int)), .int .i64 (I : Int), .int .i64 (F : Int), .int .i64 (O : Int), .int .i64 (TT : Int), .int .i64 (PR : Int), .int .i64 (S : Int), .int .u32 (src : Int), .int .u32 (dst : Int)] 24) := ⟨_, rfl⟩
  have hq7 : Blk w7 q 24 #[.int .i64 5, .int .i64 (T : Int), .int .i64 (20 + (n : Int)), .int .i64 (I : Int), .int .i64 (F : Int), .int .i64 (O : Int), .int .i64 (TT : Int), .int .i64 (PR : Int), .int .i64 (S : Int), .int .u32 (src : Int), .int .u32 (dst : Int)] := by
    rw [hw7]
    have hset := hq5.set_ 8 (.int .i64 (S : Int))
    simp only [List.setIfInBounds_toArray, List.set_cons_zero, List.set_cons_succ] at hset
    exact hset.alloc _
  have hbh7 : Blk w7 ph 24 #[.int .i64 5, .int .i64 (T : Int), .int .i64 (20 + (n : Int)), .int .i64 (I : Int), .int .i64 (F : Int), .int .i64 (O : Int), .int .i64 (TT : Int), .int .i64 (PR : Int), .int .i64 (S : Int), .int .u32 (src : Int), .int .u32 (dst : Int)] := by
    rw [hw7]
    exact Blk.new_ (by rw [hph]; simp [World.setCell])
  have hO17 : w7.ownsRow v0.heap.size 5 1 (.slice (some ⟨g1, 0, none⟩) 20 c1) 20 (bv D) := by rw [hw7]; exact (own_set_far hO15 hq5 (by decide) 8 _).alloc _
  have hO47 := (own_set_far hO45 hq5 (by decide) 8 (.int .i64 (S : Int))).alloc (.cells #[.int .i64 5, .int .i64 (T : Int), .int .i64 (20 + (n : Int)), .int .i64 (I : Int), .int .i64 (F : Int), .int .i64 (O : Int), .int .i64 (TT : Int), .int .i64 (PR : Int), .int .i64 (S : Int), .int .u32 (src : Int), .int .u32 (dst : Int)] 24)
  have hO57 := (own_set_far hown5 hq5 (by decide) 8 (.int .i64 (S : Int))).alloc (.cells #[.int .i64 5, .int .i64 (T : Int), .int .i64 (20 + (n : Int)), .int .i64 (I : Int), .int .i64 (F : Int), .int .i64 (O : Int), .int .i64 (TT : Int), .int .i64 (PR : Int), .int .i64 (S : Int), .int .u32 (src : Int), .int .u32 (dst : Int)] 24)
  have hB7 : Below w.heap.size w w7 := by
    rw [hw7]
    have h1 := hB5.setCell (p := ⟨q, 8, none⟩) (by rw [HQ.out]; exact Nat.le_refl _) (.int .i64 (S : Int))
    exact h1.alloc h1.size _
  rw [← hw7] at hO47 hO57 ⊢
  have hs7 := hB7.size
  have hrl7 := (HR.out.1.below hB7).more hs7
  rw [← hph]
  clear hw7 hph hq5 hO15 hO45 hown5 hf8 hf8c hqp
  have S1 := fun k => run_string_back (P := Try.prog) (w := w7.drewN k) (c := c5) 25 9 5 Try.underlying25 Try.underlying5 Try.underlying9 ((Reads.of_own hO57).drewN k) HA.out.1.1
  have S2 := fun k => run_string_back (P := Try.prog) (w := w7.drewN k) (c := c) 25 9 5 Try.underlying25 Try.underlying5 Try.underlying9 (hrl7.drewN k) HA.out.1.1
  have hb10 := ownb_cell hO17 10 (by omega) (by rw [HA.out.2.2.1]; omega)
  have hb11 := ownb_cell hO17 11 (by omega) (by rw [HA.out.2.2.1]; omega)
  rw [at_get, ← HC.out.1] at hb10
  rw [at_get, ← HC.out.2] at hb11
  have ha0 := hq7.cell 0
  have ha1 := hq7.cell 1
  have ha2 := hq7.cell 2
  have ha3 := hq7.cell 3
  have ha4 := hq7.cell 4
  have ha5 := hq7.cell 5
  have ha6 := hq7.cell 6
  have ha7 := hq7.cell 7
  have ha8 := hq7.cell 8
  have ha9 := hq7.cell 9
  have ha10 := hq7.cell 10
  simp only [List.getElem?_toArray, List.getElem?_cons_zero, List.getElem?_cons_succ] at ha0 ha1 ha2 ha3 ha4 ha5 ha6 ha7 ha8 ha9 ha10
  have hb0 := hbh7.cell 0
  have hbb1 := hbh7.cell 1
  have hb2 := hbh7.cell 2
  have hb3 := hbh7.cell 3
  have hb4 := hbh7.cell 4
  have hb5 := hbh7.cell 5
  have hb6 := hbh7.cell 6
  have hb7 := hbh7.cell 7
  have hb8 := hbh7.cell 8
  have hb9 := hbh7.cell 9
  have hbb10 := hbh7.cell 10
  simp only [List.getElem?_toArray, List.getElem?_cons_zero, List.getElem?_cons_succ] at hb0 hbb1 hb2 hb3 hb4 hb5 hb6 hb7 hb8 hb9 hbb10
  have HO47 := Lib.hid hO47
  clear hO17 hO47 hO57 hrl7 hq7 hbh7
  go_quiet (fail)
  have hB8 : Below w.heap.size w (w7.drewN nq) := hB7.trans ⟨rfl, rfl, rfl, Nat.le_refl _, fun _ _ => rfl⟩
  have HO48 : Hid ((w7.drewN nq).ownsRow w1.heap.size 5 1 (.slice (some ⟨g4, 0, none⟩) (20 + n + n') c4) (20 + n + n') (bv ((D ++ l) ++ m))) := HO47.out
  clear HO47 S1 S2 hb10 hb11 ha0 ha1 ha2 ha3 ha4 ha5 ha6 ha7 ha8 ha9 ha10 hb0 hbb1 hb2 hb3 hb4 hb5 hb6 hb7 hb8 hb9 hbb10 hB7 hs7
  generalize w7.drewN nq = w8 at *
  have hs8 := hB8.size
  by_cases hx0 : x = 0
  · have hbx : ((x : Int) == 0) = true := by simp [hx0]
    clear hx0
    go_wp2_with fail
    refine (awake20_any _).mono ?_
    rintro e w11 ⟨rfl, hb11'⟩
    go_wp2_with fail
    go_ret
    exact ⟨rfl, hB8.trans (hb11'.mono hs8)⟩
  · have hbx : ((x : Int) == 0) = false := by simp; omega
    obtain ⟨j, hj, hje0⟩ := idx_rem at_ 19 (by omega)
    have hje : (IntKind.u64.wrap at_).tmod 19 = (j : Int) := hje0
    clear hje0
    have hlP : ((D ++ l) ++ m).length = 20 + n + n' := by
      rw [List.length_append, List.length_append, HA.out.2.2.1, HA.out.2.2.2.1, HA.out.2.2.2.2]
    have hjD : 1 + j < D.length := by rw [HA.out.2.2.1]; omega
    have hcj := ownb_cell HO48.out (1 + j) (by omega) (by rw [hlP]; omega)
    have hfj := HO48.out.frozenAt (1 + j)
    have hge : ((D ++ l) ++ m)[1 + j]'(by rw [hlP]; omega) = D[1 + j] := by
      rw [List.getElem_append_left (by rw [List.length_append]; omega), List.getElem_append_left hjD]
    rw [hge] at hcj
    have hold := HA.out.2.1 _ (List.getElem_mem hjD)
    obtain ⟨o, ho⟩ : ∃ o, o = D[1 + j] := ⟨_, rfl⟩
    rw [← ho] at hcj hold
    have hxor := u8_xor_nat o x hold hx
    have hyl : o ^^^ x < 256 := Nat.xor_lt_two_pow (n := 8) hold hx
    have hyne : o ^^^ x ≠ o := by
      intro e
      have h1 : o ^^^ (o ^^^ x) = o ^^^ o := by rw [e]
      rw [← Nat.xor_assoc, Nat.xor_self, Nat.zero_xor] at h1
      exact hx0 h1
    obtain ⟨y, hy⟩ : ∃ y, y = o ^^^ x := ⟨_, rfl⟩
    rw [← hy] at hxor hyl hyne
    have hwhy : Hid (whyP (((D ++ l) ++ m).set (1 + j) y) = 4) := by
      show _ = _
      rw [List.append_assoc]
      exact why_one HA.out.2.2.1 HN.out.2 HN.out.1 HA.out.2.1 (by omega) (by omega) hyl (by rw [← ho]; exact hyne)
    have hst := ownb_store HO48.out (1 + j) y
    have hal := Lib.hid (AllB.set' (((HA.out.2.1.append HA.out.1.1).append HA.out.1.2)) (1 + j) y hyl)
    have hB9 := hB8.setCell (p := ⟨g4, 1 + j, none⟩) (Nat.le_trans hs1 hg4) (.int .u8 (y : Int))
    have HST := Lib.hid hst
    clear hx0 hlP hjD hge ho hy hyne hst hold
    go_wp2_with fail
    have hst := HST.out
    generalize w8.setCell ⟨g4, 1 + j, none⟩ (.int .u8 (y : Int)) = w9 at *
    clear HST HO48
    refine (parse_any (some ⟨g4, 0, none⟩) (20 + n + n') c4 w9.heap.size _ w9 (Reads.of_own hst) (Nat.le_refl _) (by omega) hc4 hal.out).mono ?_
    rintro e w10 ⟨hret, hb10'⟩
    obtain rfl := hret.no (by rw [hwhy.out]; omega)
    rw [hwhy.out]
    have hB10 := hB9.trans (hb10'.mono hB9.size)
    clear hret hst
    unfold hd0 Hd.vals
    go_wp2_with fail
    refine (awake20_any _).mono ?_
    rintro e w11 ⟨rfl, hb11'⟩
    go_wp2_with fail
    go_ret
    exact ⟨rfl, hB10.trans (hb11'.mono hB10.size)⟩
end Go.Proofs.Ytpgbldpppdmdoaa.ipBack
