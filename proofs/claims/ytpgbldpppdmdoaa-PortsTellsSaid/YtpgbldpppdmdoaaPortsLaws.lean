/- Plain laws of ports: what a made packet tells. -/
import Derived.Test.YtpgbldpppdmdoaaPTuple
import Derived.Test.YtpgbldpppdmdoaaIpLaws2
namespace Go.Proofs.Ytpgbldpppdmdoaa
set_option linter.unusedVariables false
set_option linter.unusedSimpArgs false
open Go.RowKit

theorem build_flof (h : Hd) (r : List Nat) : two' (buildB h ++ r) 6 = flof h := by
  rw [two_append (by rw [buildB_length]; omega)]
  have hf : flof h < 65536 := by unfold flof; omega
  unfold buildB two' at'; rw [headB_list]
  show flof h / 256 % 256 * 256 + flof h % 256 = _
  omega
theorem build_ttl (h : Hd) (r : List Nat) : at' (buildB h ++ r) 8 = u64n h.ttl % 256 := by
  rw [at_append (by rw [buildB_length]; omega)]
  unfold buildB at'; rw [headB_list]; rfl
theorem build_proto (h : Hd) (r : List Nat) : at' (buildB h ++ r) 9 = u64n h.proto % 256 := by
  rw [at_append (by rw [buildB_length]; omega)]
  unfold buildB at'; rw [headB_list]; rfl
theorem build_src (h : Hd) (r : List Nat) (hs : h.src < 4294967296) : four' (buildB h ++ r) 12 = h.src := by
  rw [four_append (by rw [buildB_length]; omega)]
  unfold buildB four' two' at'; rw [headB_list]
  show (h.src / 16777216 % 256 * 256 + h.src / 65536 % 256) * 65536 + (h.src / 256 % 256 * 256 + h.src % 256) = h.src
  omega
theorem build_dst (h : Hd) (r : List Nat) (hs : h.dst < 4294967296) : four' (buildB h ++ r) 16 = h.dst := by
  rw [four_append (by rw [buildB_length]; omega)]
  unfold buildB four' two' at'; rw [headB_list]
  show (h.dst / 16777216 % 256 * 256 + h.dst / 65536 % 256) * 65536 + (h.dst / 256 % 256 * 256 + h.dst % 256) = h.dst
  omega
theorem whyT_build (h : Hd) (P : List Nat) (hL : u64n h.len % 65536 = 20 + P.length) :
    whyT (buildB h ++ P) = if wholeN (flof h / 8192) (flof h % 8192) = false then 6 else if u64n h.proto % 256 = 6 then (if tcpB P = true then 0 else 9) else if u64n h.proto % 256 = 17 then (if udpB P = true then 0 else 9) else 8 := by
  have hw : whyP (buildB h ++ P) = 0 := by rw [why_build h P (by omega), if_neg (by omega)]
  have hb : bodyP (buildB h ++ P) = P := by rw [body_build h P P.length hL, List.take_length]
  unfold whyT wholeL
  rw [hw, hb, build_flof, build_proto, if_neg (by simp)]
theorem tuP_build (h : Hd) (P : List Nat) (hL : u64n h.len % 65536 = 20 + P.length) (hs : h.src < 4294967296) (hd : h.dst < 4294967296) :
    tuP (buildB h ++ P) = ⟨h.src, h.dst, (u64n h.proto % 256 : Nat), (two' P 0 : Nat), (two' P 2 : Nat)⟩ := by
  have hb : bodyP (buildB h ++ P) = P := by rw [body_build h P P.length hL, List.take_length]
  unfold tuP
  rw [hb, build_src h P hs, build_dst h P hd, build_proto]

def mayTu (k : Tu) : Bool := decide ((k.proto = 6 ∨ k.proto = 17) ∧ 0 ≤ k.sport ∧ k.sport ≤ 65535 ∧ 0 ≤ k.dport ∧ k.dport ≤ 65535)

theorem madeP_length (k : Tu) (flags : Int) (l : List Nat) : (madeP k flags l).length = (if k.proto = 6 then 20 else 8) + l.length := by
  unfold madeP
  split
  · simp [tcpHead, two8]; omega
  · simp [udpHead, two8]; omega
theorem madeP_all (k : Tu) (flags : Int) (l : List Nat) (h : AllB l) : AllB (madeP k flags l) := by
  unfold madeP
  split
  · refine (((two8_all _).append (two8_all _)).append ?_).append h
    intro x hx
    simp at hx
    omega
  · refine ((((two8_all _).append (two8_all _)).append (two8_all _)).append ?_).append h
    intro x hx
    simp at hx
    omega
theorem madeB_length (k : Tu) (ttl flags : Int) (l : List Nat) : (madeB k ttl flags l).length = 20 + ((if k.proto = 6 then 20 else 8) + l.length) := by
  unfold madeB
  rw [List.length_append, buildB_length, madeP_length]
theorem madeB_all (k : Tu) (ttl flags : Int) (l : List Nat) (h : AllB l) : AllB (madeB k ttl flags l) := (buildB_all _).append (madeP_all k flags l h)
theorem madeHd_len (k : Tu) (ttl : Int) (L : Nat) (hL : L < 60000) : u64n (madeHd k ttl L).len % 65536 = 20 + L := by
  show u64n (20 + (L : Int)) % 65536 = _
  unfold u64n; omega
theorem madeB_lenP (k : Tu) (ttl flags : Int) (l : List Nat) (h : l.length ≤ 50000) : lenP (madeB k ttl flags l) = (madeB k ttl flags l).length := by
  have e := madeP_length k flags l
  have hL : (madeP k flags l).length < 60000 := by rw [e]; split <;> omega
  unfold madeB
  rw [build_len, madeHd_len k ttl _ hL, List.length_append, buildB_length]
theorem madeB_why (k : Tu) (ttl flags : Int) (l : List Nat) (h : l.length ≤ 50000) : whyP (madeB k ttl flags l) = 0 := by
  have e := madeP_length k flags l
  have hL : (madeP k flags l).length < 60000 := by rw [e]; split <;> omega
  unfold madeB
  rw [why_build _ _ (by rw [madeHd_len k ttl _ hL]; omega), madeHd_len k ttl _ hL, if_neg (by omega)]
theorem madeB_body (k : Tu) (ttl flags : Int) (l : List Nat) (h : l.length ≤ 50000) : bodyP (madeB k ttl flags l) = madeP k flags l := by
  have e := madeP_length k flags l
  have hL : (madeP k flags l).length < 60000 := by rw [e]; split <;> omega
  unfold madeB
  rw [body_build _ _ _ (madeHd_len k ttl _ hL), List.take_length]
theorem madeB_ttl (k : Tu) (ttl flags : Int) (l : List Nat) : at' (madeB k ttl flags l) 8 = u64n ttl % 256 := by
  unfold madeB; rw [build_ttl]; rfl
theorem tcp_made (k : Tu) (flags : Int) (l : List Nat) : tcpB (tcpHead k flags ++ l) = true := by
  unfold tcpB
  refine decide_eq_true ?_
  have hl : (tcpHead k flags ++ l).length = 20 + l.length := by simp [tcpHead, two8]; omega
  have h12 : at' (tcpHead k flags ++ l) 12 = 80 := rfl
  rw [hl, h12]
  omega
theorem udp_made (k : Tu) (l : List Nat) (h : l.length ≤ 50000) : udpB (udpHead k l.length ++ l) = true := by
  unfold udpB
  refine decide_eq_true ?_
  have hl : (udpHead k l.length ++ l).length = 8 + l.length := by simp [udpHead, two8]; omega
  have h4 : two' (udpHead k l.length ++ l) 4 = u64n (8 + (l.length : Int)) / 256 % 256 * 256 + u64n (8 + (l.length : Int)) % 256 := rfl
  have e : u64n (8 + (l.length : Int)) = 8 + l.length := by unfold u64n; omega
  rw [hl, h4, e]
  omega
theorem two_sport (k : Tu) (flags : Int) (l : List Nat) (h : 0 ≤ k.sport ∧ k.sport ≤ 65535) : ((two' (madeP k flags l) 0 : Nat) : Int) = k.sport := by
  have e : two' (madeP k flags l) 0 = u64n k.sport / 256 % 256 * 256 + u64n k.sport % 256 := by
    unfold madeP; split <;> rfl
  rw [e]
  have : u64n k.sport = k.sport.toNat := by unfold u64n; omega
  rw [this]; omega
theorem two_dport (k : Tu) (flags : Int) (l : List Nat) (h : 0 ≤ k.dport ∧ k.dport ≤ 65535) : ((two' (madeP k flags l) 2 : Nat) : Int) = k.dport := by
  have e : two' (madeP k flags l) 2 = u64n k.dport / 256 % 256 * 256 + u64n k.dport % 256 := by
    unfold madeP; split <;> rfl
  rw [e]
  have : u64n k.dport = k.dport.toNat := by unfold u64n; omega
  rw [this]; omega
theorem mayTu_parts {k : Tu} (h : mayTu k = true) : (k.proto = 6 ∨ k.proto = 17) ∧ 0 ≤ k.sport ∧ k.sport ≤ 65535 ∧ 0 ≤ k.dport ∧ k.dport ≤ 65535 := of_decide_eq_true h
theorem u64n_proto {k : Tu} (h : k.proto = 6 ∨ k.proto = 17) : ((u64n k.proto % 256 : Nat) : Int) = k.proto := by
  rcases h with h | h <;> rw [h] <;> decide +kernel
theorem flof_zero (h : Hd) (hf : h.flags = 0) (ho : h.off = 0) : flof h = 0 := by unfold flof; rw [hf, ho]; rfl
/-- a made packet tells its tuple -/
theorem made_tells (k : Tu) (ttl flags : Int) (l : List Nat) (hk : TuOk k) (hm : mayTu k = true) (h : l.length ≤ 50000) :
    whyT (madeB k ttl flags l) = 0 ∧ tuP (madeB k ttl flags l) = k := by
  obtain ⟨hp, s0, s1, d0, d1⟩ := mayTu_parts hm
  have e := madeP_length k flags l
  have hL : (madeP k flags l).length < 60000 := by rw [e]; split <;> omega
  have hlen := madeHd_len k ttl _ hL
  have hpr := u64n_proto hp
  constructor
  · unfold madeB
    rw [whyT_build _ _ hlen]
    have hw : wholeN (flof (madeHd k ttl (madeP k flags l).length) / 8192) (flof (madeHd k ttl (madeP k flags l).length) % 8192) = true := by
      rw [flof_zero _ rfl rfl]; rfl
    rw [hw, if_neg (by decide)]
    have epr : (madeHd k ttl (madeP k flags l).length).proto = k.proto := rfl
    rw [epr]
    rcases hp with hp | hp
    · rw [if_pos (by rw [hp]; decide +kernel), show madeP k flags l = tcpHead k flags ++ l from if_pos hp, tcp_made, if_pos rfl]
    · rw [if_neg (by rw [hp]; decide +kernel), if_pos (by rw [hp]; decide +kernel), show madeP k flags l = udpHead k l.length ++ l from if_neg (by rw [hp]; decide), udp_made k l h, if_pos rfl]
  · unfold madeB
    rw [tuP_build _ _ hlen hk.src hk.dst]
    show (⟨k.src, k.dst, ((u64n k.proto % 256 : Nat) : Int), _, _⟩ : Tu) = k
    rw [hpr, two_sport k flags l ⟨s0, s1⟩, two_dport k flags l ⟨d0, d1⟩]
theorem made_flags (k : Tu) (ttl flags : Int) (l : List Nat) (hp : k.proto = 6) (h : l.length ≤ 50000) : at' (bodyP (madeB k ttl flags l)) 13 = u64n flags % 256 := by
  rw [madeB_body k ttl flags l h, show madeP k flags l = tcpHead k flags ++ l from if_pos hp]
  rfl
theorem made_proto (k : Tu) (ttl flags : Int) (l : List Nat) : at' (madeB k ttl flags l) 9 = u64n k.proto % 256 := by
  unfold madeB; rw [build_proto]; rfl
/-- a part of a packet is none -/
theorem part_tells (h : Hd) (P : List Nat) (hL : u64n h.len % 65536 = 20 + P.length) (hf : h.flags = 1) (ho : h.off = 0) : whyT (buildB h ++ P) = 6 := by
  rw [whyT_build h P hL]
  have hw : wholeN (flof h / 8192) (flof h % 8192) = false := by
    have : flof h = 8192 := by unfold flof; rw [hf, ho]; rfl
    rw [this]; rfl
  rw [hw, if_pos rfl]
/-- with too few bytes there are no ports -/
theorem short_tells (h : Hd) (P : List Nat) (hL : u64n h.len % 65536 = 20 + P.length) (hf : h.flags = 0) (ho : h.off = 0) (hs : (h.proto = 6 ∧ P.length < 20) ∨ (h.proto = 17 ∧ P.length < 8)) : whyT (buildB h ++ P) = 9 := by
  rw [whyT_build h P hL]
  have hw : wholeN (flof h / 8192) (flof h % 8192) = true := by
    have : flof h = 0 := by unfold flof; rw [hf, ho]; rfl
    rw [this]; rfl
  rw [hw, if_neg (by decide)]
  rcases hs with ⟨hp, hs⟩ | ⟨hp, hs⟩
  · have ht : tcpB P = false := decide_eq_false (by omega)
    rw [if_pos (by rw [hp]; decide +kernel), ht, if_neg (by decide)]
  · have ht : udpB P = false := decide_eq_false (by omega)
    rw [if_neg (by rw [hp]; decide +kernel), if_pos (by rw [hp]; decide +kernel), ht, if_neg (by decide)]
/-- of which protocol it is -/
theorem other_tells (h : Hd) (P : List Nat) (p : Nat) (hp : p < 256) (hL : u64n h.len % 65536 = 20 + P.length) (hf : h.flags = 0) (ho : h.off = 0) (he : h.proto = (p : Int)) : (whyT (buildB h ++ P) = 8 ↔ (p ≠ 6 ∧ p ≠ 17)) := by
  rw [whyT_build h P hL]
  have hw : wholeN (flof h / 8192) (flof h % 8192) = true := by
    have : flof h = 0 := by unfold flof; rw [hf, ho]; rfl
    rw [this]; rfl
  have e : u64n h.proto % 256 = p := by rw [he]; unfold u64n; omega
  rw [hw, if_neg (by decide), e]
  by_cases h6 : p = 6
  · rw [if_pos h6]
    constructor
    · intro hx; split at hx <;> omega
    · rintro ⟨h1, _⟩; exact absurd h6 h1
  · rw [if_neg h6]
    by_cases h17 : p = 17
    · rw [if_pos h17]
      constructor
      · intro hx; split at hx <;> omega
      · rintro ⟨_, h1⟩; exact absurd h17 h1
    · rw [if_neg h17]
      exact ⟨fun _ => ⟨h6, h17⟩, fun _ => rfl⟩
theorem and5_low (x : Nat) : x &&& 5 = (x % 256) &&& 5 := by
  have h : (5 : Nat) = 255 &&& 5 := by decide
  have h2 : x % 256 = x &&& 255 := (Nat.and_two_pow_sub_one_eq_mod x 8).symm
  rw [h2, Nat.and_assoc, ← h]
theorem i64_and5 (z : Int) : bits .and .i64 z 5 = (((u64n z % 256) &&& 5 : Nat) : Int) := by
  rw [and_def, BitVec.toNat_and]
  have e1 : (BitVec.ofInt 64 z).toNat = u64n z := by
    rw [BitVec.toNat_ofInt]; unfold u64n; rfl
  have e2 : (BitVec.ofInt 64 5).toNat = 5 := by decide
  rw [e1, e2, and5_low]
  have hb : (u64n z % 256) &&& 5 ≤ 5 := Nat.and_le_right
  exact IntWalk.i64_in _ (by omega)

deriving instance DecidableEq for Tu
/-- does a packet end the flow of a tuple -/
def endsL (k : Tu) (l : List Nat) : Bool := decide (whyT l = 0 ∧ k = tuP l ∧ at' l 9 = 6 ∧ at' (bodyP l) 13 &&& 5 ≠ 0)
theorem ends_made (k o : Tu) (ttl flags : Int) (l : List Nat) (hk : TuOk k) (hm : mayTu k = true) (h : l.length ≤ 50000) :
    endsL o (madeB k ttl flags l) = decide (o = k ∧ k.proto = 6 ∧ (u64n flags % 256) &&& 5 ≠ 0) := by
  obtain ⟨hy, ht⟩ := made_tells k ttl flags l hk hm h
  have hp := (mayTu_parts hm).1
  unfold endsL
  rw [decide_eq_decide, hy, ht, made_proto]
  by_cases h6 : k.proto = 6
  · rw [made_flags k ttl flags l h6 h, h6]
    constructor
    · rintro ⟨_, h1, _, h2⟩; exact ⟨h1, rfl, h2⟩
    · rintro ⟨h1, _, h2⟩; exact ⟨rfl, h1, rfl, h2⟩
  · constructor
    · rintro ⟨_, _, h1, _⟩
      have := u64n_proto hp
      omega
    · rintro ⟨_, h1, _⟩; exact absurd h1 h6
theorem hdT_names (l : List Nat) : ∃ (y0 y1 y2 y3 y4 y5 y6 y7 y8 : Int) (y9 y10 : Nat), (hdT l).vals = #[.int .i64 y0, .int .i64 y1, .int .i64 y2, .int .i64 y3, .int .i64 y4, .int .i64 y5, .int .i64 y6, .int .i64 y7, .int .i64 y8, .int .u32 (y9 : Int), .int .u32 (y10 : Int)] ∧ y2 = (hdT l).len ∧ y6 = (hdT l).ttl :=
  ⟨_, _, _, _, _, _, _, _, _, _, _, rfl, rfl, rfl⟩
theorem tuT_yes {l : List Nat} (h : whyT l = 0) : tuT l = tuP l := if_pos h
theorem hdT_yes {l : List Nat} (h : whyT l = 0) : hdT l = hdP l := if_pos h
theorem tuT_no {l : List Nat} (h : whyT l ≠ 0) : tuT l = tu0 := if_neg h
theorem hdT_no {l : List Nat} (h : whyT l ≠ 0) : hdT l = hd0 := if_neg h
end Go.Proofs.Ytpgbldpppdmdoaa
