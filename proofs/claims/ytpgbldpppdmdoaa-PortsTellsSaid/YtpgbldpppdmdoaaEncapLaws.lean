/- Plain laws of packets in packets: what is wrapped is a packet; unwrapped it is the packet, a hop further. -/
import Derived.Test.YtpgbldpppdmdoaaEncapPlain
namespace Go.Proofs.Ytpgbldpppdmdoaa
set_option linter.unusedVariables false
set_option linter.unusedSimpArgs false
open Go.RowKit

theorem build_tos (h : Hd) (r : List Nat) : at' (buildB h ++ r) 1 = u64n h.tos % 256 := by
  rw [at_append (by rw [buildB_length]; omega)]
  unfold buildB at'; rw [headB_list]; rfl
theorem build_id (h : Hd) (r : List Nat) : two' (buildB h ++ r) 4 = u64n h.id % 65536 := by
  rw [two_append (by rw [buildB_length]; omega)]
  unfold buildB two' at'; rw [headB_list]
  show u64n h.id / 256 % 256 * 256 + u64n h.id % 256 = _
  omega
theorem take_why {p : List Nat} (h : whyP p = 0) : whyP (p.take (lenP p)) = 0 ∧ lenP (p.take (lenP p)) = lenP p ∧ (p.take (lenP p)).length = lenP p := by
  obtain ⟨k1, k2, k3, k4, k5, k6, k7⟩ := why_zero h
  refine ⟨why_take h, ?_, by rw [List.length_take]; omega⟩
  have h4 : 4 < lenP p := by omega
  unfold lenP at h4 ⊢
  unfold two' at h4 ⊢
  rw [at_take (by omega), at_take (by omega)]
theorem inner_why {p : List Nat} (ha : AllB p) (h : whyP p = 0) (ht : 2 ≤ at' p 8) : whyP (olderB (p.take (lenP p))) = 0 ∧ lenP (olderB (p.take (lenP p))) = lenP p ∧ (olderB (p.take (lenP p))).length = lenP p := by
  obtain ⟨k1, k2, k3, k4, k5, k6, k7⟩ := why_zero h
  obtain ⟨t1, t2, t3⟩ := take_why h
  refine ⟨why_older (ha.take _) t1 (by rw [at_take (by omega)]; omega), by rw [older_lenP, t2], by rw [olderB_length, t3]⟩

/-- what is wrapped, as a packet -/
theorem wrapped {p : List Nat} (ha : AllB p) (h : whyP p = 0) (ht : 2 ≤ at' p 8) (hL : lenP p ≤ 60000) (self dest : Nat) (hs : self < 4294967296) (hd : dest < 4294967296) :
    whyP (wrapB p self dest) = 0 ∧ lenP (wrapB p self dest) = 20 + lenP p ∧ ihlP (wrapB p self dest) = 5 ∧ at' (wrapB p self dest) 8 = 64 ∧ at' (wrapB p self dest) 9 = 4 ∧ four' (wrapB p self dest) 12 = self ∧ four' (wrapB p self dest) 16 = dest ∧
    bodyP (wrapB p self dest) = olderB (p.take (lenP p)) ∧ at' (wrapB p self dest) 1 = at' p 1 ∧ two' (wrapB p self dest) 4 = two' p 4 := by
  obtain ⟨i1, i2, i3⟩ := inner_why ha h ht
  have hlen : u64n (outHd p self dest).len % 65536 = 20 + lenP p := by
    show u64n ((lenP p + 20 : Nat) : Int) % 65536 = _
    unfold u64n; omega
  have h1 := at_lt ha 1
  have h4 := two_lt ha 4
  unfold wrapB
  refine ⟨?_, ?_, build_ihl _ _, ?_, ?_, build_src _ _ hs, build_dst _ _ hd, ?_, ?_, ?_⟩
  · rw [why_build _ _ (by omega), hlen, if_neg (by omega)]
  · rw [build_len, hlen]
  · rw [build_ttl]; rfl
  · rw [build_proto]; rfl
  · rw [body_build _ _ (lenP p) hlen, List.take_of_length_le (by omega)]
  · rw [build_tos]
    show u64n ((at' p 1 : Nat) : Int) % 256 = _
    unfold u64n; omega
  · rw [build_id]
    show u64n ((two' p 4 : Nat) : Int) % 65536 = _
    unfold u64n; omega
/-- unwrapped it is the packet, a hop further -/
theorem unwrapped {p : List Nat} (ha : AllB p) (h : whyP p = 0) (ht : 2 ≤ at' p 8) (hL : lenP p ≤ 60000) (self dest : Nat) (hs : self < 4294967296) (hd : dest < 4294967296) :
    whyU (wrapB p self dest) = 0 ∧ innerU (wrapB p self dest) = olderB (p.take (lenP p)) ∧ lenP (bodyP (wrapB p self dest)) = lenP p := by
  obtain ⟨i1, i2, i3⟩ := inner_why ha h ht
  obtain ⟨w1, w2, w3, w4, w5, w6, w7, w8, w9, w10⟩ := wrapped ha h ht hL self dest hs hd
  refine ⟨?_, ?_, by rw [w8, i2]⟩
  · unfold whyU
    rw [w1, w5, w8, if_neg (by omega), if_neg (by omega), i1]
  · unfold innerU
    rw [w8, i2, List.take_of_length_le (by omega)]
/-- made packets, with more behind them -/
theorem madeB_more (k : Tu) (ttl flags : Int) (l m : List Nat) (h : l.length ≤ 50000) :
    whyP (madeB k ttl flags l ++ m) = 0 ∧ lenP (madeB k ttl flags l ++ m) = (madeB k ttl flags l).length ∧ (madeB k ttl flags l ++ m).take (madeB k ttl flags l).length = madeB k ttl flags l ∧ at' (madeB k ttl flags l ++ m) 8 = u64n ttl % 256 ∧ 28 ≤ (madeB k ttl flags l).length := by
  have e := madeP_length k flags l
  have hL : (madeP k flags l).length < 60000 := by rw [e]; split <;> omega
  have hl := madeB_length k ttl flags l
  refine ⟨?_, ?_, List.take_left' rfl, ?_, by rw [hl]; split <;> omega⟩
  · unfold madeB
    rw [List.append_assoc, why_build _ _ (by rw [madeHd_len k ttl _ hL]; omega), madeHd_len k ttl _ hL, List.length_append, if_neg (by omega)]
  · rw [len_append m (by omega), madeB_lenP k ttl flags l h]
  · rw [at_append (by omega), madeB_ttl]
end Go.Proofs.Ytpgbldpppdmdoaa
