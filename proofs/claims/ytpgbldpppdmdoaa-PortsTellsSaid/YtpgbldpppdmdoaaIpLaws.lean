/- Plain laws of headers: what is built is a packet. -/
import Derived.Test.YtpgbldpppdmdoaaIpPlain
namespace Go.Proofs.Ytpgbldpppdmdoaa
set_option linter.unusedVariables false
set_option linter.unusedSimpArgs false
open Go.RowKit

theorem headB_list (h : Hd) (c : Nat) : headB h c = [69, u64n h.tos % 256, u64n h.len / 256 % 256, u64n h.len % 256, u64n h.id / 256 % 256, u64n h.id % 256, flof h / 256 % 256, flof h % 256, u64n h.ttl % 256, u64n h.proto % 256, c / 256 % 256, c % 256,
    h.src / 16777216 % 256, h.src / 65536 % 256, h.src / 256 % 256, h.src % 256, h.dst / 16777216 % 256, h.dst / 65536 % 256, h.dst / 256 % 256, h.dst % 256] := by
  simp [headB, be_one, be_two, be_four]
theorem wsum_head (h : Hd) (c : Nat) (hc : c < 65536) : wsum (headB h c) = wsum (headB h 0) + c := by
  rw [headB_list, headB_list]
  simp only [wsum]
  omega
theorem net_build (h : Hd) : netN (buildB h) = 0 := by
  unfold buildB
  have e := wsum_head h (netN (headB h 0)) (netN_lt _)
  unfold netN at e ⊢
  rw [e, fo_behind]
theorem at_append {a b : List Nat} {j : Nat} (h : j < a.length) : at' (a ++ b) j = at' a j := by
  unfold at'
  simp [List.getD_eq_getElem?_getD, List.getElem?_append_left h]
theorem two_append {a b : List Nat} {j : Nat} (h : j + 1 < a.length) : two' (a ++ b) j = two' a j := by
  unfold two'
  rw [at_append (by omega), at_append h]
theorem four_append {a b : List Nat} {j : Nat} (h : j + 3 < a.length) : four' (a ++ b) j = four' a j := by
  unfold four'
  rw [two_append (by omega), two_append (j := j + 2) (by omega)]
theorem hdP_append {a : List Nat} (b : List Nat) (h : 20 ≤ a.length) : hdP (a ++ b) = hdP a := by
  unfold hdP ihlP lenP
  rw [at_append (by omega), at_append (by omega), two_append (by omega), two_append (by omega), two_append (by omega), at_append (by omega), at_append (by omega), two_append (by omega), four_append (by omega), four_append (by omega)]
theorem ihl_append {a : List Nat} (b : List Nat) (h : 20 ≤ a.length) : ihlP (a ++ b) = ihlP a := by
  unfold ihlP; rw [at_append (by omega)]
theorem len_append {a : List Nat} (b : List Nat) (h : 20 ≤ a.length) : lenP (a ++ b) = lenP a := by
  unfold lenP; rw [two_append (by omega)]

theorem head_at0 (h : Hd) (c : Nat) : at' (headB h c) 0 = 69 := by rw [headB_list]; rfl
theorem head_ihl (h : Hd) (c : Nat) : ihlP (headB h c) = 5 := by unfold ihlP; rw [head_at0]
theorem head_len (h : Hd) (c : Nat) : lenP (headB h c) = u64n h.len % 65536 := by
  unfold lenP two'
  rw [headB_list]
  show u64n h.len / 256 % 256 * 256 + u64n h.len % 256 = _
  omega

/-- why what is built is a packet, or none, with bytes behind it -/
theorem why_build (h : Hd) (r : List Nat) (hlen : 20 ≤ u64n h.len % 65536) : whyP (buildB h ++ r) = if 20 + r.length < u64n h.len % 65536 then 5 else 0 := by
  have hl := buildB_length h
  have h0 : at' (buildB h ++ r) 0 = 69 := by rw [at_append (by omega)]; exact head_at0 _ _
  have hi : ihlP (buildB h ++ r) = 5 := by unfold ihlP; rw [h0]
  have hL : lenP (buildB h ++ r) = u64n h.len % 65536 := by rw [len_append r (by omega)]; exact head_len _ _
  have hn : netN ((buildB h ++ r).take (4 * 5)) = 0 := by
    rw [show 4 * 5 = (buildB h).length from by rw [hl], List.take_left' rfl]
    exact net_build h
  unfold whyP
  rw [hi, hL, h0, hn, List.length_append, hl, if_neg (by omega), if_neg (by omega), if_neg (by omega), if_neg (by omega), if_neg (by omega), if_neg (by omega)]
theorem body_build (h : Hd) (r : List Nat) (L : Nat) (hL : u64n h.len % 65536 = 20 + L) : bodyP (buildB h ++ r) = r.take L := by
  have hl := buildB_length h
  unfold bodyP
  rw [len_append r (by omega), ihl_append r (by omega)]
  rw [show lenP (buildB h) = 20 + L from (head_len _ _).trans hL, show ihlP (buildB h) = 5 from head_ihl _ _]
  rw [List.take_append, hl, List.drop_append]
  simp [hl]
theorem build_len (h : Hd) (r : List Nat) : lenP (buildB h ++ r) = u64n h.len % 65536 := by
  have hl := buildB_length h
  rw [len_append r (by omega)]; exact head_len _ _
theorem build_ihl (h : Hd) (r : List Nat) : ihlP (buildB h ++ r) = 5 := by
  have hl := buildB_length h
  rw [ihl_append r (by omega)]; exact head_ihl _ _
theorem u64n_small (z : Nat) (h : z < 65536) : u64n (z : Int) % 65536 = z := by unfold u64n; omega
end Go.Proofs.Ytpgbldpppdmdoaa
