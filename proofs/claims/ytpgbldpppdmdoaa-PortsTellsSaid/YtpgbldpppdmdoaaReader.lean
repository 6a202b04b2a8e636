/- The walks of octet's Reader: numbers of bytes, the highest byte first. -/
import Derived.Test.YtpgbldpppdmdoaaOctet
namespace Go.Proofs.Ytpgbldpppdmdoaa
set_option linter.unusedVariables false
set_option linter.unusedSimpArgs false
open Go.RowKit

/-- the number of bytes -/
def nb (l : List Nat) : Nat := l.foldl (fun n x => n * 256 + x) 0
theorem nb_take (l : List Nat) (k : Nat) (h : k < l.length) : nb (l.take (k + 1)) = nb (l.take k) * 256 + l[k] := by
  unfold nb
  rw [List.take_succ_eq_append_getElem h, List.foldl_append]; rfl
theorem nb_lt {l : List Nat} (h : AllB l) : ∀ k, k ≤ l.length → nb (l.take k) < 256 ^ k
  | 0, _ => by simp [nb]
  | k + 1, hk => by
    have ih := nb_lt h k (by omega)
    have hx := h _ (List.getElem_mem (l := l) (n := k) (by omega))
    rw [nb_take l k (by omega), Nat.pow_succ]
    omega

/-- a Reader of the call's own that has these bytes left -/
def RBuf (w : World) (p : Nat) (l : List Nat) : Prop := ∃ B A c, B ≤ p ∧ Blk w p 91 #[.slice A l.length c, .int .i64 0] ∧ Reads w B 1 A l.length (bv l) ∧ l.length ≤ c

theorem RBuf.below {w w' : World} {p : Nat} {l : List Nat} (h : RBuf w p l) (hb : Below w.heap.size w w') : RBuf w' p l := by
  obtain ⟨B, A, c, h1, h2, h3, h4⟩ := h
  have := h2.lt
  exact ⟨B, A, c, h1, h2.below hb h2.lt, h3.below (hb.mono (by omega)), h4⟩
theorem RBuf.lt {w : World} {p : Nat} {l : List Nat} (h : RBuf w p l) : p < w.heap.size := by
  obtain ⟨B, A, c, h1, h2, h3, h4⟩ := h
  exact h2.lt

theorem grown_set (w : World) (p i : Nat) (v : Value) : w.grownBy (w.setCell ⟨p, i, none⟩ v) (some p) :=
  ⟨rfl, rfl, rfl, by simp, fun k _ hk => heap_setCell_other w ⟨p, i, none⟩ k v (fun e => hk (by simp [e]))⟩
/-- a Reader is untouched by what comes behind it -/
theorem RBuf.behind {w w' : World} {p q : Nat} {l : List Nat} (h : RBuf w p l) (hb : Below q w w') (hq : p < q) : RBuf w' p l := by
  obtain ⟨B, A, c, h1, h2, h3, h4⟩ := h
  exact ⟨B, A, c, h1, h2.below hb hq, h3.below (hb.mono (by omega)), h4⟩

/-- what a take leaves -/
def Took (n p : Nat) (l : List Nat) (w : World) (e : Ending) (w' : World) : Prop :=
  ∃ A c B, e = .returned (.slice A n c) ∧ B ≤ p ∧ Reads w' B 1 A n (bv (l.take n)) ∧ RBuf w' p (l.drop n) ∧ w.grownBy w' (some p)

set_option maxRecDepth 100000 in
theorem take_any (p n : Nat) (l : List Nat) (w : World) (hn : n ≤ l.length) (hl : l.length ≤ 140737488355328) (h : RBuf w p l) :
    Calls Try.prog 67 #[.pointer (some ⟨p, 0, none⟩), .int .i64 n] w fun e w' => Took n p l w e w' := by
  obtain ⟨B, A, c, hB, hblk, hr, hlc⟩ := h
  have hdrop := hr.cut (k := n) hn hlc
  rw [Nat.mul_one] at hdrop
  have htake := hr.takeb hn
  have hc0 := hblk.cell 0
  have hc1 := hblk.cell 1
  have hf0 := hblk.frozen 0
  simp only [List.getElem?_toArray, List.getElem?_cons_zero, List.getElem?_cons_succ] at hc0 hc1
  have hd : (bv l).drop n = bv (l.drop n) := by simp [bv]
  rw [hd] at hdrop
  have hld : (l.drop n).length = l.length - n := by simp
  have H : Hid (∀ v, ∀ c', v = .slice (if c = n then A else A.map (·.add n)) (l.length - n) c' → l.length - n ≤ c' → Took n p l w (.returned (.slice A n c)) (w.setCell ⟨p, 0, none⟩ v)) := by
    intro v c' hv hc'
    subst hv
    refine ⟨A, c, B, rfl, hB, htake.setCell (p := ⟨p, 0, none⟩) hB _, ⟨B, (if c = n then A else A.map (·.add n)), c', hB, ?_, ?_, by rw [hld]; exact hc'⟩, grown_set w p 0 _⟩
    · rw [hld]
      exact hblk.set_ 0 _
    · rw [hld]
      exact hdrop.setCell (p := ⟨p, 0, none⟩) hB _
  generalize l.length = m at *
  clear hdrop htake hblk hr hd hld
  by_cases hcn : c = n
  · have hmn : m = n := by omega
    have H' : Hid (Took n p l w (.returned (.slice A n c)) (w.setCell ⟨p, 0, none⟩ (.slice A (m - n) 0))) := H.out _ 0 (by rw [if_pos hcn]) (by omega)
    subst hmn
    subst hcn
    rw [Nat.sub_self] at H'
    clear H
    go_enter Try.func67, Try.ntmps67
    go_wp2_with fail
    go_ret
    exact H'.out
  · have H' : Hid (Took n p l w (.returned (.slice A n c)) (w.setCell ⟨p, 0, none⟩ (.slice (A.map (·.add n)) (m - n) (c - n)))) := H.out _ (c - n) (by rw [if_neg hcn]) (by omega)
    clear H
    rcases A with _ | ad
    · go_enter Try.func67, Try.ntmps67
      go_wp2_with fail
      go_ret
      exact H'.out
    · go_enter Try.func67, Try.ntmps67
      go_wp2_with fail
      go_ret
      exact H'.out

/-- what a number of so many bytes leaves -/
def NumLeft (p width : Nat) (l : List Nat) (w w' : World) : Prop := RBuf w' p (l.drop width) ∧ w.grownBy w' (some p)

set_option maxRecDepth 100000 in
theorem number_any (p width : Nat) (l : List Nat) (w : World) (hwd : width ≤ 4) (hn : width ≤ l.length) (hl : l.length ≤ 140737488355328) (ha : AllB l) (h : RBuf w p l) :
    Calls Try.prog 64 #[.pointer (some ⟨p, 0, none⟩), .int .i64 width] w fun e w' => e = .returned (.int .u64 (nb (l.take width) : Nat)) ∧ NumLeft p width l w w' := by
  have HC := Lib.hid (take_any p width l w hn hl h)
  have HL := Lib.hid (nb_lt ha)
  have hlt : (l.take width).length = width := by simp; omega
  have HT := Lib.hid hlt
  have HA := Lib.hid (ha.take width)
  have HB := Lib.hid (nb_lt (ha.take width))
  clear hlt ha h hn
  go_enter Try.func64, Try.ntmps64
  go_wp2_with fail
  refine HC.out.mono ?_
  rintro e w1 ⟨A, c, B, rfl, hB, hr, hrb, hbl⟩
  have HE : Hid (NumLeft p width l w w1) := ⟨hrb, hbl⟩
  clear hrb hbl HC hl HL
  obtain ⟨m, hm⟩ : ∃ m, m = l.take width := ⟨_, rfl⟩
  rw [← hm] at hr HT HA HB
  have HM := Lib.hid hm
  clear hm
  go_wp2_with fail
  go_loop [5, 12] (fun t i => ∃ k : Nat, k ≤ width ∧ i = .int .i64 (k : Int) ∧ t = .int .u64 ((nb (m.take k) : Nat) : Int)) (fun _ i => width - (intOf i).toNat)
  case atStart => exact ⟨0, Nat.zero_le _, rfl, rfl⟩
  case round =>
    obtain ⟨k, hk, rfl, rfl⟩ := hrel
    have hlt := HB.out k (by rw [HT.out]; exact hk)
    have hp : 256 ^ k ≤ 256 ^ 4 := Nat.pow_le_pow_right (by omega) (by omega)
    have hsm : nb (m.take k) < 256 ^ 4 := by omega
    have hsm' : nb (m.take k) < 4294967296 := hsm
    clear hlt hp hsm
    by_cases hkw : k < width
    · obtain ⟨ad, hl0, rfl, hc⟩ := bytes_at hr hkw
      have hx := HA.out _ (List.getElem_mem hl0)
      have hnx : Hid (nb (m.take (k + 1)) = nb (m.take k) * 256 + m[k]) := nb_take m k hl0
      generalize m[k] = x at *
      generalize nb (m.take k) = y at *
      have hor : bits BinOp.or IntKind.u64 ((y : Int) * 256) (x : Int) = ((y * 256 + x : Nat) : Int) := by
        have := u64_or_nat (y * 256) x (by omega) (by omega)
        rw [nat_join 8 (y * 256) x (by omega) (by omega)] at this
        exact this
      go_wp2_with fail
      go_round
      case rel => exact ⟨k + 1, by omega, by go_num, by rw [hnx.out, Int.natCast_add, Int.natCast_mul]; rfl⟩
      case measure => simp [intOf]; omega
    · have hkk : k = width := by omega
      have hfin : Hid (m.take k = m) := by show _ = _; rw [hkk]; exact List.take_of_length_le (by rw [HT.out]; exact Nat.le_refl _)
      rw [hfin.out]
      clear hkk
      go_wp2_with fail
      go_ret
      exact ⟨by rw [← HM.out]; rfl, HE.out⟩

theorem nb2 (a b : Nat) : nb [a, b] = a * 256 + b := by simp [nb]
theorem u8r_any (p : Nat) (l : List Nat) (w : World) (hn : 1 ≤ l.length) (hl : l.length ≤ 140737488355328) (ha : AllB l) (h : RBuf w p l) :
    Calls Try.prog 54 #[.pointer (some ⟨p, 0, none⟩)] w fun e w' => e = .returned (.int .i64 (nb (l.take 1) : Nat)) ∧ NumLeft p 1 l w w' := by
  have HC := Lib.hid (number_any p 1 l w (by omega) hn hl ha h)
  have hb : nb (l.take 1) < 256 := nb_lt ha 1 hn
  clear h ha
  go_enter Try.func54, Try.ntmps54
  go_wp2_with fail
  refine HC.out.mono ?_
  rintro e w1 ⟨rfl, he⟩
  have HE := Lib.hid he
  clear he HC
  go_wp2_with fail
  go_ret
  exact ⟨rfl, HE.out⟩
theorem u16r_any (p : Nat) (l : List Nat) (w : World) (hn : 2 ≤ l.length) (hl : l.length ≤ 140737488355328) (ha : AllB l) (h : RBuf w p l) :
    Calls Try.prog 55 #[.pointer (some ⟨p, 0, none⟩)] w fun e w' => e = .returned (.int .i64 (nb (l.take 2) : Nat)) ∧ NumLeft p 2 l w w' := by
  have HC := Lib.hid (number_any p 2 l w (by omega) hn hl ha h)
  have hb : nb (l.take 2) < 65536 := nb_lt ha 2 hn
  clear h ha
  go_enter Try.func55, Try.ntmps55
  go_wp2_with fail
  refine HC.out.mono ?_
  rintro e w1 ⟨rfl, he⟩
  have HE := Lib.hid he
  clear he HC
  go_wp2_with fail
  go_ret
  exact ⟨rfl, HE.out⟩
theorem u32r_any (p : Nat) (l : List Nat) (w : World) (hn : 4 ≤ l.length) (hl : l.length ≤ 140737488355328) (ha : AllB l) (h : RBuf w p l) :
    Calls Try.prog 56 #[.pointer (some ⟨p, 0, none⟩)] w fun e w' => e = .returned (.int .u32 (nb (l.take 4) : Nat)) ∧ NumLeft p 4 l w w' := by
  have HC := Lib.hid (number_any p 4 l w (by omega) hn hl ha h)
  have hb : nb (l.take 4) < 4294967296 := nb_lt ha 4 hn
  clear h ha
  go_enter Try.func56, Try.ntmps56
  go_wp2_with fail
  refine HC.out.mono ?_
  rintro e w1 ⟨rfl, he⟩
  have HE := Lib.hid he
  clear he HC
  go_wp2_with fail
  go_ret
  exact ⟨rfl, HE.out⟩

theorem newreader_any (A : Option Addr) (n c B : Nat) (l : List Nat) (w : World) (hr : Reads w B 1 A n (bv l)) (hB : B ≤ w.heap.size) (hn : n ≤ 140737488355328) (hnil : A = none → c = 0) :
    Calls Try.prog 53 #[.slice A n c] w fun e w' => ∃ p, e = .returned (.pointer (some ⟨p, 0, none⟩)) ∧ w.heap.size ≤ p ∧ RBuf w' p l ∧ Below w.heap.size w w' := by
  have HC := Lib.hid (clone_any A n c B l w hr hB hn hnil)
  have HL := Lib.hid hr.length
  clear hr
  go_enter Try.func53, Try.ntmps53
  go_wp2_with fail
  refine HC.out.mono ?_
  rintro e w1 ⟨A1, c1, rfl, hown, hb⟩
  have HE : Hid (RBuf (w1.alloc (.cells #[.slice A1 n c1, .int .i64 0] 91)) w1.heap.size l) := by
    refine ⟨w1.heap.size, A1, c1, Nat.le_refl _, ?_, ?_, ?_⟩
    · rw [HL.out]; exact Blk.new _ _ _
    · rw [HL.out]; exact (Reads.of_own hown).alloc (Nat.le_refl _) _
    · rw [HL.out]
      rcases hown.2 with ⟨h, _⟩ | ⟨g, cap, cur, h, _, _, hc, _⟩
      · cases h; exact Nat.le_refl _
      · cases h; exact hc
  have hs := hb.size
  clear hown HC
  go_wp2_with fail
  go_ret
  exact ⟨_, rfl, hs, HE.out, hb.alloc hs _⟩
end Go.Proofs.Ytpgbldpppdmdoaa
