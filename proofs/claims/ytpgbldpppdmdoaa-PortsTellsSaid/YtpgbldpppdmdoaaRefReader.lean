/- The walks of goitref1's Reader: U32. -/
import Derived.Test.YtpgbldpppdmdoaaRefU
import Derived.Test.YtpgbldpppdmdoaaIpParseOk
import Derived.Test.YtpgbldpppdmdoaaIpAwake
namespace Go.Proofs.Ytpgbldpppdmdoaa
set_option linter.unusedVariables false
set_option linter.unusedSimpArgs false
open Go.RowKit

/-- a reference's Reader that has these bytes left -/
def RR (w : World) (p : Nat) (l : List Nat) : Prop := ∃ B A c, B ≤ p ∧ Blk w p 75 #[.slice A l.length c, .int .i64 0] ∧ Reads w B 1 A l.length (bv l) ∧ l.length ≤ c
theorem RR.lt {w : World} {p : Nat} {l : List Nat} (h : RR w p l) : p < w.heap.size := by
  obtain ⟨B, A, c, h1, h2, h3, h4⟩ := h
  exact h2.lt
theorem RR.below {w w' : World} {p : Nat} {l : List Nat} (h : RR w p l) (hb : Below w.heap.size w w') : RR w' p l := by
  obtain ⟨B, A, c, h1, h2, h3, h4⟩ := h
  have := h2.lt
  exact ⟨B, A, c, h1, h2.below hb h2.lt, h3.below (hb.mono (by omega)), h4⟩
theorem RR.drew {w : World} {p : Nat} {l : List Nat} (h : RR w p l) : RR w.drew p l := h

def RawRet (n p : Nat) (l : List Nat) (w : World) (e : Ending) (w' : World) : Prop :=
  ∃ A c, e = .returned (.slice A n c) ∧ w'.ownsRow w.heap.size 5 1 (.slice A n c) n (bv (l.take n)) ∧ RR w' p (l.drop n) ∧ Below p w w'

set_option maxHeartbeats 1000000 in
set_option maxRecDepth 100000 in
theorem raw_any (p n : Nat) (l : List Nat) (w : World) (hn : n ≤ l.length) (hl : l.length ≤ 140737488355328) (h : RR w p l) :
    Calls Try.prog 65 #[.pointer (some ⟨p, 0, none⟩), .int .i64 n] w fun e w' => RawRet n p l w e w' := by
  obtain ⟨B, A, c, hB, hblk, hr, hlc⟩ := h
  have hplt := hblk.lt
  have hdrop := hr.cut (k := n) hn hlc
  rw [Nat.mul_one] at hdrop
  have htake := Lib.hid (hr.takeb hn)
  have hc0 := hblk.cell 0
  have hc1 := hblk.cell 1
  simp only [List.getElem?_toArray, List.getElem?_cons_zero, List.getElem?_cons_succ] at hc0 hc1
  have hd : (bv l).drop n = bv (l.drop n) := by simp [bv]
  rw [hd] at hdrop
  have hld : (l.drop n).length = l.length - n := by simp
  have H : Hid (∀ w1 A1 c1 v c', w1.ownsRow w.heap.size 5 1 (.slice A1 n c1) n (bv (l.take n)) → Below w.heap.size w w1 → v = .slice (if c = n then A else A.map (·.add n)) (l.length - n) c' → l.length - n ≤ c' → RawRet n p l w (.returned (.slice A1 n c1)) (w1.setCell ⟨p, 0, none⟩ v)) := by
    intro w1 A1 c1 v c' ho hb hv hc'
    subst hv
    have hblk1 := hblk.below hb hplt
    refine ⟨A1, c1, rfl, own_set_far ho hblk1 (by decide) 0 _, ⟨B, (if c = n then A else A.map (·.add n)), c', hB, ?_, ?_, by rw [hld]; exact hc'⟩, (hb.mono (show p ≤ w.heap.size from Nat.le_of_lt hplt)).setCell (p := ⟨p, 0, none⟩) (Nat.le_refl p) _⟩
    · rw [hld]
      exact hblk1.set_ 0 _
    · rw [hld]
      exact (hdrop.below (hb.mono (by omega))).setCell (p := ⟨p, 0, none⟩) hB _
  have HK := Lib.hid (fun w1 (hb : Below w.heap.size w w1) => hblk.below hb hplt)
  have hBl : B ≤ w.heap.size := by omega
  generalize l.length = m at *
  clear hdrop hblk hr hd hld
  by_cases hcn : c = n
  · have hmn : m = n := by omega
    have H' : Hid (∀ w1 A1 c1, w1.ownsRow w.heap.size 5 1 (.slice A1 n c1) n (bv (l.take n)) → Below w.heap.size w w1 → RawRet n p l w (.returned (.slice A1 n c1)) (w1.setCell ⟨p, 0, none⟩ (.slice A (m - n) 0))) := fun w1 A1 c1 ho hb => H.out w1 A1 c1 _ 0 ho hb (by rw [if_pos hcn]) (by omega)
    subst hmn
    subst hcn
    rw [Nat.sub_self] at H'
    clear H
    go_enter Try.func65, Try.ntmps65
    go_wp2_with (at_builtin; refine stop_ ?_)
    refine on_ ?_
    refine wpList_append_b rfl (.const (.slice none 0 0)) (.tmp 33) _ rfl 5 infoB Try.underlying25 w.heap.size (.slice none 0 0) 0 [] rfl (World.ownsRow_nil _ _ _ _) w.heap.size A c c (l.take c) rfl (htake.out.more hBl) c (by omega) (by omega) (by simp) ?_
    intro A1 c1 w1 hown1 hb1 _ _
    rw [List.nil_append] at hown1
    have HF := Lib.hid (H'.out w1 A1 c1 hown1 hb1)
    have hk := HK.out w1 hb1
    have h0 := hk.cell 0
    have h1 := hk.cell 1
    have f0 := hk.frozen 0
    simp only [List.getElem?_toArray, List.getElem?_cons_zero, List.getElem?_cons_succ] at h0 h1
    clear hown1 hb1 hk hc0 hc1 H'
    go_wp2_with fail
    go_ret
    exact HF.out
  · have H' : Hid (∀ w1 A1 c1, w1.ownsRow w.heap.size 5 1 (.slice A1 n c1) n (bv (l.take n)) → Below w.heap.size w w1 → RawRet n p l w (.returned (.slice A1 n c1)) (w1.setCell ⟨p, 0, none⟩ (.slice (A.map (·.add n)) (m - n) (c - n)))) := fun w1 A1 c1 ho hb => H.out w1 A1 c1 _ (c - n) ho hb (by rw [if_neg hcn]) (by omega)
    clear H
    rcases A with _ | ad
    all_goals
      go_enter Try.func65, Try.ntmps65
      go_wp2_with (at_builtin; refine stop_ ?_)
      refine on_ ?_
      refine wpList_append_b rfl (.const (.slice none 0 0)) (.tmp 33) _ rfl 5 infoB Try.underlying25 w.heap.size (.slice none 0 0) 0 [] rfl (World.ownsRow_nil _ _ _ _) w.heap.size _ n c (l.take n) rfl (htake.out.more hBl) n (by omega) (by omega) (by simp) ?_
      intro A1 c1 w1 hown1 hb1 _ _
      rw [List.nil_append] at hown1
      have HF := Lib.hid (H'.out w1 A1 c1 hown1 hb1)
      have hk := HK.out w1 hb1
      have h0 := hk.cell 0
      have h1 := hk.cell 1
      have f0 := hk.frozen 0
      simp only [List.getElem?_toArray, List.getElem?_cons_zero, List.getElem?_cons_succ] at h0 h1
      clear hown1 hb1 hk hc0 hc1 H'
      go_wp2_with fail
      go_ret
      exact HF.out

set_option maxRecDepth 100000 in
theorem num_any (p width : Nat) (l : List Nat) (w : World) (hwd : width ≤ 4) (hn : width ≤ l.length) (hl : l.length ≤ 140737488355328) (ha : AllB l) (h : RR w p l) :
    Calls Try.prog 57 #[.pointer (some ⟨p, 0, none⟩), .int .i64 width] w fun e w' => e = .returned (.int .u64 (nb (l.take width) : Nat)) ∧ RR w' p (l.drop width) ∧ Below p w w' := by
  have HC := Lib.hid (raw_any p width l w hn hl h)
  have hlt : (l.take width).length = width := by simp; omega
  have HT := Lib.hid hlt
  have HA := Lib.hid (ha.take width)
  have HB := Lib.hid (nb_lt (ha.take width))
  clear hlt ha h hn
  go_enter Try.func57, Try.ntmps57
  go_wp2_with fail
  refine HC.out.mono ?_
  rintro e w1 ⟨A, c, rfl, hown, hrb, hbl⟩
  have HE := Lib.hid (And.intro hrb hbl)
  have hr := Reads.of_own hown
  clear hrb hbl HC hl hown
  obtain ⟨m, hm⟩ : ∃ m, m = l.take width := ⟨_, rfl⟩
  rw [← hm] at hr HT HA HB
  have HM := Lib.hid hm
  clear hm
  go_wp2_with fail
  go_loop [5, 12] (fun t i => ∃ k : Nat, k ≤ width ∧ i = .int .i64 (k : Int) ∧ t = .int .u64 ((nb (m.take k) : Nat) : Int)) (fun _ i => width - (intOf i).toNat)
  case atStart => exact ⟨0, Nat.zero_le _, rfl, rfl⟩
  case round =>
    obtain ⟨k, hk, rfl, rfl⟩ := hrel
    have hlt := HB.out k (by rw [HT.out]; exact hk)
    have hp : 256 ^ k ≤ 256 ^ 4 := Nat.pow_le_pow_right (by omega) (by omega)
    have hsm : nb (m.take k) < 256 ^ 4 := by omega
    have hsm' : nb (m.take k) < 4294967296 := hsm
    clear hlt hp hsm
    by_cases hkw : k < width
    · obtain ⟨ad, hl0, rfl, hc⟩ := bytes_at hr hkw
      have hx := HA.out _ (List.getElem_mem hl0)
      have hnx : Hid (nb (m.take (k + 1)) = nb (m.take k) * 256 + m[k]) := nb_take m k hl0
      generalize m[k] = x at *
      generalize nb (m.take k) = y at *
      have hor : bits BinOp.or IntKind.u64 ((y : Int) * 256) (x : Int) = ((y * 256 + x : Nat) : Int) := by
        have := u64_or_nat (y * 256) x (by omega) (by omega)
        rw [nat_join 8 (y * 256) x (by omega) (by omega)] at this
        exact this
      go_wp2_with fail
      go_round
      case rel => exact ⟨k + 1, by omega, by go_num, by rw [hnx.out, Int.natCast_add, Int.natCast_mul]; rfl⟩
      case measure => simp [intOf]; omega
    · have hkk : k = width := by omega
      have hfin : Hid (m.take k = m) := by show _ = _; rw [hkk]; exact List.take_of_length_le (by rw [HT.out]; exact Nat.le_refl _)
      rw [hfin.out]
      clear hkk
      go_wp2_with fail
      go_ret
      exact ⟨by rw [← HM.out]; rfl, HE.out⟩

theorem u32rr_any (p : Nat) (l : List Nat) (w : World) (hn : 4 ≤ l.length) (hl : l.length ≤ 140737488355328) (ha : AllB l) (h : RR w p l) :
    Calls Try.prog 43 #[.pointer (some ⟨p, 0, none⟩)] w fun e w' => e = .returned (.int .u32 (nb (l.take 4) : Nat)) ∧ RR w' p (l.drop 4) ∧ Below p w w' := by
  have HC := Lib.hid (num_any p 4 l w (by omega) hn hl ha h)
  have hb : nb (l.take 4) < 4294967296 := nb_lt ha 4 hn
  clear h ha
  go_enter Try.func43, Try.ntmps43
  go_wp2_with fail
  refine HC.out.mono ?_
  rintro e w1 ⟨rfl, he⟩
  have HE := Lib.hid he
  clear he HC
  go_wp2_with fail
  go_ret
  exact ⟨rfl, HE.out⟩
end Go.Proofs.Ytpgbldpppdmdoaa
