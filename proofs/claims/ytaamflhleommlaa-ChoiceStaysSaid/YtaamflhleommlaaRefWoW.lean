/- The walk of ref10.Without (wip/genrefwo.py). -/
import Derived.Test.YtaamflhleommlaaRefWo
import Derived.Deep.Cut
namespace Go.Proofs.Ytaamflhleommlaa
set_option linter.unusedVariables false
set_option linter.unusedSimpArgs false
open Go.RowKit

set_option maxHeartbeats 4000000 in
set_option maxRecDepth 100000 in
theorem refwo_any (A : Option Addr) (n c B : Nat) (l : List Be) (A2 : Option Addr) (n2 c2 : Nat) (out : List Int) (w : World) (hr : Reads w B 3 A n (bks l)) (hB : B ≤ w.heap.size) (hr2 : Reads w B 1 A2 n2 (iv out)) (hn : n ≤ 1000000) (hn2 : n2 ≤ 1000000) :
    Calls Try.prog 22 #[.slice A n c, .slice A2 n2 c2] w fun e w' => ∃ A' m c', e = .returned (.slice A' m c') ∧ m = (leftBe l out).length ∧ w'.ownsRow w.heap.size 27 3 (.slice A' m c') m (bks (leftBe l out)) ∧ Below w.heap.size w w' := by
  have hlen := hr.be_length
  have hlen2 : out.length = n2 := by have := hr2.1; rw [iv_length] at this; omega
  obtain ⟨i0, hi0, hz0, hz1, hz2⟩ := info_parts infoBe
  go_enter Try.func22, Try.ntmps22
  go_wp2_with fail
  go_loopw [5, 13] (fun r i wr => ∃ (k : Nat) (A' : Option Addr) (m c' : Nat), k ≤ n ∧ i = .int .i64 (k : Int) ∧ r = .slice A' m c' ∧ Hid (m = (leftBe (l.take k) out).length) ∧ m ≤ k ∧ wr.ownsRow w.heap.size 27 3 (.slice A' m c') m (bks (leftBe (l.take k) out)) ∧ Below w.heap.size w wr) (fun _ i _ => n - (intOf i).toNat)
  case atStart => exact ⟨0, none, 0, 0, by omega, rfl, rfl, rfl, by omega, World.ownsRow_nil _ _ _ _, Below.refl _ _⟩
  case round =>
    obtain ⟨k, A', m, c', hk, rfl, rfl, hm, hmk, hown, hbr⟩ := hrel
    by_cases hkn : k < n
    · obtain ⟨b, off, hl, rfl, hc0, hc1, hc2⟩ := (hr.below (hbr.mono hB)).be hkn
      have HT := Lib.hid (left_take (out := out) hl)
      obtain ⟨⟨x, ad, wt⟩, hbe⟩ : ∃ b : Be, b = l[k] := ⟨_, rfl⟩
      rw [← hbe] at HT hc0 hc1 hc2
      dsimp only at HT hc0 hc1 hc2
      clear hbe
      have hb2 := hbr.alloc hbr.size (.cells #[.int .i64 x, .int .u32 (ad : Int), .int .i64 wt] 27)
      have hx2 := Blk.new wr 27 #[.int .i64 x, .int .u32 (ad : Int), .int .i64 wt]
      have hown2 := hown.alloc (.cells #[.int .i64 x, .int .u32 (ad : Int), .int .i64 wt] 27)
      have HX := Lib.hid (And.intro hb2 (And.intro hx2 hown2))
      clear hb2 hx2 hown2 hown
      go_upto_region 5 with fail
      obtain ⟨q, hq⟩ : ∃ q, q = wr.heap.size := ⟨_, rfl⟩
      rw [← hq] at HX ⊢
      clear hc0 hc1 hc2
      generalize wr.alloc (.cells #[.int .i64 x, .int .u32 (ad : Int), .int .i64 wt] 27) = w2 at *
      clear hq hbr
      have g0 := HX.out.2.1.cell 0
      have g1 := HX.out.2.1.cell 1
      have g2 := HX.out.2.1.cell 2
      simp only [List.getElem?_toArray, List.getElem?_cons_zero, List.getElem?_cons_succ] at g0 g1 g2
      go_wp2_with fail
      go_loopw [8, 19] (fun f i wv => ∃ j : Nat, j ≤ n2 ∧ i = .int .i64 (j : Int) ∧ f = .bool (decide (x ∈ out.take j)) ∧ w2 = wv) (fun _ i _ => n2 - (intOf i).toNat)
      case atStart => exact ⟨0, by omega, rfl, by simp, rfl⟩
      case round =>
        obtain ⟨j, hj, rfl, rfl, rfl⟩ := hrel
        by_cases hjn : j < n2
        · obtain ⟨ad2, hl2, rfl, hcj⟩ := ints_at (hr2.below (HX.out.1.mono hB)) hjn
          have HI := Lib.hid (in_take (id := x) hl2)
          generalize out[j] = y at *
          generalize decide (x ∈ out.take j) = bj at *
          obtain ⟨z, hz⟩ : ∃ z, z = (y == x) := ⟨_, rfl⟩
          rw [← hz] at HI
          have hz' := hz.symm
          clear hz
          have HII : Hid (bj = true → (bj || z) = true) := fun h => by rw [h]; rfl
          cases bj with
          | true =>
            go_wp2_with fail
            go_roundw
            case rel => exact ⟨j + 1, by omega, by go_num, by rw [HI.out]; rfl, by trivial⟩
            case measure => simp [intOf]; omega
          | false =>
            go_wp2_with fail
            go_roundw
            case rel => exact ⟨j + 1, by omega, by go_num, by rw [HI.out]; rfl, by trivial⟩
            case measure => simp [intOf]; omega
        · have hjj : j = n2 := by omega
          have ht : out.take j = out := List.take_of_length_le (by omega)
          rw [ht]
          clear ht
          by_cases hin : x ∈ out
          · have hd : decide (x ∈ out) = true := decide_eq_true hin
            have HT2 := HT.out
            rw [if_pos hin] at HT2
            have HTT := Lib.hid HT2
            rw [hd]
            clear hin hd HT HT2
            go_wp2_with fail
            go_roundw
            case rel => exact ⟨k + 1, A', m, c', by omega, by go_num, rfl, by show _ = _; rw [HTT.out]; exact hm.out, by omega, by rw [HTT.out]; exact HX.out.2.2, HX.out.1⟩
            case measure => simp [intOf]; omega
          · have hd : decide (x ∈ out) = false := decide_eq_false hin
            have HT2 := HT.out
            rw [if_neg hin] at HT2
            have HTT := Lib.hid HT2
            rw [hd]
            clear hin hd HT HT2
            go_wp2_with (at_builtin; refine stop_ ?_)
            refine on_ ?_
            refine wpList_append_want _ rfl (.tmp 33) (.tmp 35) _ rfl w.heap.size 27 i0 _ 3 24 Try.underlying23 hi0 hz0 hz1 hz2 rfl (by omega) (.slice A' m c') m (bks (leftBe (l.take k) out)) rfl
              (HX.out.2.2.alloc _) (w2.heap.size + 1) (some ⟨w2.heap.size, 0, none⟩) 1 1 (bks [⟨x, ad, wt⟩]) rfl ?news (bks_one _) (by unfold maxLen; omega) (by omega) (by have := HX.out.1.size; simp; omega) ?_
            case news =>
              rw [bks_single]
              have hnew : (w2.alloc (.cells #[.int .i64 x, .int .u32 (ad : Int), .int .i64 wt] 27)).ownsRow w.heap.size 27 3 (.slice (some ⟨w2.heap.size, 0, none⟩) 1 1) 1 [.int .i64 x, .int .u32 (ad : Int), .int .i64 wt] :=
                ⟨by simp, .inr ⟨w2.heap.size, _, #[.int .i64 x, .int .u32 (ad : Int), .int .i64 wt], rfl, HX.out.1.size, Blk.new_ rfl, Nat.le_refl _, by decide, by simp, by simp⟩⟩
              have hrn := Reads.of_own hnew
              simpa using hrn
            intro v' w3 hown3 hgr hor
            obtain ⟨A1, c1, rfl⟩ := own_slice hown3
            rw [← bks_append, ← HTT.out] at hown3
            have hB3 := (HX.out.1.alloc HX.out.1.size (.cells #[.int .i64 x, .int .u32 (ad : Int), .int .i64 wt] 27)).grown hgr (by have := HX.out.1.size; simp; omega) (fun k hk => (HX.out.2.2.lt k hk).1)
            go_wp2_with fail
            go_roundw
            case rel => exact ⟨k + 1, A1, m + 1, c1, by omega, by go_num, rfl, by show _ = _; rw [HTT.out, List.length_append, ← hm.out]; rfl, by omega, hown3, hB3⟩
            case measure => simp [intOf]; omega
    · have hkk : k = n := by omega
      have ht : l.take k = l := List.take_of_length_le (by omega)
      rw [ht] at hm hown
      go_wp2_with fail
      go_ret
      exact ⟨A', m, c', rfl, hm.out, hown, hbr⟩
end Go.Proofs.Ytaamflhleommlaa
