/- The walk of SumTells. -/
import Derived.Test.YtbimdogiollgkaaSumAwake
import Derived.Test.YtbimdogiollgkaaCrcPlain
import Derived.Test.YtbimdogiollgkaaOpen
import Derived.BigQuiet
import Derived.BigRegion
namespace Go.Proofs.Ytbimdogiollgkaa.sumTells
set_option linter.unusedVariables false
open Go.RowKit

theorem info5 : (Try.prog.info? 5).map (fun i => (i.zero, i.size, i.bytes)) = some (some (.int .u8 0), 1, 1) := by kernel_rfl

theorem near_set {l m : List Nat} {a k v : Nat} (h : Near l m a) (hk : k < 4) (hv : v < 256) : Near l (m.set (a + k) v) a := by
  refine ⟨by simpa using h.len, ?_, ?_⟩
  · intro z hz
    rcases List.mem_or_eq_of_mem_set hz with hz | rfl
    · exact h.all z hz
    · exact hv
  · intro j hj
    rw [List.getElem?_set_ne (by omega)]
    exact h.same j hj

theorem box_cell {w : World} {g : Nat} {t : TypeId} {b0 b1 b2 b3 k : Nat} (h : Blk w g t #[.int .u8 b0, .int .u8 b1, .int .u8 b2, .int .u8 b3]) (hk : k < 4) (h0 : b0 < 256) (h1 : b1 < 256) (h2 : b2 < 256) (h3 : b3 < 256) :
    ∃ y : Nat, y < 256 ∧ w.cell? ⟨g, k, none⟩ = some (.int .u8 (y : Int)) := by
  have hc := h.cell k
  rcases k with _ | _ | _ | _ | k
  · exact ⟨b0, h0, hc⟩
  · exact ⟨b1, h1, hc⟩
  · exact ⟨b2, h2, hc⟩
  · exact ⟨b3, h3, hc⟩
  · omega

set_option maxRecDepth 100000 in
theorem lawWalk (A : Option Addr) (n c : Nat) (l : List Nat) (at_ : Int) (b0 b1 b2 b3 : Nat) (w : World) (hb : BytesIn w A n c l) (hat : -9223372036854775808 ≤ at_ ∧ at_ ≤ 9223372036854775807) (h0 : b0 < 256) (h1 : b1 < 256) (h2 : b2 < 256) (h3 : b3 < 256) :
    Calls Try.prog 4 #[.slice A n c, .int .i64 at_, .agg #[.int .u8 b0, .int .u8 b1, .int .u8 b2, .int .u8 b3]] w fun e w' => e = .returned (.bool true) ∧ Below w.heap.size w w' := by
  have hr := hb.reads
  have ha := hb.all
  have hle := hb.le
  have hre := hb.reach
  have hlen := hr.length
  clear hb
  by_cases hn0 : n = 0
  · subst hn0
    have hl : l = [] := List.eq_nil_of_length_eq_zero hlen
    subst hl
    have hc := crc_any (w.alloc (.cells #[.int .u8 b0, .int .u8 b1, .int .u8 b2, .int .u8 b3] 31)) _ A 0 c [] (hr.alloc (Nat.le_refl _) _) (by omega) ha
    rw [show crcN [] = 0 from by decide +kernel] at hc
    have HC := Lib.hid hc
    clear hc hlen
    go_enter Try.func4, Try.ntmps4
    go_wp2_with fail
    refine HC.out.mono ?_
    rintro e w' ⟨rfl, rfl⟩
    go_wp2_with (go_at_call 13; refine (awake_any _).mono ?_; rintro e w' ⟨rfl, hb2⟩)
    go_ret
    exact ⟨rfl, ((Below.refl _ _).alloc (Nat.le_refl _) _).trans (hb2.mono (by simp))⟩
  · have hn1 : 0 < n := by omega
    obtain ⟨a, ha1, hae⟩ := idx_rem at_ n hn1
    go_enter Try.func4, Try.ntmps4
    go_wp2_with (at_builtin; refine stop_ ?_)
    refine on_ ?_
    refine wpList_append_b rfl (.tmp 18) (.tmp 19) _ rfl 5 info5 Try.underlying22 (w.heap.size + 1) (.slice (some ⟨w.heap.size + 1, 0, none⟩) 0 0) 0 [] rfl
      (lit_own (cs := #[]) (Blk.new_ (by simp)) (by simp) (by decide) rfl rfl) w.heap.size A n c l rfl (((hr.alloc (Nat.le_refl _) _)).alloc (by simp) _) n (by omega) (by omega) (by simp) ?_
    intro A1 c1 w1 hown hbw _ _
    have hbox : Blk w1 w.heap.size 31 #[.int .u8 b0, .int .u8 b1, .int .u8 b2, .int .u8 b3] := Blk.below ((Blk.new w _ _).alloc _) hbw (by omega)
    have hbb : Below w.heap.size w w1 := (((Below.refl _ _).alloc (Nat.le_refl _) _).alloc (by simp) _).trans (hbw.mono (by omega))
    obtain ⟨g, rfl, hg, hg1⟩ := own_head hown (by omega)
    rw [List.nil_append] at hown
    clear hbw hg1
    go_wp2_with fail
    go_loopw [8] (fun i wr => ∃ (k : Nat) (m : List Nat), k ≤ 4 ∧ i = .int .i64 (k : Int) ∧ wr.ownsRow (w.heap.size + 1) 5 1 (.slice (some ⟨g, 0, none⟩) n c1) n (bv m) ∧ Near l m a ∧ Below w.heap.size w wr ∧ Blk wr w.heap.size 31 #[.int .u8 b0, .int .u8 b1, .int .u8 b2, .int .u8 b3]) (fun i _ => 4 - (intOf i).toNat)
    case atStart => exact ⟨0, l, by omega, rfl, hown, ⟨rfl, ha, fun _ _ => rfl⟩, hbb, hbox⟩
    case round =>
      obtain ⟨k, m, hk, rfl, hownr, hnear, hbr, hboxr⟩ := hrel
      clear hown hbb hbox
      have hml := hnear.len
      by_cases hgo : k < 4 ∧ a + k < n
      · obtain ⟨hk4, hak⟩ := hgo
        obtain ⟨y, hy, hcy⟩ := box_cell hboxr hk4 h0 h1 h2 h3
        have hmk : a + k < m.length := by omega
        have hcx := ownb_cell hownr (a + k) hak hmk
        have hfx := hownr.frozenAt (a + k)
        have hx := hnear.all _ (List.getElem_mem hmk)
        generalize m[a + k] = x at hcx hx
        have hxor : bits BinOp.xor IntKind.u8 (x : Int) (y : Int) = ((x ^^^ y : Nat) : Int) := u8_xor_nat x y hx hy
        have hv : x ^^^ y < 256 := Nat.xor_lt_two_pow (n := 8) hx hy
        generalize x ^^^ y = v at hxor hv
        clear hml hmk
        go_wp2
        go_region
        go_wp2
        go_roundw
        case rel =>
          refine ⟨k + 1, m.set (a + k) v, by omega, by go_num, ?_, near_set hnear hk4 hv, ?_, ?_⟩
          · exact ownb_store hownr (a + k) v
          · exact (hbr.setCell (p := ⟨g, a + k, none⟩) (by show w.heap.size ≤ g; omega) _).drew
          · exact (hboxr.far (p := ⟨g, a + k, none⟩) (by show w.heap.size ≠ g; omega) _).drew
        case measure => simp [intOf]; omega
      · have hrm := Reads.of_own hownr
        have hma := hnear.all
        have q1 := Lib.hid (fun (w' : World) (hq : Below wr.heap.size wr w') => below_same hq (crc_any w' _ A n c l ((hr.below hbr).below (hq.mono hbr.size)) (by omega) ha))
        have q2 := Lib.hid (fun (w' : World) (hq : Below wr.heap.size wr w') => below_same hq (crc_any w' _ _ n c1 m (hrm.below hq) (by omega) hma))
        have q3 := Lib.hid (fun (w' : World) (hq : Below wr.heap.size wr w') => below_made hq (awake_any w'))
        have r1 : Hid (∀ w', Below wr.heap.size wr w' → ∃ B, Reads w' B 1 A n (bv l)) := fun w' hq => ⟨_, (hr.below hbr).below (hq.mono hbr.size)⟩
        have r2 : Hid (∀ w', Below wr.heap.size wr w' → ∃ B, Reads w' B 1 (some ⟨g, 0, none⟩) n (bv m)) := fun w' hq => ⟨_, hrm.below hq⟩
        have hbool : ∃ β : Bool, (((crcN l : Nat) : Int) == ((crcN m : Nat) : Int)) = β ∧ ((strB l).toList == (strB m).toList) = β := by
          refine ⟨decide (l = m), ?_, strB_eq ha hma⟩
          have := crc_tells ha hnear
          by_cases e : l = m
          · subst e; simp
          · have hne : crcN l ≠ crcN m := fun h => e (this.1 h)
            simp [e]
            omega
        obtain ⟨β, e1, e2⟩ := hbool
        generalize crcN l = x at *
        generalize crcN m = y at *
        clear hownr hnear hrm hml hlen
        have hway : (k = 4 ∨ k < 4 ∧ n ≤ a + k) := by omega
        rcases hway with rfl | ⟨hk4, hka⟩
        all_goals
          go_wp2
          refine wp_region_below (by kernel_rfl) (by kernel_rfl) ?_
          repeat (go_big_quiet_step ((first | with_reducible exact fun _ => rfl | with_reducible exact q1.out _ | with_reducible exact q2.out _ | with_reducible exact q3.out _)))
          go_big_quiet_want
          refine quiet_string (.tmp 56) _ _ _ rfl Try.underlying22 Try.underlying5 Try.underlying9 A n c l rfl r1.out ha ?_
          go_simp
          go_big_quiet_on
          repeat (go_big_quiet_step ((first | with_reducible exact fun _ => rfl | with_reducible exact q1.out _ | with_reducible exact q2.out _ | with_reducible exact q3.out _)))
          go_big_quiet_want
          refine quiet_string (.tmp 58) _ _ _ rfl Try.underlying22 Try.underlying5 Try.underlying9 _ n c1 m rfl r2.out hma ?_
          go_simp
          go_big_quiet_on
          repeat (go_big_quiet_step ((first | with_reducible exact fun _ => rfl | with_reducible exact q1.out _ | with_reducible exact q2.out _ | with_reducible exact q3.out _)))
          refine wpQuiet_nil ?_
          intro w9 hb9
          go_wp2
          go_ret
          exact ⟨rfl, hbr.trans (hb9.mono hbr.size)⟩
end Go.Proofs.Ytbimdogiollgkaa.sumTells
