/- The walks of 'folded', 'Fold', 'Part', 'Net', 'Fix' of the program: what they compute, as the plain functions of SumPlain. -/
import Derived.Test.YtpgbldpppdmdoaaBits
namespace Go.Proofs.Ytpgbldpppdmdoaa
set_option linter.unusedVariables false
set_option linter.unusedSimpArgs false
open Go.RowKit

set_option maxHeartbeats 400000 in
theorem folded_any (s : Nat) (hs : s < 4294967296) (w : World) :
    Calls Try.prog 52 #[.int .u32 s] w fun e w' => e = .returned (.int .u32 (fo s)) ∧ w = w' := by
  go_enter Try.func52, Try.ntmps52
  go_wp2
  go_loop [0] (fun t => ∃ k : Nat, k < 4294967296 ∧ Hid (fo k = fo s) ∧ t = .int .u32 k) (fun t => (intOf t).toNat)
  case atStart => exact ⟨s, hs, rfl, rfl⟩
  case round =>
    obtain ⟨k, hk, hf, rfl⟩ := hrel
    by_cases h : 65535 < k
    · have hb : bits BinOp.and IntKind.u32 (k : Int) 65535 = ((k % 65536 : Nat) : Int) := by
        have := u32_and_nat k 65535 hk (by omega)
        rw [nat_mask16] at this
        exact this
      have hr : (((k : Int) / 65536 + ((k % 65536 : Nat) : Int)) % 4294967296) = ((k / 65536 + k % 65536 : Nat) : Int) := by omega
      have HB := Lib.hid hb
      have HR := Lib.hid hr
      clear hb hr
      go_wp2
      go_round
      case rel => exact ⟨k / 65536 + k % 65536, by omega, by rw [← hf.out]; exact fo_step h, by rw [HB.out, HR.out]⟩
      case measure => rw [HB.out, HR.out]; simp only [intOf]; omega
    · go_wp2
      go_ret
      exact ⟨ret_int (by rw [← hf.out, fo_small (by omega)]), rfl⟩

/-- a call of folded at whatever number stands there -/
theorem folded_at (z : Int) (h0 : 0 ≤ z) (h1 : z < 4294967296) (w : World) :
    Calls Try.prog 52 #[.int .u32 z] w fun e w' => e = .returned (.int .u32 (fo z.toNat)) ∧ w = w' := by
  obtain ⟨n, rfl⟩ := Int.eq_ofNat_of_zero_le h0
  exact folded_any n (by omega) w

theorem fold_any (s : Nat) (hs : s < 4294967296) (w : World) :
    Calls Try.prog 39 #[.int .u32 s] w fun e w' => e = .returned (.int .u16 (foldN s)) ∧ w = w' := by
  have hl := fo_le s
  go_enter Try.func39, Try.ntmps39
  go_wp2_with (go_at_call 52; refine (folded_any s hs _).mono ?_; rintro e w' ⟨rfl, rfl⟩)
  go_ret
  exact ⟨ret_int (not_u16 _ hl), rfl⟩

theorem part_any (s : Nat) (hs : s < 4294967296) (w : World) (B : Nat) (A : Option Addr) (n c : Nat) (l : List Nat) (h : Reads w B 1 A n (bv l)) (hn : n ≤ 281474976710656) (hb : AllB l) :
    Calls Try.prog 40 #[.int .u32 s, .slice A n c] w fun e w' => e = .returned (.int .u32 (partN s l)) ∧ w = w' := by
  have hln : l.length = n := by have := h.1; rw [bv_length] at this; omega
  have hfs := fo_le s
  go_enter Try.func40, Try.ntmps40
  go_wp2_with (go_at_call 52; refine (folded_any s hs _).mono ?_; rintro e w' ⟨rfl, rfl⟩)
  go_loop [0, 5] (fun t i => ∃ k : Nat, 2 * k ≤ n + 1 ∧ i = .int .i64 (2 * (k : Int)) ∧ t = .int .u32 (partN s (l.take (2 * k)))) (fun _ i => n + 1 - (intOf i).toNat)
  case atStart => exact ⟨0, by omega, rfl, by simp [partN, wsum]⟩
  case round =>
    obtain ⟨k, hk, rfl, rfl⟩ := hrel
    have hp := partN_le s (l.take (2 * k))
    generalize hP : partN s (l.take (2 * k)) = p at hp
    have HP := Lib.hid hP
    clear hP
    by_cases hlt : 2 * k < n
    · obtain ⟨ad, hl0, rfl, hc0⟩ := bytes_at h hlt
      have hx := hb _ (List.getElem_mem hl0)
      generalize hX : l[2 * k] = x at hc0 hx
      have HX := Lib.hid hX
      clear hX
      by_cases hlt1 : 2 * k + 1 < n
      · obtain ⟨_, hl1, e, hc1⟩ := bytes_at h hlt1
        cases e
        have hy := hb _ (List.getElem_mem hl1)
        rw [add_succ] at hc1
        generalize hY : l[2 * k + 1] = y at hc1 hy
        have HY := Lib.hid hY
        clear hY h
        have HF : Hid (fo (p + (x * 256 + y)) = partN s (l.take (2 * (k + 1)))) := by
          show _ = _
          rw [partN, wsum_take_two l k (by omega), HX.out, HY.out, ← HP.out, partN, fo_add, Nat.add_assoc]
        have hor : bits BinOp.or IntKind.u32 ((x : Int) * 256) (y : Int) = ((x * 256 + y : Nat) : Int) := by
          have := u32_or_nat (x * 256) y (by omega) (by omega)
          rw [nat_join 8 (x * 256) y (by omega) (by omega)] at this
          exact this
        go_wp2_with (go_at_call 52; refine (folded_at _ (by omega) (by omega) _).mono ?_; rintro e w' ⟨rfl, rfl⟩)
        go_round
        case rel => exact ⟨k + 1, by omega, by go_num, by rw [← HF.out]; congr 3⟩
        case measure => simp [intOf]; omega
      · have HF : Hid (fo (p + x * 256) = partN s (l.take (2 * (k + 1)))) := by
          show _ = _
          rw [partN, List.take_of_length_le (by omega), wsum_take_last l k (by omega), HX.out, ← HP.out, partN, fo_add, Nat.add_assoc]
        clear h
        go_wp2_with (go_at_call 52; refine (folded_at _ (by omega) (by omega) _).mono ?_; rintro e w' ⟨rfl, rfl⟩)
        go_round
        case rel => exact ⟨k + 1, by omega, by go_num, by rw [← HF.out]; congr 3⟩
        case measure => simp [intOf]; omega
    · have HF : Hid (p = partN s l) := by
        show _ = _
        rw [← HP.out, List.take_of_length_le (by omega)]
      go_wp2
      go_ret
      exact ⟨ret_int (by rw [HF.out]), rfl⟩

/-- a call of Part at whatever number stands there -/
theorem part_at (z : Int) (h0 : 0 ≤ z) (h1 : z < 4294967296) (w : World) (B : Nat) (A : Option Addr) (n c : Nat) (l : List Nat) (h : Reads w B 1 A n (bv l)) (hn : n ≤ 281474976710656) (hb : AllB l) :
    Calls Try.prog 40 #[.int .u32 z, .slice A n c] w fun e w' => e = .returned (.int .u32 (partN z.toNat l)) ∧ w = w' := by
  obtain ⟨s, rfl⟩ := Int.eq_ofNat_of_zero_le h0
  exact part_any s (by omega) w B A n c l h hn hb

theorem fold_at (z : Int) (h0 : 0 ≤ z) (h1 : z < 4294967296) (w : World) :
    Calls Try.prog 39 #[.int .u32 z] w fun e w' => e = .returned (.int .u16 (foldN z.toNat)) ∧ w = w' := by
  obtain ⟨s, rfl⟩ := Int.eq_ofNat_of_zero_le h0
  exact fold_any s (by omega) w

theorem net_any (w : World) (B : Nat) (A : Option Addr) (n c : Nat) (l : List Nat) (h : Reads w B 1 A n (bv l)) (hn : n ≤ 281474976710656) (hb : AllB l) :
    Calls Try.prog 15 #[.slice A n c] w fun e w' => e = .returned (.int .u16 (netN l)) ∧ w = w' := by
  have hp := partN_le 0 l
  have HF := Lib.hid (net_of l)
  go_enter Try.func15, Try.ntmps15
  go_wp2_with (first | (go_at_call 40; refine (part_any 0 (by omega) _ B A n c l h hn hb).mono ?_; rintro e w' ⟨rfl, rfl⟩) | (go_at_call 39; refine (fold_any _ (by omega) _).mono ?_; rintro e w' ⟨rfl, rfl⟩))
  go_ret
  exact ⟨ret_int (by rw [HF.out]), rfl⟩

theorem fix_any (x old now : Nat) (hx : x < 65536) (ho : old < 65536) (hn : now < 65536) (w : World) :
    Calls Try.prog 63 #[.int .u16 x, .int .u16 old, .int .u16 now] w fun e w' => e = .returned (.int .u16 (fixN x old now)) ∧ w = w' := by
  have h1 := not_u16 x (by omega)
  have h2 := not_u16 old (by omega)
  go_enter Try.func63, Try.ntmps63
  go_wp2_with (go_at_call 39; refine (fold_at _ (by omega) (by omega) _).mono ?_; rintro e w' ⟨rfl, rfl⟩)
  go_ret
  exact ⟨ret_int (by unfold fixN foldN; congr 3; omega), rfl⟩
end Go.Proofs.Ytpgbldpppdmdoaa
