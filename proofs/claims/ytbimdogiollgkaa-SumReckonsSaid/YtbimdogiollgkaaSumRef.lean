/- The walks of the reference's sums: the same plain functions (by wip/genref.py out of SumFold, SumCrc). -/
import Derived.Test.YtbimdogiollgkaaSumCrc
namespace Go.Proofs.Ytbimdogiollgkaa.R1
set_option linter.unusedVariables false
set_option linter.unusedSimpArgs false
open Go.RowKit

set_option maxHeartbeats 400000 in
theorem folded_any (s : Nat) (hs : s < 4294967296) (w : World) :
    Calls Try.prog 24 #[.int .u32 s] w fun e w' => e = .returned (.int .u32 (fo s)) ∧ w = w' := by
  go_enter Try.func24, Try.ntmps24
  go_wp2
  go_loop [0] (fun t => ∃ k : Nat, k < 4294967296 ∧ Hid (fo k = fo s) ∧ t = .int .u32 k) (fun t => (intOf t).toNat)
  case atStart => exact ⟨s, hs, rfl, rfl⟩
  case round =>
    obtain ⟨k, hk, hf, rfl⟩ := hrel
    by_cases h : 65535 < k
    · have hb : bits BinOp.and IntKind.u32 (k : Int) 65535 = ((k % 65536 : Nat) : Int) := by
        have := u32_and_nat k 65535 hk (by omega)
        rw [nat_mask16] at this
        exact this
      have hr : (((k : Int) / 65536 + ((k % 65536 : Nat) : Int)) % 4294967296) = ((k / 65536 + k % 65536 : Nat) : Int) := by omega
      have HB := Lib.hid hb
      have HR := Lib.hid hr
      clear hb hr
      go_wp2
      go_round
      case rel => exact ⟨k / 65536 + k % 65536, by omega, by rw [← hf.out]; exact fo_step h, by rw [HB.out, HR.out]⟩
      case measure => rw [HB.out, HR.out]; simp only [intOf]; omega
    · go_wp2
      go_ret
      exact ⟨ret_int (by rw [← hf.out, fo_small (by omega)]), rfl⟩

/-- a call of folded at whatever number stands there -/
theorem folded_at (z : Int) (h0 : 0 ≤ z) (h1 : z < 4294967296) (w : World) :
    Calls Try.prog 24 #[.int .u32 z] w fun e w' => e = .returned (.int .u32 (fo z.toNat)) ∧ w = w' := by
  obtain ⟨n, rfl⟩ := Int.eq_ofNat_of_zero_le h0
  exact folded_any n (by omega) w

theorem fold_any (s : Nat) (hs : s < 4294967296) (w : World) :
    Calls Try.prog 18 #[.int .u32 s] w fun e w' => e = .returned (.int .u16 (foldN s)) ∧ w = w' := by
  have hl := fo_le s
  go_enter Try.func18, Try.ntmps18
  go_wp2_with (go_at_call 24; refine (folded_any s hs _).mono ?_; rintro e w' ⟨rfl, rfl⟩)
  go_ret
  exact ⟨ret_int (not_u16 _ hl), rfl⟩

theorem part_any (s : Nat) (hs : s < 4294967296) (w : World) (B : Nat) (A : Option Addr) (n c : Nat) (l : List Nat) (h : Reads w B 1 A n (bv l)) (hn : n ≤ 281474976710656) (hb : AllB l) :
    Calls Try.prog 17 #[.int .u32 s, .slice A n c] w fun e w' => e = .returned (.int .u32 (partN s l)) ∧ w = w' := by
  have hln : l.length = n := by have := h.1; rw [bv_length] at this; omega
  have hfs := fo_le s
  go_enter Try.func17, Try.ntmps17
  go_wp2_with (go_at_call 24; refine (folded_any s hs _).mono ?_; rintro e w' ⟨rfl, rfl⟩)
  go_loop [0, 5] (fun t i => ∃ k : Nat, 2 * k ≤ n + 1 ∧ i = .int .i64 (2 * (k : Int)) ∧ t = .int .u32 (partN s (l.take (2 * k)))) (fun _ i => n + 1 - (intOf i).toNat)
  case atStart => exact ⟨0, by omega, rfl, by simp [partN, wsum]⟩
  case round =>
    obtain ⟨k, hk, rfl, rfl⟩ := hrel
    have hp := partN_le s (l.take (2 * k))
    generalize hP : partN s (l.take (2 * k)) = p at hp
    have HP := Lib.hid hP
    clear hP
    by_cases hlt : 2 * k < n
    · obtain ⟨ad, hl0, rfl, hc0⟩ := bytes_at h hlt
      have hx := hb _ (List.getElem_mem hl0)
      generalize hX : l[2 * k] = x at hc0 hx
      have HX := Lib.hid hX
      clear hX
      by_cases hlt1 : 2 * k + 1 < n
      · obtain ⟨_, hl1, e, hc1⟩ := bytes_at h hlt1
        cases e
        have hy := hb _ (List.getElem_mem hl1)
        rw [add_succ] at hc1
        generalize hY : l[2 * k + 1] = y at hc1 hy
        have HY := Lib.hid hY
        clear hY h
        have HF : Hid (fo (p + (x * 256 + y)) = partN s (l.take (2 * (k + 1)))) := by
          show _ = _
          rw [partN, wsum_take_two l k (by omega), HX.out, HY.out, ← HP.out, partN, fo_add, Nat.add_assoc]
        have hor : bits BinOp.or IntKind.u32 ((x : Int) * 256) (y : Int) = ((x * 256 + y : Nat) : Int) := by
          have := u32_or_nat (x * 256) y (by omega) (by omega)
          rw [nat_join 8 (x * 256) y (by omega) (by omega)] at this
          exact this
        go_wp2_with (go_at_call 24; refine (folded_at _ (by omega) (by omega) _).mono ?_; rintro e w' ⟨rfl, rfl⟩)
        go_round
        case rel => exact ⟨k + 1, by omega, by go_num, by rw [← HF.out]; congr 3⟩
        case measure => simp [intOf]; omega
      · have HF : Hid (fo (p + x * 256) = partN s (l.take (2 * (k + 1)))) := by
          show _ = _
          rw [partN, List.take_of_length_le (by omega), wsum_take_last l k (by omega), HX.out, ← HP.out, partN, fo_add, Nat.add_assoc]
        clear h
        go_wp2_with (go_at_call 24; refine (folded_at _ (by omega) (by omega) _).mono ?_; rintro e w' ⟨rfl, rfl⟩)
        go_round
        case rel => exact ⟨k + 1, by omega, by go_num, by rw [← HF.out]; congr 3⟩
        case measure => simp [intOf]; omega
    · have HF : Hid (p = partN s l) := by
        show _ = _
        rw [← HP.out, List.take_of_length_le (by omega)]
      go_wp2
      go_ret
      exact ⟨ret_int (by rw [HF.out]), rfl⟩

/-- a call of Part at whatever number stands there -/
theorem part_at (z : Int) (h0 : 0 ≤ z) (h1 : z < 4294967296) (w : World) (B : Nat) (A : Option Addr) (n c : Nat) (l : List Nat) (h : Reads w B 1 A n (bv l)) (hn : n ≤ 281474976710656) (hb : AllB l) :
    Calls Try.prog 17 #[.int .u32 z, .slice A n c] w fun e w' => e = .returned (.int .u32 (partN z.toNat l)) ∧ w = w' := by
  obtain ⟨s, rfl⟩ := Int.eq_ofNat_of_zero_le h0
  exact part_any s (by omega) w B A n c l h hn hb

theorem fold_at (z : Int) (h0 : 0 ≤ z) (h1 : z < 4294967296) (w : World) :
    Calls Try.prog 18 #[.int .u32 z] w fun e w' => e = .returned (.int .u16 (foldN z.toNat)) ∧ w = w' := by
  obtain ⟨s, rfl⟩ := Int.eq_ofNat_of_zero_le h0
  exact fold_any s (by omega) w

theorem net_any (w : World) (B : Nat) (A : Option Addr) (n c : Nat) (l : List Nat) (h : Reads w B 1 A n (bv l)) (hn : n ≤ 281474976710656) (hb : AllB l) :
    Calls Try.prog 16 #[.slice A n c] w fun e w' => e = .returned (.int .u16 (netN l)) ∧ w = w' := by
  have hp := partN_le 0 l
  have HF := Lib.hid (net_of l)
  go_enter Try.func16, Try.ntmps16
  go_wp2_with (first | (go_at_call 17; refine (part_any 0 (by omega) _ B A n c l h hn hb).mono ?_; rintro e w' ⟨rfl, rfl⟩) | (go_at_call 18; refine (fold_any _ (by omega) _).mono ?_; rintro e w' ⟨rfl, rfl⟩))
  go_ret
  exact ⟨ret_int (by rw [HF.out]), rfl⟩

theorem fix_any (x old now : Nat) (hx : x < 65536) (ho : old < 65536) (hn : now < 65536) (w : World) :
    Calls Try.prog 19 #[.int .u16 x, .int .u16 old, .int .u16 now] w fun e w' => e = .returned (.int .u16 (fixN x old now)) ∧ w = w' := by
  have h1 := not_u16 x (by omega)
  have h2 := not_u16 old (by omega)
  go_enter Try.func19, Try.ntmps19
  go_wp2_with (go_at_call 18; refine (fold_at _ (by omega) (by omega) _).mono ?_; rintro e w' ⟨rfl, rfl⟩)
  go_ret
  exact ⟨ret_int (by unfold fixN foldN; congr 3; omega), rfl⟩
set_option maxHeartbeats 400000 in
theorem crc_any (w : World) (B : Nat) (A : Option Addr) (n c : Nat) (l : List Nat) (h : Reads w B 1 A n (bv l)) (hn : n ≤ 281474976710656) (hb : AllB l) :
    Calls Try.prog 20 #[.slice A n c] w fun e w' => e = .returned (.int .u32 (crcN l)) ∧ w = w' := by
  have hln : l.length = n := by have := h.1; rw [bv_length] at this; omega
  go_enter Try.func20, Try.ntmps20
  go_wp2
  go_loop [3, 8] (fun t i => ∃ k : Nat, k ≤ n ∧ i = .int .i64 (k : Int) ∧ t = .int .u32 (((l.take k).foldl crcByte 4294967295 : Nat) : Int)) (fun _ i => n - (intOf i).toNat)
  case atStart => exact ⟨0, by omega, rfl, rfl⟩
  case round =>
    obtain ⟨k, hk, rfl, rfl⟩ := hrel
    have hp : (l.take k).foldl crcByte 4294967295 < 4294967296 := foldl_lt (fun _ _ => crcByte_lt) _ _ (hb.take k) (by omega)
    by_cases hlt : k < n
    · obtain ⟨ad, hl0, rfl, hc0⟩ := bytes_at h hlt
      have hx := hb _ (List.getElem_mem hl0)
      have hnext := foldl_take (f := crcByte) l k 4294967295 hl0
      generalize (l.take k).foldl crcByte 4294967295 = p at hp hnext
      generalize l[k] = x at hc0 hx hnext
      have HN := Lib.hid hnext
      clear hnext
      have hxor : bits BinOp.xor IntKind.u32 (p : Int) (x : Int) = ((p ^^^ x : Nat) : Int) := u32_xor_nat p x hp (by omega)
      have hq : p ^^^ x < 4294967296 := xor_lt32 hp (by omega)
      have HQ : Hid (crcByte p x = crcBits 8 (p ^^^ x)) := rfl
      generalize p ^^^ x = q at hxor hq HQ
      go_wp2
      go_loop [3, 16] (fun t i => ∃ j : Nat, j ≤ 8 ∧ i = .int .i64 (j : Int) ∧ t = .int .u32 ((crcBits j q : Nat) : Int)) (fun _ i => 8 - (intOf i).toNat)
      case atStart => exact ⟨0, by omega, rfl, rfl⟩
      case round =>
        obtain ⟨j, hj, rfl, rfl⟩ := hrel
        have hr := crcBits_lt j hq
        have HR : Hid (crcBits (j + 1) q = crcBit (crcBits j q)) := rfl
        have HR8 : Hid (crcBits j q = crcBits j q) := rfl
        by_cases hj8 : j < 8
        · generalize crcBits j q = r at hr HR
          by_cases h1 : r % 2 = 1
          · have hand : bits BinOp.and IntKind.u32 (r : Int) 1 = 1 := by rw [and_one r hr, h1]; rfl
            have hx2 : bits BinOp.xor IntKind.u32 ((r : Int) / 2) 2197175160 = ((crcBit r : Nat) : Int) := by
              unfold crcBit
              rw [if_pos h1]
              exact u32_xor_nat (r / 2) 2197175160 (by omega) (by omega)
            clear h1
            go_wp2
            go_round
            case rel => exact ⟨j + 1, by omega, by go_num, by rw [HR.out]⟩
            case measure => simp [intOf]; omega
          · have hand : bits BinOp.and IntKind.u32 (r : Int) 1 = 0 := by rw [and_one r hr]; omega
            have hx2 : Hid (((r : Int) / 2) = ((crcBit r : Nat) : Int)) := by
              show _ = _
              unfold crcBit
              rw [if_neg h1]
              exact (Int.natCast_ediv r 2).symm
            clear h1
            go_wp2
            go_round
            case rel => exact ⟨j + 1, by omega, by go_num, by rw [HR.out, ← hx2.out]⟩
            case measure => simp [intOf]; omega
        · obtain rfl : j = 8 := by omega
          rw [← HQ.out, ← HN.out]
          clear hr
          go_wp2
          go_round
          case rel => exact ⟨k + 1, by omega, by go_num, rfl⟩
          case measure => simp [intOf]; omega
    · have HF : Hid (4294967295 - (l.take k).foldl crcByte 4294967295 = crcN l) := by
        show _ = _
        unfold crcN crcL
        rw [List.take_of_length_le (by omega)]
      have hnot := not_u32 _ hp
      generalize (l.take k).foldl crcByte 4294967295 = p at hp hnot HF
      rw [HF.out] at hnot
      go_wp2
      go_ret
      exact ⟨rfl, rfl⟩

theorem mix_any (seed : Nat) (hs : seed < 4294967296) (w : World) (B : Nat) (A : Option Addr) (n c : Nat) (l : List Nat) (h : Reads w B 1 A n (bv l)) (hn : n ≤ 281474976710656) (hb : AllB l) :
    Calls Try.prog 22 #[.int .u32 seed, .slice A n c] w fun e w' => e = .returned (.int .u32 (mixN seed l)) ∧ w = w' := by
  have hln : l.length = n := by have := h.1; rw [bv_length] at this; omega
  have hx0 : bits BinOp.xor IntKind.u32 (seed : Int) 2166136261 = ((seed ^^^ 2166136261 : Nat) : Int) := u32_xor_nat seed 2166136261 hs (by omega)
  go_enter Try.func22, Try.ntmps22
  go_wp2
  go_loop [5, 12] (fun t i => ∃ k : Nat, k ≤ n ∧ i = .int .i64 (k : Int) ∧ t = .int .u32 ((mixL seed (l.take k) : Nat) : Int)) (fun _ i => n - (intOf i).toNat)
  case atStart => exact ⟨0, by omega, rfl, rfl⟩
  case round =>
    obtain ⟨k, hk, rfl, rfl⟩ := hrel
    have hp := mixL_lt hs (hb.take k)
    clear hx0
    by_cases hlt : k < n
    · obtain ⟨ad, hl0, rfl, hc0⟩ := bytes_at h hlt
      have hx := hb _ (List.getElem_mem hl0)
      have hnext : mixL seed (l.take (k + 1)) = mixByte (mixL seed (l.take k)) l[k] := foldl_take (f := mixByte) l k _ hl0
      generalize mixL seed (l.take k) = p at hp hnext
      generalize l[k] = x at hc0 hx hnext
      have HN := Lib.hid hnext
      clear hnext
      have hxor : bits BinOp.xor IntKind.u32 (p : Int) (x : Int) = ((p ^^^ x : Nat) : Int) := u32_xor_nat p x hp (by omega)
      go_wp2
      go_round
      case rel => exact ⟨k + 1, by omega, by go_num, by rw [HN.out]; unfold mixByte; go_num⟩
      case measure => simp [intOf]; omega
    · have HF : Hid (mixEnd (mixL seed (l.take k)) = mixN seed l) := by
        show _ = _
        unfold mixN
        rw [List.take_of_length_le (by omega)]
      generalize mixL seed (l.take k) = p at hp HF
      have h1 : bits BinOp.xor IntKind.u32 (p : Int) ((p : Int) / 32768) = ((p ^^^ p / 32768 : Nat) : Int) := u32_xor_nat p (p / 32768) hp (by omega)
      have HE : Hid (mixEnd p = (let d := (p ^^^ p / 32768) * 2246822507 % 4294967296; d ^^^ d / 8192)) := rfl
      generalize p ^^^ p / 32768 = a at h1 HE
      have hm : ((a : Int) * 2246822507) % 4294967296 = ((a * 2246822507 % 4294967296 : Nat) : Int) := by omega
      have hd : a * 2246822507 % 4294967296 < 4294967296 := Nat.mod_lt _ (by omega)
      have HE' : Hid (mixN seed l = (let d := a * 2246822507 % 4294967296; d ^^^ d / 8192)) := HF.out.symm.trans HE.out
      clear HE HF
      generalize a * 2246822507 % 4294967296 = d at hm hd HE'
      have h2 : bits BinOp.xor IntKind.u32 (d : Int) ((d : Int) / 8192) = ((d ^^^ d / 8192 : Nat) : Int) := u32_xor_nat d (d / 8192) hd (by omega)
      go_wp2
      go_ret
      exact ⟨ret_int (by rw [HE'.out]), rfl⟩
end Go.Proofs.Ytbimdogiollgkaa.R1
