/- The walks of 'Crc' and 'Mix' of the program: what they compute, as the plain functions of SumPlain. -/
import Derived.Test.YtbimdogiollgkaaSumFold
namespace Go.Proofs.Ytbimdogiollgkaa
set_option linter.unusedVariables false
set_option linter.unusedSimpArgs false
open Go.RowKit

theorem and_one (k : Nat) (hk : k < 4294967296) : bits BinOp.and IntKind.u32 (k : Int) 1 = ((k % 2 : Nat) : Int) := by
  have := u32_and_nat k 1 hk (by omega)
  rw [nat_mask1] at this
  exact this

set_option maxHeartbeats 400000 in
theorem crc_any (w : World) (B : Nat) (A : Option Addr) (n c : Nat) (l : List Nat) (h : Reads w B 1 A n (bv l)) (hn : n ≤ 281474976710656) (hb : AllB l) :
    Calls Try.prog 14 #[.slice A n c] w fun e w' => e = .returned (.int .u32 (crcN l)) ∧ w = w' := by
  have hln : l.length = n := by have := h.1; rw [bv_length] at this; omega
  go_enter Try.func14, Try.ntmps14
  go_wp2
  go_loop [3, 9] (fun t i => ∃ k : Nat, k ≤ n ∧ i = .int .i64 (k : Int) ∧ t = .int .u32 (((l.take k).foldl crcByte 4294967295 : Nat) : Int)) (fun _ i => n - (intOf i).toNat)
  case atStart => exact ⟨0, by omega, rfl, rfl⟩
  case round =>
    obtain ⟨k, hk, rfl, rfl⟩ := hrel
    have hp : (l.take k).foldl crcByte 4294967295 < 4294967296 := foldl_lt (fun _ _ => crcByte_lt) _ _ (hb.take k) (by omega)
    by_cases hlt : k < n
    · obtain ⟨ad, hl0, rfl, hc0⟩ := bytes_at h hlt
      have hx := hb _ (List.getElem_mem hl0)
      have hnext := foldl_take (f := crcByte) l k 4294967295 hl0
      generalize (l.take k).foldl crcByte 4294967295 = p at hp hnext
      generalize l[k] = x at hc0 hx hnext
      have HN := Lib.hid hnext
      clear hnext
      have hxor : bits BinOp.xor IntKind.u32 (p : Int) (x : Int) = ((p ^^^ x : Nat) : Int) := u32_xor_nat p x hp (by omega)
      have hq : p ^^^ x < 4294967296 := xor_lt32 hp (by omega)
      have HQ : Hid (crcByte p x = crcBits 8 (p ^^^ x)) := rfl
      generalize p ^^^ x = q at hxor hq HQ
      go_wp2
      go_loop [3, 17] (fun t i => ∃ j : Nat, j ≤ 8 ∧ i = .int .i64 (j : Int) ∧ t = .int .u32 ((crcBits j q : Nat) : Int)) (fun _ i => 8 - (intOf i).toNat)
      case atStart => exact ⟨0, by omega, rfl, rfl⟩
      case round =>
        obtain ⟨j, hj, rfl, rfl⟩ := hrel
        have hr := crcBits_lt j hq
        have HR : Hid (crcBits (j + 1) q = crcBit (crcBits j q)) := rfl
        have HR8 : Hid (crcBits j q = crcBits j q) := rfl
        by_cases hj8 : j < 8
        · generalize crcBits j q = r at hr HR
          by_cases h1 : r % 2 = 1
          · have hand : bits BinOp.and IntKind.u32 (r : Int) 1 = 1 := by rw [and_one r hr, h1]; rfl
            have hx2 : bits BinOp.xor IntKind.u32 ((r : Int) / 2) 2197175160 = ((crcBit r : Nat) : Int) := by
              unfold crcBit
              rw [if_pos h1]
              exact u32_xor_nat (r / 2) 2197175160 (by omega) (by omega)
            clear h1
            go_wp2
            go_round
            case rel => exact ⟨j + 1, by omega, by go_num, by rw [HR.out]⟩
            case measure => simp [intOf]; omega
          · have hand : bits BinOp.and IntKind.u32 (r : Int) 1 = 0 := by rw [and_one r hr]; omega
            have hx2 : Hid (((r : Int) / 2) = ((crcBit r : Nat) : Int)) := by
              show _ = _
              unfold crcBit
              rw [if_neg h1]
              exact (Int.natCast_ediv r 2).symm
            clear h1
            go_wp2
            go_round
            case rel => exact ⟨j + 1, by omega, by go_num, by rw [HR.out, ← hx2.out]⟩
            case measure => simp [intOf]; omega
        · obtain rfl : j = 8 := by omega
          rw [← HQ.out, ← HN.out]
          clear hr
          go_wp2
          go_round
          case rel => exact ⟨k + 1, by omega, by go_num, rfl⟩
          case measure => simp [intOf]; omega
    · have HF : Hid (4294967295 - (l.take k).foldl crcByte 4294967295 = crcN l) := by
        show _ = _
        unfold crcN crcL
        rw [List.take_of_length_le (by omega)]
      have hnot := not_u32 _ hp
      generalize (l.take k).foldl crcByte 4294967295 = p at hp hnot HF
      rw [HF.out] at hnot
      go_wp2
      go_ret
      exact ⟨rfl, rfl⟩

theorem mix_any (seed : Nat) (hs : seed < 4294967296) (w : World) (B : Nat) (A : Option Addr) (n c : Nat) (l : List Nat) (h : Reads w B 1 A n (bv l)) (hn : n ≤ 281474976710656) (hb : AllB l) :
    Calls Try.prog 21 #[.int .u32 seed, .slice A n c] w fun e w' => e = .returned (.int .u32 (mixN seed l)) ∧ w = w' := by
  have hln : l.length = n := by have := h.1; rw [bv_length] at this; omega
  have hx0 : bits BinOp.xor IntKind.u32 (seed : Int) 2166136261 = ((seed ^^^ 2166136261 : Nat) : Int) := u32_xor_nat seed 2166136261 hs (by omega)
  go_enter Try.func21, Try.ntmps21
  go_wp2
  go_loop [5, 12] (fun t i => ∃ k : Nat, k ≤ n ∧ i = .int .i64 (k : Int) ∧ t = .int .u32 ((mixL seed (l.take k) : Nat) : Int)) (fun _ i => n - (intOf i).toNat)
  case atStart => exact ⟨0, by omega, rfl, rfl⟩
  case round =>
    obtain ⟨k, hk, rfl, rfl⟩ := hrel
    have hp := mixL_lt hs (hb.take k)
    clear hx0
    by_cases hlt : k < n
    · obtain ⟨ad, hl0, rfl, hc0⟩ := bytes_at h hlt
      have hx := hb _ (List.getElem_mem hl0)
      have hnext : mixL seed (l.take (k + 1)) = mixByte (mixL seed (l.take k)) l[k] := foldl_take (f := mixByte) l k _ hl0
      generalize mixL seed (l.take k) = p at hp hnext
      generalize l[k] = x at hc0 hx hnext
      have HN := Lib.hid hnext
      clear hnext
      have hxor : bits BinOp.xor IntKind.u32 (p : Int) (x : Int) = ((p ^^^ x : Nat) : Int) := u32_xor_nat p x hp (by omega)
      go_wp2
      go_round
      case rel => exact ⟨k + 1, by omega, by go_num, by rw [HN.out]; unfold mixByte; go_num⟩
      case measure => simp [intOf]; omega
    · have HF : Hid (mixEnd (mixL seed (l.take k)) = mixN seed l) := by
        show _ = _
        unfold mixN
        rw [List.take_of_length_le (by omega)]
      generalize mixL seed (l.take k) = p at hp HF
      have h1 : bits BinOp.xor IntKind.u32 (p : Int) ((p : Int) / 32768) = ((p ^^^ p / 32768 : Nat) : Int) := u32_xor_nat p (p / 32768) hp (by omega)
      have HE : Hid (mixEnd p = (let d := (p ^^^ p / 32768) * 2246822507 % 4294967296; d ^^^ d / 8192)) := rfl
      generalize p ^^^ p / 32768 = a at h1 HE
      have hm : ((a : Int) * 2246822507) % 4294967296 = ((a * 2246822507 % 4294967296 : Nat) : Int) := by omega
      have hd : a * 2246822507 % 4294967296 < 4294967296 := Nat.mod_lt _ (by omega)
      have HE' : Hid (mixN seed l = (let d := a * 2246822507 % 4294967296; d ^^^ d / 8192)) := HF.out.symm.trans HE.out
      clear HE HF
      generalize a * 2246822507 % 4294967296 = d at hm hd HE'
      have h2 : bits BinOp.xor IntKind.u32 (d : Int) ((d : Int) / 8192) = ((d ^^^ d / 8192 : Nat) : Int) := u32_xor_nat d (d / 8192) hd (by omega)
      go_wp2
      go_ret
      exact ⟨ret_int (by rw [HE'.out]), rfl⟩
end Go.Proofs.Ytbimdogiollgkaa
