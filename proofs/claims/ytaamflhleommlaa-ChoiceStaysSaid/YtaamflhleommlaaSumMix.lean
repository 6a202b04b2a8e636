/- The walk of 'Mix' of the program, as the plain function of SumPlain. -/
import Derived.Test.YtaamflhleommlaaBits
namespace Go.Proofs.Ytaamflhleommlaa
set_option linter.unusedVariables false
set_option linter.unusedSimpArgs false
open Go.RowKit

theorem mix_any (seed : Nat) (hs : seed < 4294967296) (w : World) (B : Nat) (A : Option Addr) (n c : Nat) (l : List Nat) (h : Reads w B 1 A n (bv l)) (hn : n ≤ 281474976710656) (hb : AllB l) :
    Calls Try.prog 34 #[.int .u32 seed, .slice A n c] w fun e w' => e = .returned (.int .u32 (mixN seed l)) ∧ w = w' := by
  have hln : l.length = n := by have := h.1; rw [bv_length] at this; omega
  have hx0 : bits BinOp.xor IntKind.u32 (seed : Int) 2166136261 = ((seed ^^^ 2166136261 : Nat) : Int) := u32_xor_nat seed 2166136261 hs (by omega)
  go_enter Try.func34, Try.ntmps34
  go_wp2
  go_loop [5, 12] (fun t i => ∃ k : Nat, k ≤ n ∧ i = .int .i64 (k : Int) ∧ t = .int .u32 ((mixL seed (l.take k) : Nat) : Int)) (fun _ i => n - (intOf i).toNat)
  case atStart => exact ⟨0, by omega, rfl, rfl⟩
  case round =>
    obtain ⟨k, hk, rfl, rfl⟩ := hrel
    have hp := mixL_lt hs (hb.take k)
    clear hx0
    by_cases hlt : k < n
    · obtain ⟨ad, hl0, rfl, hc0⟩ := bytes_at h hlt
      have hx := hb _ (List.getElem_mem hl0)
      have hnext : mixL seed (l.take (k + 1)) = mixByte (mixL seed (l.take k)) l[k] := foldl_take (f := mixByte) l k _ hl0
      generalize mixL seed (l.take k) = p at hp hnext
      generalize l[k] = x at hc0 hx hnext
      have HN := Lib.hid hnext
      clear hnext
      have hxor : bits BinOp.xor IntKind.u32 (p : Int) (x : Int) = ((p ^^^ x : Nat) : Int) := u32_xor_nat p x hp (by omega)
      go_wp2
      go_round
      case rel => exact ⟨k + 1, by omega, by go_num, by rw [HN.out]; unfold mixByte; go_num⟩
      case measure => simp [intOf]; omega
    · have HF : Hid (mixEnd (mixL seed (l.take k)) = mixN seed l) := by
        show _ = _
        unfold mixN
        rw [List.take_of_length_le (by omega)]
      generalize mixL seed (l.take k) = p at hp HF
      have h1 : bits BinOp.xor IntKind.u32 (p : Int) ((p : Int) / 32768) = ((p ^^^ p / 32768 : Nat) : Int) := u32_xor_nat p (p / 32768) hp (by omega)
      have HE : Hid (mixEnd p = (let d := (p ^^^ p / 32768) * 2246822507 % 4294967296; d ^^^ d / 8192)) := rfl
      generalize p ^^^ p / 32768 = a at h1 HE
      have hm : ((a : Int) * 2246822507) % 4294967296 = ((a * 2246822507 % 4294967296 : Nat) : Int) := by omega
      have hd : a * 2246822507 % 4294967296 < 4294967296 := Nat.mod_lt _ (by omega)
      have HE' : Hid (mixN seed l = (let d := a * 2246822507 % 4294967296; d ^^^ d / 8192)) := HF.out.symm.trans HE.out
      clear HE HF
      generalize a * 2246822507 % 4294967296 = d at hm hd HE'
      have h2 : bits BinOp.xor IntKind.u32 (d : Int) ((d : Int) / 8192) = ((d ^^^ d / 8192 : Nat) : Int) := u32_xor_nat d (d / 8192) hd (by omega)
      go_wp2
      go_ret
      exact ⟨ret_int (by rw [HE'.out]), rfl⟩
end Go.Proofs.Ytaamflhleommlaa
