/- Small facts of bits; the imports of the walks. -/
import Derived.Test.YtaamflhleommlaaSumPlain
import Derived.Test.YtaamflhleommlaaMem
import Derived.Test.YtaamflhleommlaaRows
import Derived.WalkKit
import Derived.WalkSpells
import Derived.WalkLawsBesides
import Derived.Outline
import Derived.LoopTactic
import Derived.Lib.Hide
import Derived.Laws.BitsAllLaws
import Derived.Laws.ShiftsVarLaws
namespace Go.Proofs.Ytaamflhleommlaa
set_option linter.unusedVariables false
set_option linter.unusedSimpArgs false
open Go.RowKit

theorem ret_int {k : IntKind} {a b : Int} (h : a = b) : Ending.returned (.int k a) = .returned (.int k b) := by rw [h]

theorem xor_ones (n a : Nat) (ha : a < 2 ^ n) : (2 ^ n - 1) ^^^ a = 2 ^ n - 1 - a := by
  have e : 2 ^ n - 1 - a = 2 ^ n - (a + 1) := by omega
  rw [e]
  apply Nat.eq_of_testBit_eq
  intro i
  rw [Nat.testBit_xor, Nat.testBit_two_pow_sub_one, Nat.testBit_two_pow_sub_succ ha]
  by_cases h : i < n
  · simp [h]
  · have : a.testBit i = false := Nat.testBit_lt_two_pow (Nat.lt_of_lt_of_le ha (Nat.pow_le_pow_right (by omega) (by omega)))
    simp [h, this]
theorem not_u16 (a : Nat) (ha : a ≤ 65535) : bits BinOp.xor IntKind.u16 IntKind.u16.max (a : Int) = ((65535 - a : Nat) : Int) := by
  have h := u16_xor_nat 65535 a (by omega) (by omega)
  have e : (65535 ^^^ a : Nat) = 65535 - a := xor_ones 16 a (by omega)
  rw [e] at h
  exact h
theorem not_u32 (a : Nat) (ha : a < 4294967296) : bits BinOp.xor IntKind.u32 IntKind.u32.max (a : Int) = ((4294967295 - a : Nat) : Int) := by
  have h := u32_xor_nat 4294967295 a (by omega) (by omega)
  have e : (4294967295 ^^^ a : Nat) = 4294967295 - a := xor_ones 32 a (by omega)
  rw [e] at h
  exact h

theorem add_succ (a : Addr) (k : Nat) : a.add (k + 1) = ⟨a.block, a.off + (k + 1), none⟩ := by simp [Addr.add]

end Go.Proofs.Ytaamflhleommlaa
