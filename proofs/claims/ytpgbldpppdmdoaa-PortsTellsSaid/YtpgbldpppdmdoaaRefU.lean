/- The walks of the reference's U16, U32: bytes of a new block. -/
import Derived.Test.YtpgbldpppdmdoaaIpBuild
import Derived.Test.YtpgbldpppdmdoaaNetRef
namespace Go.Proofs.Ytpgbldpppdmdoaa
set_option linter.unusedVariables false
set_option linter.unusedSimpArgs false
open Go.RowKit

theorem u16ref_any (z : Int) (w : World) (hz : -9223372036854775808 ≤ z ∧ z ≤ 9223372036854775807) :
    Calls Try.prog 45 #[.int .i64 z] w fun e w' => e = .returned (.slice (some ⟨w.heap.size, 0, none⟩) 2 2) ∧ w.alloc (.cells #[.int .u8 (((u64n z) / 256 % 256 : Nat) : Int), .int .u8 (((u64n z) % 256 : Nat) : Int)] 5) = w' := by
  have h1 : Hid (z % 256 = ((u64n z % 256 : Nat) : Int)) := by show _ = _; unfold u64n; omega
  have h2 : Hid (z / 256 % 256 = ((u64n z / 256 % 256 : Nat) : Int)) := by show _ = _; unfold u64n; omega
  go_enter Try.func45, Try.ntmps45
  go_wp2_with fail
  rw [h1.out, h2.out]
  go_ret
  exact ⟨rfl, rfl⟩
theorem u32ref_any (z : Nat) (w : World) (hz : z < 4294967296) :
    Calls Try.prog 46 #[.int .u32 z] w fun e w' => e = .returned (.slice (some ⟨w.heap.size, 0, none⟩) 4 4) ∧ w.alloc (.cells #[.int .u8 ((z / 16777216 % 256 : Nat) : Int), .int .u8 ((z / 65536 % 256 : Nat) : Int), .int .u8 ((z / 256 % 256 : Nat) : Int), .int .u8 ((z % 256 : Nat) : Int)] 5) = w' := by
  have h1 : Hid ((z : Int) / 16777216 = ((z / 16777216 % 256 : Nat) : Int)) := by show _ = _; omega
  have h2 : Hid ((z : Int) / 65536 % 256 = ((z / 65536 % 256 : Nat) : Int)) := by show _ = _; omega
  have h3 : Hid ((z : Int) / 256 % 256 = ((z / 256 % 256 : Nat) : Int)) := by show _ = _; omega
  have h4 : Hid ((z : Int) % 256 = ((z % 256 : Nat) : Int)) := by show _ = _; omega
  go_enter Try.func46, Try.ntmps46
  go_wp2_with fail
  rw [h1.out, h2.out, h3.out, h4.out]
  go_ret
  exact ⟨rfl, rfl⟩
end Go.Proofs.Ytpgbldpppdmdoaa
