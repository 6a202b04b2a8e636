/- api.Tuple as a plain structure, for the texts of chapter 19. -/
import Derived.Test.YtaamflhleommlaaBacks
namespace Go.Proofs.Ytaamflhleommlaa
set_option linter.unusedVariables false

structure Tu where
  src : Nat
  dst : Nat
  proto : Int
  sport : Int
  dport : Int
def Tu.vals (k : Tu) : Array Value := #[.int .u32 (k.src : Int), .int .u32 (k.dst : Int), .int .i64 k.proto, .int .i64 k.sport, .int .i64 k.dport]
structure TuOk (k : Tu) : Prop where
  src : k.src < 4294967296
  dst : k.dst < 4294967296
  proto : -9223372036854775808 ≤ k.proto ∧ k.proto ≤ 9223372036854775807
  sport : -9223372036854775808 ≤ k.sport ∧ k.sport ≤ 9223372036854775807
  dport : -9223372036854775808 ≤ k.dport ∧ k.dport ≤ 9223372036854775807
def mayTu (k : Tu) : Bool := decide ((k.proto = 6 ∨ k.proto = 17) ∧ 0 ≤ k.sport ∧ k.sport ≤ 65535 ∧ 0 ≤ k.dport ∧ k.dport ≤ 65535)
end Go.Proofs.Ytaamflhleommlaa
