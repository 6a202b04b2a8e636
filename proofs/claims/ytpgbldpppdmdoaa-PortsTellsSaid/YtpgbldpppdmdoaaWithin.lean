/- The walk of ports.within, whole. -/
import Derived.Test.YtpgbldpppdmdoaaWithinYes
namespace Go.Proofs.Ytpgbldpppdmdoaa
set_option linter.unusedVariables false
set_option linter.unusedSimpArgs false
open Go.RowKit

theorem within_any (A : Option Addr) (n c B : Nat) (l : List Nat) (w : World) (hr : Reads w B 1 A n (bv l)) (hB0 : B ≤ w.heap.size) (hn : n ≤ 140737488355328) (hnc : n ≤ c) (ha : AllB l) :
    Calls Try.prog 48 #[.slice A n c] w fun e w' => WithinRet l w e w' ∧ Below w.heap.size w w' := by
  by_cases hy : whyP l = 0
  · cases hwh : wholeL l with
    | false => exact within_no6 A n c B l w hr hB0 hn hnc ha hy hwh
    | true =>
      by_cases h6 : at' l 9 = 6
      · cases htc : tcpB (bodyP l) with
        | false => exact within_no9t A n c B l w hr hB0 hn hnc ha hy hwh h6 htc
        | true => exact within_yes_t A n c B l w hr hB0 hn hnc ha hy hwh h6 htc
      · by_cases h17 : at' l 9 = 17
        · cases htc : udpB (bodyP l) with
          | false => exact within_no9u A n c B l w hr hB0 hn hnc ha hy hwh h17 htc
          | true => exact within_yes_u A n c B l w hr hB0 hn hnc ha hy hwh h17 htc
        · exact within_no8 A n c B l w hr hB0 hn hnc ha hy hwh h6 h17
  · exact within_no1 A n c B l w hr hB0 hn hnc ha hy
end Go.Proofs.Ytpgbldpppdmdoaa
