/- The walk of ref10.Without. -/
import Derived.Test.YtaamflhleommlaaCloneBe
import Derived.Test.YtaamflhleommlaaGone
namespace Go.Proofs.Ytaamflhleommlaa
set_option linter.unusedVariables false
set_option linter.unusedSimpArgs false
open Go.RowKit

def leftBe (l : List Be) (out : List Int) : List Be := l.filter (fun b => decide (b.id ∉ out))
theorem left_take {l : List Be} {out : List Int} {k : Nat} (hk : k < l.length) : leftBe (l.take (k + 1)) out = if l[k].id ∈ out then leftBe (l.take k) out else leftBe (l.take k) out ++ [l[k]] := by
  unfold leftBe
  rw [List.take_succ_eq_append_getElem hk, List.filter_append]
  by_cases h : l[k].id ∈ out
  · rw [if_pos h]; simp [h]
  · rw [if_neg h]; simp [h]
theorem bks_append (a b : List Be) : bks (a ++ b) = bks a ++ bks b := by unfold bks; rw [List.flatMap_append]
theorem bks_single (b : Be) : bks [b] = [.int .i64 b.id, .int .u32 (b.addr : Int), .int .i64 b.weight] := by unfold bks Be.cells; simp
theorem in_take {l : List Int} {id : Int} {k : Nat} (hk : k < l.length) : decide (id ∈ l.take (k + 1)) = (decide (id ∈ l.take k) || (l[k] == id)) := by
  rw [List.take_succ_eq_append_getElem hk, Bool.eq_iff_iff, Bool.or_eq_true, decide_eq_true_eq, decide_eq_true_eq, List.mem_append, List.mem_singleton, beq_iff_eq]
  exact or_congr Iff.rfl eq_comm
end Go.Proofs.Ytaamflhleommlaa
