/- clear of a slice of backends. -/
import Derived.Test.YtaamflhleommlaaDelBe
import Derived.Lib.SliceRun
import Derived.Laws.IdiomCopy
namespace Go.Proofs.Ytaamflhleommlaa
set_option linter.unusedVariables false
set_option linter.unusedSimpArgs false
open Go.RowKit

def zeroBe : Value := .agg #[.int .i64 0, .int .u32 0, .int .i64 0]
theorem zeros_length (n : Nat) : (Builtin.zeroCells zeroBe.cells n).toList.length = n * 3 := by
  simp [Builtin.zeroCells, zeroBe, Value.cells]
theorem zeros_one (n : Nat) : ∀ v ∈ (Builtin.zeroCells zeroBe.cells n).toList, v.oneCell' = true := by
  intro v hv
  simp [Builtin.zeroCells, zeroBe, Value.cells] at hv
  obtain ⟨i, hi, rfl⟩ := hv
  have h3 : i % 3 = 0 ∨ i % 3 = 1 ∨ i % 3 = 2 := by omega
  rcases h3 with h | h | h <;> rw [h] <;> rfl
theorem run_clear_be {P : Program} (w : World) (t e ty : TypeId) (ht : P.underlying t = some (.slice e)) (hv : ∀ w, (zeroValue e).run P w = .ok zeroBe w) (b o n c : Nat) (hn : 0 < n)
    (hc : ∀ j, j < n * 3 → (w.cell? ⟨b, o + j, none⟩).isSome = true) (hf : ∀ j, j < n * 3 → w.frozen? ⟨b, o + j, none⟩ = false) :
    (Builtin.clear_ #[t] ty #[.slice (some ⟨b, o, none⟩) n c]).run P w = .ok (.tuple #[]) (w.setCells b o (Builtin.zeroCells zeroBe.cells n).toList) := by
  have hst := run_storeCells_cells (P := P) b o (Builtin.zeroCells zeroBe.cells n).toList 0 w (by rw [zeros_length]; simpa using hc) (by rw [zeros_length]; simpa using hf) (zeros_one n)
  simp only [Nat.add_zero] at hst
  obtain ⟨m, rfl⟩ : ∃ m, n = m + 1 := ⟨n - 1, by omega⟩
  simp [Builtin.clear_, run_underlying ht, hv, hst]
end Go.Proofs.Ytaamflhleommlaa
