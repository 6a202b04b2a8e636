/- Which prime: the laws of layer 18 take one of four or six; a row of truths in memory. -/
import Derived.Test.YtaamflhleommlaaAwake18
namespace Go.Proofs.Ytaamflhleommlaa
set_option linter.unusedVariables false
set_option linter.unusedSimpArgs false
open Go.RowKit

def bov (l : List Bool) : List Value := l.map Value.bool
theorem bov_length (l : List Bool) : (bov l).length = l.length := by simp [bov]
theorem bov_get {l : List Bool} {j : Nat} (h : j < l.length) : (bov l)[j]? = some (.bool l[j]) := by simp [bov, h]
theorem ownt_cell {w : World} {base n c g : Nat} {e : TypeId} {l : List Bool} (h : w.ownsRow base e 1 (.slice (some ⟨g, 0, none⟩) n c) n (bov l)) (j : Nat) (hj : j < n) (hl : j < l.length) : w.cell? ⟨g, j, none⟩ = some (.bool l[j]) := by
  rw [h.cellAt j (by omega), bov_get hl]
theorem ownt_store {w : World} {base n c g : Nat} {e : TypeId} {l : List Bool} (h : w.ownsRow base e 1 (.slice (some ⟨g, 0, none⟩) n c) n (bov l)) (j : Nat) (x : Bool) :
    (w.setCell ⟨g, j, none⟩ (.bool x)).ownsRow base e 1 (.slice (some ⟨g, 0, none⟩) n c) n (bov (l.set j x)) := by
  have := (h.stored j (.bool x)).1
  rwa [show (bov l).set j (.bool x) = bov (l.set j x) from by simp [bov, List.map_set]] at this
theorem ownt_length {w : World} {base n : Nat} {e : TypeId} {v : Value} {l : List Bool} (h : w.ownsRow base e 1 v n (bov l)) : l.length = n := by have := h.1; rw [bov_length] at this; omega

theorem cells4 (a b c d : Nat) (j : Nat) (hj : j < 4) : ∃ n : Nat, (n = a ∨ n = b ∨ n = c ∨ n = d) ∧ (#[Value.int .i64 (a : Int), .int .i64 (b : Int), .int .i64 (c : Int), .int .i64 (d : Int)])[j]? = some (.int .i64 (n : Int)) := by
  have : j = 0 ∨ j = 1 ∨ j = 2 ∨ j = 3 := by omega
  rcases this with rfl | rfl | rfl | rfl
  · exact ⟨a, .inl rfl, rfl⟩
  · exact ⟨b, .inr (.inl rfl), rfl⟩
  · exact ⟨c, .inr (.inr (.inl rfl)), rfl⟩
  · exact ⟨d, .inr (.inr (.inr rfl)), rfl⟩
theorem cells6 (a b c d e f : Nat) (j : Nat) (hj : j < 6) : ∃ n : Nat, (n = a ∨ n = b ∨ n = c ∨ n = d ∨ n = e ∨ n = f) ∧ (#[Value.int .i64 (a : Int), .int .i64 (b : Int), .int .i64 (c : Int), .int .i64 (d : Int), .int .i64 (e : Int), .int .i64 (f : Int)])[j]? = some (.int .i64 (n : Int)) := by
  have : j = 0 ∨ j = 1 ∨ j = 2 ∨ j = 3 ∨ j = 4 ∨ j = 5 := by omega
  rcases this with rfl | rfl | rfl | rfl | rfl | rfl
  · exact ⟨a, .inl rfl, rfl⟩
  · exact ⟨b, .inr (.inl rfl), rfl⟩
  · exact ⟨c, .inr (.inr (.inl rfl)), rfl⟩
  · exact ⟨d, .inr (.inr (.inr (.inl rfl))), rfl⟩
  · exact ⟨e, .inr (.inr (.inr (.inr (.inl rfl)))), rfl⟩
  · exact ⟨f, .inr (.inr (.inr (.inr (.inr rfl)))), rfl⟩
theorem may_primes {n : Nat} (h : n = 3 ∨ n = 7 ∨ n = 13 ∨ n = 61 ∨ n = 127 ∨ n = 251) : mayN n = true := by
  rcases h with rfl | rfl | rfl | rfl | rfl | rfl <;> decide +kernel
end Go.Proofs.Ytaamflhleommlaa
