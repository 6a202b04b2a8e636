/- slices.DeleteFunc at backends: the plain part. -/
import Derived.Test.YtaamflhleommlaaRefWoW
import Derived.Test.YtaamflhleommlaaWo1
namespace Go.Proofs.Ytaamflhleommlaa
set_option linter.unusedVariables false
set_option linter.unusedSimpArgs false
open Go.RowKit

def keepBe (p : Be → Bool) (l : List Be) : List Be := l.filter (fun b => !p b)
theorem keep_take {p : Be → Bool} {l : List Be} {k : Nat} (hk : k < l.length) : keepBe p (l.take (k + 1)) = if p l[k] = true then keepBe p (l.take k) else keepBe p (l.take k) ++ [l[k]] := by
  unfold keepBe
  rw [List.take_succ_eq_append_getElem hk, List.filter_append]
  by_cases h : p l[k] = true
  · rw [if_pos h]; simp [h]
  · rw [if_neg h]; simp [h]
theorem keep_none {p : Be → Bool} {l : List Be} (h : idxBe p l = -1) : keepBe p l = l := by
  unfold keepBe
  rw [List.filter_eq_self]
  intro b hb
  cases hp : p b with
  | false => rfl
  | true =>
    exfalso
    unfold idxBe at h
    cases hf : l.findIdx? p with
    | some i => rw [hf] at h; simp at h
    | none =>
      rw [List.findIdx?_eq_none_iff] at hf
      rw [hf b hb] at hp
      cases hp
theorem keep_first {p : Be → Bool} {l : List Be} {k : Nat} (h : idxBe p l = (k : Int)) : ∃ hk : k < l.length, p l[k] = true ∧ keepBe p (l.take k) = l.take k := by
  unfold idxBe at h
  cases hf : l.findIdx? p with
  | none => rw [hf] at h; simp at h
  | some i =>
    rw [hf] at h
    have : i = k := by simp at h; omega
    subst this
    rw [List.findIdx?_eq_some_iff_getElem] at hf
    obtain ⟨hi, hp, hall⟩ := hf
    refine ⟨hi, hp, ?_⟩
    unfold keepBe
    rw [List.filter_eq_self]
    intro b hb
    obtain ⟨j, hj, rfl⟩ := List.getElem_of_mem hb
    rw [List.length_take] at hj
    have := hall j (by omega)
    rw [List.getElem_take]
    simpa using this
end Go.Proofs.Ytaamflhleommlaa
