/- The table shared out: plain laws of who has how many slots. -/
import Derived.Test.YtaamflhleommlaaTablePlain
namespace Go.Proofs.Ytaamflhleommlaa
set_option linter.unusedVariables false
set_option linter.unusedSimpArgs false
open Go.RowKit

/-- whose turn the i-th is -/
def turnAt (bs : List Bk) (i : Nat) : Nat := (takes bs)[i % (takes bs).length]?.getD 0
theorem turnAt_lt {bs : List Bk} {n : Nat} (hg : Good bs n) (i : Nat) : turnAt bs i < bs.length := by
  have hl := takes_pos hg
  have hm : i % (takes bs).length < (takes bs).length := Nat.mod_lt _ hl
  unfold turnAt
  rw [List.getElem?_eq_getElem hm]
  exact takes_lt (List.getElem_mem hm)
theorem run_succ {bs : List Bk} {n i : Nat} (hg : Good bs n) (hi : i < n) :
    ∃ v : Nat, (run bs n i).2[v]? = some (-1) ∧ (run bs n (i + 1)).2 = (run bs n i).2.set v ((bs[turnAt bs i]?.map Bk.id).getD (-1)) := by
  have hb := turnAt_lt hg i
  have ih := run_inv hg i (by omega)
  obtain ⟨_, at_, J, _, _, hw, he⟩ := turn_inv hg ih hi hb
  refine ⟨_, hw.free, ?_⟩
  rw [run]
  show (turn bs n (run bs n i) (turnAt bs i)).2 = _
  rw [he]
  simp [hb]

/-- how many of the first i turns are b's -/
def turnsBy (bs : List Bk) (b : Nat) : Nat → Nat
  | 0 => 0
  | i + 1 => turnsBy bs b i + if turnAt bs i = b then 1 else 0

theorem count_set_free {t : List Int} {v : Nat} {x y : Int} (h : t[v]? = some (-1)) (hy : y ≠ -1) : (t.set v x).count y = t.count y + if x = y then 1 else 0 := by
  have hv : v < t.length := (List.getElem?_eq_some_iff.1 h).1
  have he : t[v] = -1 := by rw [List.getElem?_eq_getElem hv] at h; exact Option.some.inj h
  rw [List.count_set hv, he]
  have h1 : ((-1 : Int) == y) = false := by simpa using fun e => hy e.symm
  rw [h1]
  by_cases hxy : x = y
  · simp [hxy]
  · have : (x == y) = false := by simpa using hxy
    simp [hxy]

theorem run_count {bs : List Bk} {n : Nat} (hg : Good bs n) (hd : (bs.map Bk.id).Nodup) {b : Nat} (hb : b < bs.length) : ∀ i, i ≤ n → (run bs n i).2.count (bs[b]).id = turnsBy bs b i
  | 0, _ => by
    have hid := hg.id _ (List.getElem_mem hb)
    simp only [run, turnsBy]
    rw [List.count_replicate]
    have : ((-1 : Int) == (bs[b]).id) = false := by simpa using fun e => by omega
    simp [this]
  | i + 1, hi => by
    have ih := run_count hg hd hb i (by omega)
    obtain ⟨v, hv, he⟩ := run_succ hg (i := i) (by omega)
    have hid := hg.id _ (List.getElem_mem hb)
    have ht := turnAt_lt hg i
    rw [he, count_set_free hv (by omega), ih, turnsBy]
    congr 1
    rw [List.getElem?_eq_getElem ht]
    simp only [Option.map_some, Option.getD_some]
    by_cases e : turnAt bs i = b
    · rw [if_pos e, if_pos]
      subst e; rfl
    · rw [if_neg e, if_neg]
      intro h
      apply e
      have h1 : turnAt bs i < (bs.map Bk.id).length := by simpa using ht
      have h2 : b < (bs.map Bk.id).length := by simpa using hb
      exact (List.getElem_inj (h₀ := h1) (h₁ := h2) hd).1 (by simpa using h)

/-- each cell is free or some backend's -/
theorem run_cells {bs : List Bk} {n : Nat} (hg : Good bs n) : ∀ i, i ≤ n → ∀ x ∈ (run bs n i).2, x = -1 ∨ ∃ b ∈ bs, x = b.id
  | 0, _, x, hx => by
    simp only [run, List.mem_replicate] at hx
    exact .inl hx.2
  | i + 1, hi, x, hx => by
    obtain ⟨v, hv, he⟩ := run_succ hg (i := i) (by omega)
    rw [he] at hx
    rcases List.mem_or_eq_of_mem_set hx with hx | rfl
    · exact run_cells hg i (by omega) x hx
    · have ht := turnAt_lt hg i
      rw [List.getElem?_eq_getElem ht]
      exact .inr ⟨_, List.getElem_mem ht, rfl⟩
theorem run_full {bs : List Bk} {n : Nat} (hg : Good bs n) : ∀ x ∈ (run bs n n).2, ∃ b ∈ bs, x = b.id := by
  intro x hx
  have hf := (run_inv hg n (Nat.le_refl _)).free
  rw [Nat.sub_self] at hf
  rcases run_cells hg n (Nat.le_refl _) x hx with rfl | h
  · have : 0 < frees (run bs n n).2 := List.countP_pos_iff.2 ⟨-1, hx, by simp⟩
    omega
  · exact h
theorem tableB_length {bs : List Bk} {n : Nat} (hg : Good bs n) : (tableB bs n).length = n := (run_inv hg n (Nat.le_refl _)).len
theorem tableB_full {bs : List Bk} {n : Nat} (hg : Good bs n) : ∀ x ∈ tableB bs n, ∃ b ∈ bs, x = b.id := run_full hg
theorem tableB_count {bs : List Bk} {n : Nat} (hg : Good bs n) (hd : (bs.map Bk.id).Nodup) {b : Nat} (hb : b < bs.length) : (tableB bs n).count (bs[b]).id = turnsBy bs b n := run_count hg hd hb n (Nat.le_refl _)
end Go.Proofs.Ytaamflhleommlaa
