/- The table of a list of backends: plain. -/
import Derived.Test.YtaamflhleommlaaMagPlain
import Derived.Test.YtaamflhleommlaaMay
import Derived.Test.YtaamflhleommlaaBacks
namespace Go.Proofs.Ytaamflhleommlaa
set_option linter.unusedVariables false
set_option linter.unusedSimpArgs false
open Go.RowKit

def bkOf (n : Nat) (b : Be) : Bk := { id := b.id, weight := b.weight.toNat, off := rowOff b.id n, skip := rowSkip b.id n }

theorem may_coprime {n s : Nat} (hm : mayN n = true) (h1 : 1 ≤ s) (hs : s < n) : Nat.gcd n s = 1 := by
  have hmm := hm
  unfold mayN at hm
  simp only [Bool.and_eq_true, decide_eq_true_eq] at hm
  obtain ⟨⟨h3, h251⟩, _⟩ := hm
  have hdn : Nat.gcd n s ∣ n := Nat.gcd_dvd_left n s
  have hds : Nat.gcd n s ∣ s := Nat.gcd_dvd_right n s
  have hpos : 0 < Nat.gcd n s := Nat.gcd_pos_of_pos_left _ (by omega)
  have hle : Nat.gcd n s ≤ s := Nat.le_of_dvd (by omega) hds
  generalize Nat.gcd n s = d at *
  rcases Nat.lt_or_ge d 2 with h | h2
  · omega
  · exfalso
    obtain ⟨e, he⟩ := hdn
    by_cases hdd : d * d ≤ n
    · have := mayN_false h251 h2 hdd (by rw [he]; exact Nat.mul_mod_right d e)
      rw [this] at hmm; cases hmm
    · have hed : e < d := by
        rcases Nat.lt_or_ge e d with h | h
        · exact h
        · have := Nat.mul_le_mul_left d h; omega
      have he2 : 2 ≤ e := by
        rcases e with _ | _ | e
        · simp at he; omega
        · simp at he; omega
        · omega
      have hee : e * e ≤ n := by rw [he]; exact Nat.mul_le_mul_right e (by omega)
      have := mayN_false h251 he2 hee (by rw [he, Nat.mul_comm]; exact Nat.mul_mod_right e d)
      rw [this] at hmm; cases hmm

theorem may_bounds {n : Nat} (hm : mayN n = true) : 3 ≤ n ∧ n ≤ 251 := by
  unfold mayN at hm
  simp only [Bool.and_eq_true, decide_eq_true_eq] at hm
  exact hm.1

theorem good_of {n : Nat} {l : List Be} (hm : mayN n = true) (h : MayB l.length l) : Good (l.map (bkOf n)) n := by
  obtain ⟨h3, h251⟩ := may_bounds hm
  have hok : ∀ b ∈ l, 0 ≤ b.id ∧ 1 ≤ b.weight := by
    intro b hb
    obtain ⟨j, hj, rfl⟩ := List.getElem_of_mem hb
    obtain ⟨_, h1, _, h2, _⟩ := h.2.2 j hj
    exact ⟨h1, h2⟩
  refine ⟨by omega, ?_, ?_, ?_, ?_, ?_⟩
  · intro b hb
    obtain ⟨x, hx, rfl⟩ := List.mem_map.1 hb
    exact Nat.mod_lt _ (by omega)
  · intro b hb
    obtain ⟨x, hx, rfl⟩ := List.mem_map.1 hb
    refine may_coprime hm (by show 1 ≤ rowSkip x.id n; unfold rowSkip; omega) ?_
    show rowSkip x.id n < n
    have : mixN 2 (idB x.id) % (n - 1) < n - 1 := Nat.mod_lt _ (by omega)
    unfold rowSkip
    omega
  · intro b hb
    obtain ⟨x, hx, rfl⟩ := List.mem_map.1 hb
    exact (hok x hx).1
  · intro b hb
    obtain ⟨x, hx, rfl⟩ := List.mem_map.1 hb
    have := (hok x hx).2
    show 0 < x.weight.toNat
    omega
  · intro e
    have := h.1
    simp at e
    subst e
    simp at this

open Classical in
noncomputable def tableF (l : List Be) (n : Nat) : List Int := if MayB l.length l then tableB (l.map (bkOf n)) n else List.replicate n (-1)
theorem tableF_yes {l : List Be} {n : Nat} (h : MayB l.length l) : tableF l n = tableB (l.map (bkOf n)) n := by unfold tableF; rw [if_pos h]
theorem tableF_no {l : List Be} {n : Nat} (h : ¬ MayB l.length l) : tableF l n = List.replicate n (-1) := by unfold tableF; rw [if_neg h]

theorem turnsOf_snoc : ∀ (bs : List Bk) (b : Bk) (k : Nat), turnsOf k (bs ++ [b]) = turnsOf k bs ++ List.replicate b.weight (k + bs.length)
  | [], b, k => by simp [turnsOf]
  | x :: r, b, k => by
    simp only [List.cons_append, turnsOf]
    rw [turnsOf_snoc r b (k + 1), List.append_assoc]
    congr 3
    simp
    omega
end Go.Proofs.Ytaamflhleommlaa
