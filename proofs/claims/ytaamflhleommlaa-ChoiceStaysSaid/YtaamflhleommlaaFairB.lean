/- The table shared out: the bounds. -/
import Derived.Test.YtaamflhleommlaaFair
import Derived.Test.YtaamflhleommlaaShares
namespace Go.Proofs.Ytaamflhleommlaa
set_option linter.unusedVariables false
set_option linter.unusedSimpArgs false
open Go.RowKit Go.Maps

theorem turnsOf_count : ∀ (bs : List Bk) (k j : Nat) (hj : j < bs.length), (turnsOf k bs).count (k + j) = (bs[j]).weight
  | b :: r, k, 0, _ => by
    simp only [turnsOf, List.count_append, Nat.add_zero, List.count_replicate, beq_self_eq_true, if_true, List.getElem_cons_zero]
    have : (turnsOf (k + 1) r).count k = 0 := List.count_eq_zero.2 fun h => by have := turnsOf_lt r (k + 1) k h; omega
    omega
  | b :: r, k, j + 1, hj => by
    have ih := turnsOf_count r (k + 1) j (by simpa using hj)
    simp only [turnsOf, List.count_append, List.count_replicate]
    have : (k == k + (j + 1)) = false := by simp
    rw [this, show k + (j + 1) = k + 1 + j from by omega, ih]
    simp
theorem takes_count {bs : List Bk} {b : Nat} (hb : b < bs.length) : (takes bs).count b = (bs[b]).weight := by
  have := turnsOf_count bs 0 b hb
  simpa [takes] using this
theorem takes_length : ∀ (bs : List Bk) (k : Nat), (turnsOf k bs).length = (bs.map Bk.weight).sum
  | [], _ => rfl
  | b :: r, k => by simp [turnsOf, takes_length r (k + 1)]

theorem turnsBy_eq {bs : List Bk} {n : Nat} (hg : Good bs n) (b : Nat) : ∀ i, turnsBy bs b i = i / (takes bs).length * (takes bs).count b + ((takes bs).take (i % (takes bs).length)).count b
  | 0 => by simp [turnsBy]
  | i + 1 => by
    have ih := turnsBy_eq hg b i
    have hl := takes_pos hg
    have hm : i % (takes bs).length < (takes bs).length := Nat.mod_lt _ hl
    have hT : turnAt bs i = (takes bs)[i % (takes bs).length] := by unfold turnAt; rw [List.getElem?_eq_getElem hm]; rfl
    have hdm := Nat.div_add_mod i (takes bs).length
    rw [turnsBy, ih, hT]
    have hstep : ((takes bs).take (i % (takes bs).length + 1)).count b = ((takes bs).take (i % (takes bs).length)).count b + if (takes bs)[i % (takes bs).length] = b then 1 else 0 := by
      rw [List.take_succ_eq_append_getElem hm, List.count_append, List.count_singleton]
      simp
    by_cases hend : i % (takes bs).length + 1 = (takes bs).length
    · have h1 : (i + 1) % (takes bs).length = 0 := by
        have : i + 1 = (takes bs).length * (i / (takes bs).length + 1) := by rw [Nat.mul_add]; omega
        rw [this]; exact Nat.mul_mod_right _ _
      have h2 : (i + 1) / (takes bs).length = i / (takes bs).length + 1 := by
        have : i + 1 = (takes bs).length * (i / (takes bs).length + 1) := by rw [Nat.mul_add]; omega
        rw [this, Nat.mul_div_cancel_left _ hl]
      rw [h1, h2, List.take_zero, List.count_nil, Nat.add_zero, Nat.add_mul, Nat.one_mul]
      have hall : ((takes bs).take (i % (takes bs).length + 1)).count b = (takes bs).count b := by rw [hend, List.take_length]
      omega
    · have hlt : i % (takes bs).length + 1 < (takes bs).length := by omega
      have e : i + 1 = (i % (takes bs).length + 1) + (takes bs).length * (i / (takes bs).length) := by omega
      have h1 : (i + 1) % (takes bs).length = i % (takes bs).length + 1 := by
        rw [e, Nat.add_mul_mod_self_left, Nat.mod_eq_of_lt hlt]
      have h2 : (i + 1) / (takes bs).length = i / (takes bs).length := by
        rw [e, Nat.add_mul_div_left _ _ hl, Nat.div_eq_of_lt hlt, Nat.zero_add]
      rw [h1, h2, hstep]
      omega

/-- none has more than its turns, none less than those of one round less -/
theorem turnsBy_bounds {bs : List Bk} {n : Nat} (hg : Good bs n) {b : Nat} (hb : b < bs.length) (i rounds : Nat) (hr : rounds = (i + (takes bs).length - 1) / (takes bs).length) :
    (rounds - 1) * (bs[b]).weight ≤ turnsBy bs b i ∧ turnsBy bs b i ≤ rounds * (bs[b]).weight := by
  have hl := takes_pos hg
  have hc := takes_count hb
  have he := turnsBy_eq hg b i
  have hle : ((takes bs).take (i % (takes bs).length)).count b ≤ (takes bs).count b := (List.take_sublist _ _).count_le _
  have hdm := Nat.div_add_mod i (takes bs).length
  have hmlt : i % (takes bs).length < (takes bs).length := Nat.mod_lt _ hl
  rw [hc] at he hle
  rw [he]
  have hzero : i % (takes bs).length = 0 → ((takes bs).take (i % (takes bs).length)).count b = 0 := fun h => by rw [h]; simp
  generalize ((takes bs).take (i % (takes bs).length)).count b = m at *
  generalize (bs[b]).weight = w at *
  generalize hL : (takes bs).length = L at *
  obtain ⟨q, hq⟩ : ∃ q, q = i / L := ⟨_, rfl⟩
  obtain ⟨r, hrr⟩ : ∃ r, r = i % L := ⟨_, rfl⟩
  rw [← hq, ← hrr] at hdm
  rw [← hrr] at hmlt hzero
  rw [← hq]
  rcases Nat.eq_zero_or_pos r with h0 | h0
  · have : rounds = q := by
      rw [hr, show i + L - 1 = (L - 1) + L * q from by omega, Nat.add_mul_div_left _ _ hl, Nat.div_eq_of_lt (by omega), Nat.zero_add]
    rw [this]
    have hm0 := hzero h0
    have : (q - 1) * w ≤ q * w := Nat.mul_le_mul_right _ (by omega)
    omega
  · have : rounds = q + 1 := by
      rw [hr, show i + L - 1 = (r - 1) + L * (q + 1) from by rw [Nat.mul_add]; omega, Nat.add_mul_div_left _ _ hl, Nat.div_eq_of_lt (by omega), Nat.zero_add]
    rw [this, Nat.add_sub_cancel, Nat.add_mul, Nat.one_mul]
    omega

/-- all turns are somebody's -/
def sumTo (f : Nat → Nat) : Nat → Nat
  | 0 => 0
  | k + 1 => sumTo f k + f k
theorem sumTo_add (f g : Nat → Nat) : ∀ k, sumTo (fun j => f j + g j) k = sumTo f k + sumTo g k
  | 0 => rfl
  | k + 1 => by simp only [sumTo, sumTo_add f g k]; omega
theorem sumTo_one (t : Nat) : ∀ k, sumTo (fun j => if t = j then 1 else 0) k = if t < k then 1 else 0
  | 0 => rfl
  | k + 1 => by
    simp only [sumTo, sumTo_one t k]
    by_cases h1 : t < k
    · rw [if_pos h1, if_neg (by omega), if_pos (by omega)]
    · by_cases h2 : t = k
      · rw [if_neg h1, if_pos h2, if_pos (by omega)]
      · rw [if_neg h1, if_neg h2, if_neg (by omega)]
theorem sumTo_zero : ∀ k, sumTo (fun _ => 0) k = 0
  | 0 => rfl
  | k + 1 => by simp only [sumTo, sumTo_zero k]
theorem turnsBy_sum {bs : List Bk} {n : Nat} (hg : Good bs n) : ∀ i, sumTo (fun j => turnsBy bs j i) bs.length = i
  | 0 => sumTo_zero _
  | i + 1 => by
    have ih := turnsBy_sum hg i
    have : (fun j => turnsBy bs j (i + 1)) = fun j => turnsBy bs j i + if turnAt bs i = j then 1 else 0 := by
      funext j
      rw [turnsBy]
    rw [this, sumTo_add, ih, sumTo_one, if_pos (turnAt_lt hg i)]

/-! ### how many different numbers -/
theorem countP_more {p q : Int → Bool} (h : ∀ x, p x = true → q x = true) {y : Int} (hp : p y = false) (hq : q y = true) : ∀ L : List Int, y ∈ L → L.countP p + 1 ≤ L.countP q
  | [], hy => by cases hy
  | z :: r, hy => by
    rw [List.countP_cons, List.countP_cons]
    by_cases e : y = z
    · subst e
      rw [hp, hq]
      have := List.countP_mono_left (l := r) (p := p) (q := q) fun x _ hx => h x hx
      simp
      omega
    · have ih := countP_more h hp hq r (by
        rcases List.mem_cons.1 hy with h' | h'
        · exact absurd h' e
        · exact h')
      by_cases hz : p z = true
      · rw [hz, h z hz]; omega
      · have : p z = false := by simpa using hz
        rw [this]
        simp
        omega
theorem shK_size (t : List Int) (L : List Int) (hL : ∀ x ∈ t, 0 ≤ x → x ∈ L) : ∀ k, k ≤ t.length → Maps.size (shK t k) ≤ L.countP fun x => decide (x ∈ t.take k)
  | 0, _ => by simp [shK, Maps.size]
  | k + 1, hk => by
    have ih := shK_size t L hL k (by omega)
    have e := take_getD t k (by omega)
    have hmono : ∀ x, decide (x ∈ t.take k) = true → decide (x ∈ t.take (k + 1)) = true := by
      intro x hx
      rw [decide_eq_true_eq] at hx ⊢
      rw [e]
      exact List.mem_append_left _ hx
    have hle : (L.countP fun x => decide (x ∈ t.take k)) ≤ L.countP fun x => decide (x ∈ t.take (k + 1)) := List.countP_mono_left fun x _ hx => hmono x hx
    unfold shK
    by_cases hy : 0 ≤ t.getD k 0
    · rw [if_pos hy, size_put (shK_tidy t k)]
      have hh := shK_has t _ hy k (by omega)
      by_cases hm : t.getD k 0 ∈ t.take k
      · rw [if_pos (hh.2 hm)]; omega
      · have hf : Maps.has (shK t k) (.int .i64 (t.getD k 0)) = false := by
          rw [Bool.eq_false_iff]; exact fun h => hm (hh.1 h)
        rw [hf]
        have hin : t.getD k 0 ∈ L := by
          apply hL _ _ hy
          have : t.getD k 0 = t[k]'(by omega) := by simp [show k < t.length by omega]
          rw [this]
          exact List.getElem_mem _
        have := countP_more hmono (y := t.getD k 0) (by simpa using hm) (by rw [decide_eq_true_eq, e]; exact List.mem_append_right _ (List.mem_singleton.2 rfl)) L hin
        simp only [Bool.false_eq_true, if_false]
        omega
    · rw [if_neg hy]; omega
theorem shK_none (t : List Int) (h : ∀ x ∈ t, x < 0) : ∀ k, k ≤ t.length → shK t k = .map []
  | 0, _ => rfl
  | k + 1, hk => by
    have : t.getD k 0 = t[k]'(by omega) := by simp [show k < t.length by omega]
    have hn := h _ (List.getElem_mem (l := t) (n := k) (by omega))
    rw [shK, if_neg (by omega), shK_none t h k (by omega)]
end Go.Proofs.Ytaamflhleommlaa
