/- Plain laws of a table without a backend; append of backends as a step of a region that draws. -/
import Derived.Test.YtaamflhleommlaaMayBs
namespace Go.Proofs.Ytaamflhleommlaa
set_option linter.unusedVariables false
set_option linter.unusedSimpArgs false
open Go.RowKit

theorem step_append_be {w : World} {ops : Array Oper} {o : Oper} {a : Act} {K : Act → World → Prop} {Q : Exit → Act → World → Prop} {E : Prop} (hw : Region.wanted o (yielded ops a.tmps) = true) (s x : Operand)
    (ho : o.op = .call { callee := .builtin .append, args := #[s, x], argTypes := #[23, 23] })
    (base : Nat) (v : Value) (n : Nat) (l : List Be) (hs : a.eval s = v) (hown : w.ownsRow base 27 3 v n (bks l))
    (B : Nat) (A : Option Addr) (m c : Nat) (news : List Be) (hx : a.eval x = .slice A m c) (hr : Reads w B 3 A m (bks news))
    (k : Nat) (hk : n + m = k) (hbytes : k ≤ 1099511627776) (hbase : base ≤ w.heap.size)
    (h : ∀ A' c' w', w'.ownsRow base 27 3 (.slice A' k c') k (bks (l ++ news)) → Below base w w' → w.grownBy w' v.ownBlock → ((Value.slice A' k c').ownBlock = v.ownBlock ∨ (Value.slice A' k c').ownBlock = some w.heap.size) → K (a.put o.dst (.slice A' k c')) w') :
    if Region.wanted o (yielded ops a.tmps) = true then Oper.wp Try.prog o a w K Q else E := by
  subst hk
  obtain ⟨i0, hi0, hz0, hz1, hz2⟩ := info_parts infoBe
  rw [if_pos hw]
  refine wp_append_any w s x 23 ho base 27 i0 _ 3 24 Try.underlying23 hi0 hz0 hz1 hz2 rfl (by omega) v n (bks l) hs hown B A m c (bks news) hx hr (bks_one _) (by unfold maxLen; omega) (by omega) hbase ?_
  intro v' w' h1 h2 h3
  obtain ⟨A', c', rfl⟩ := own_slice h1
  rw [← bks_append] at h1
  exact h A' c' w' h1 ((Below.refl _ _).grown h2 hbase (fun k hk => (hown.lt k hk).1)) h2 h3

theorem bks_take (l : List Be) (k : Nat) (hk : k ≤ l.length) : (bks l).take (k * 3) = bks (l.take k) := by
  have e : bks l = bks (l.take k) ++ bks (l.drop k) := by rw [← bks_append, List.take_append_drop]
  rw [e, List.take_left' (by rw [bks_length, List.length_take]; omega)]
theorem bks_drop (l : List Be) (k : Nat) (hk : k ≤ l.length) : (bks l).drop (k * 3) = bks (l.drop k) := by
  have e : bks l = bks (l.take k) ++ bks (l.drop k) := by rw [← bks_append, List.take_append_drop]
  rw [e, List.drop_left' (by rw [bks_length, List.length_take]; omega)]
theorem Reads.take3 {w : World} {B : Nat} {A : Option Addr} {n k : Nat} {l : List Be} (h : Reads w B 3 A n (bks l)) (hk : k ≤ n) : Reads w B 3 A k (bks (l.take k)) := by
  have hl := h.be_length
  rw [← bks_take l k (by omega)]
  refine ⟨by rw [List.length_take, bks_length]; omega, fun hn => ?_⟩
  obtain ⟨ad, rfl, hb, hc⟩ := h.2 (by omega)
  refine ⟨ad, rfl, hb, fun j u hu => hc j u ?_⟩
  have hj : j < k * 3 := by
    have := (List.getElem?_eq_some_iff.1 hu).1
    rw [List.length_take] at this
    omega
  rwa [List.getElem?_take_of_lt hj] at hu

/-- without the k-th -/
def lessK (l : List Be) (k : Nat) : List Be := l.take k ++ l.drop (k + 1)
theorem lessK_length {l : List Be} {k : Nat} (h : k < l.length) : (lessK l k).length = l.length - 1 := by
  unfold lessK; rw [List.length_append, List.length_take, List.length_drop]; omega
theorem lessK_get {l : List Be} {k j : Nat} (hk : k < l.length) (hj : j < (lessK l k).length) : ∃ (i : Nat) (hi : i < l.length), (lessK l k)[j] = l[i] ∧ i = if j < k then j else j + 1 := by
  have hl := lessK_length hk
  by_cases h : j < k
  · refine ⟨j, by omega, ?_, by rw [if_pos h]⟩
    have e : (lessK l k)[j]? = l[j]? := by
      unfold lessK
      rw [List.getElem?_append_left (by rw [List.length_take]; omega), List.getElem?_take_of_lt h]
    rw [List.getElem?_eq_getElem hj, List.getElem?_eq_getElem (show j < l.length by omega)] at e
    exact Option.some.inj e
  · refine ⟨j + 1, by omega, ?_, by rw [if_neg h]⟩
    have e : (lessK l k)[j]? = l[j + 1]? := by
      unfold lessK
      rw [List.getElem?_append_right (by rw [List.length_take]; omega), List.getElem?_drop, List.length_take]
      congr 1
      omega
    rw [List.getElem?_eq_getElem hj, List.getElem?_eq_getElem (show j + 1 < l.length by omega)] at e
    exact Option.some.inj e
theorem lessK_ok {l : List Be} {k : Nat} (hk : k < l.length) (h : ∀ j, j < l.length → okAt l j) : ∀ j, j < (lessK l k).length → okAt (lessK l k) j := by
  intro j hj
  obtain ⟨i, hi, he, hij⟩ := lessK_get hk hj
  obtain ⟨_, a1, a2, a3, a4, _⟩ := h i hi
  refine ⟨hj, by rw [he]; exact a1, by rw [he]; exact a2, by rw [he]; exact a3, by rw [he]; exact a4, fun h0 => ?_⟩
  obtain ⟨i', hi', he', hij'⟩ := lessK_get hk (j := j - 1) (by omega)
  rw [he, he']
  refine rising_lt h i' i hi' hi ?_
  split at hij <;> split at hij' <;> omega
theorem lessK_ids {l : List Be} {k : Nat} (hk : k < l.length) (h : ∀ j, j < l.length → okAt l j) : ∀ b ∈ lessK l k, b.id ≠ l[k].id := by
  intro b hb
  obtain ⟨j, hj, rfl⟩ := List.getElem_of_mem hb
  obtain ⟨i, hi, he, hij⟩ := lessK_get hk hj
  rw [he]
  have hne : i ≠ k := by split at hij <;> omega
  rcases Nat.lt_or_ge i k with h1 | h1
  · have := rising_lt h i k hi hk h1; omega
  · have := rising_lt h k i hk hi (by omega); omega
theorem lessK_bes {l : List Be} {k : Nat} (h : BesOk l) : BesOk (lessK l k) := by
  intro b hb
  rcases List.mem_append.1 hb with h1 | h1
  · exact h b (List.mem_of_mem_take h1)
  · exact h b (List.mem_of_mem_drop h1)

/-- the table without the k-th: its slots are others' -/
theorem less_table {l : List Be} {k s : Nat} (hm : mayN s = true) (hk : k < l.length) (h16 : l.length ≤ 16) (h : ∀ j, j < l.length → okAt l j) :
    (tableF (lessK l k) s).length = s ∧ ∀ x ∈ tableF (lessK l k) s, x ≠ l[k].id ∧ (x < 0 ↔ l.length = 1) ∧ -1 ≤ x ∧ x ≤ 65535 := by
  obtain ⟨_, g1, g2, _⟩ := h k hk
  have hl := lessK_length hk
  by_cases h1 : l.length = 1
  · have hno : ¬ MayB (lessK l k).length (lessK l k) := fun hh => by have := hh.1; omega
    rw [tableF_no hno]
    refine ⟨by simp, fun x hx => ?_⟩
    rw [(List.mem_replicate.1 hx).2]
    exact ⟨by omega, by simp [h1], by omega, by omega⟩
  · have hmay : MayB (lessK l k).length (lessK l k) := ⟨by omega, by omega, lessK_ok hk h⟩
    have hg := good_of hm hmay
    rw [tableF_yes hmay]
    refine ⟨tableB_length hg, fun x hx => ?_⟩
    obtain ⟨b, hb, e⟩ := tableB_full hg x hx
    obtain ⟨y, hy, rfl⟩ := List.mem_map.1 hb
    have hyid := lessK_ids hk h y hy
    obtain ⟨j, hj, rfl⟩ := List.getElem_of_mem hy
    obtain ⟨_, c1, c2, _⟩ := lessK_ok hk h j hj
    have hid : x = (lessK l k)[j].id := e
    exact ⟨by rw [hid]; exact hyid, by rw [hid]; omega, by rw [hid]; omega, by rw [hid]; omega⟩
theorem all_table {l : List Be} {s : Nat} (hm : mayN s = true) (h0 : 0 < l.length) (h16 : l.length ≤ 16) (h : ∀ j, j < l.length → okAt l j) :
    (tableF l s).length = s ∧ ∀ x ∈ tableF l s, 0 ≤ x ∧ x ≤ 65535 := by
  have hmay : MayB l.length l := ⟨h0, h16, h⟩
  have hg := good_of hm hmay
  rw [tableF_yes hmay]
  refine ⟨tableB_length hg, fun x hx => ?_⟩
  obtain ⟨b, hb, e⟩ := tableB_full hg x hx
  obtain ⟨y, hy, rfl⟩ := List.mem_map.1 hb
  obtain ⟨j, hj, rfl⟩ := List.getElem_of_mem hy
  obtain ⟨_, c1, c2, _⟩ := h j hj
  have hid : x = l[j].id := e
  exact ⟨by rw [hid]; exact c1, by rw [hid]; exact c2⟩
theorem count_diff {a b : List Int} {x : Int} (hl : a.length = b.length) (h : ∀ y ∈ b, y ≠ x) : ∀ k, k ≤ a.length → (a.take k).count x ≤ diffK a b k
  | 0, _ => by simp [diffK]
  | k + 1, hk => by
    have ih := count_diff hl h k (by omega)
    have e := take_getD a k (by omega)
    have hb : b.getD k 0 ≠ x := by
      have : b.getD k 0 = b[k]'(by omega) := by simp [show k < b.length by omega]
      rw [this]
      exact h _ (List.getElem_mem _)
    rw [e, List.count_append, List.count_singleton, diffK]
    generalize a.getD k 0 = u at *
    generalize b.getD k 0 = v at *
    by_cases hx : u = x
    · subst hx
      rw [if_pos (by simp), if_neg (fun h' => hb h'.symm)]
      omega
    · rw [if_neg (by simpa using hx)]
      split <;> omega
end Go.Proofs.Ytaamflhleommlaa
