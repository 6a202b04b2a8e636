/- Backends in a row of the call's own: append; lists of backends with rising numbers. -/
import Derived.Test.YtaamflhleommlaaPrimes
import Derived.Test.YtaamflhleommlaaFairB
namespace Go.Proofs.Ytaamflhleommlaa
set_option linter.unusedVariables false
set_option linter.unusedSimpArgs false
open Go.RowKit

theorem bks_append (l m : List Be) : bks (l ++ m) = bks l ++ bks m := by simp [bks]
theorem bks_one (l : List Be) : ∀ u ∈ bks l, u.oneCell' = true := by
  intro u hu
  obtain ⟨b, _, hb⟩ := List.mem_flatMap.1 hu
  simp [Be.cells] at hb
  rcases hb with rfl | rfl | rfl <;> rfl
theorem infoBe : (Try.prog.info? 27).map (fun i => (i.zero, i.size, i.bytes)) = some (some (.agg #[.int .i64 0, .int .u32 0, .int .i64 0]), 3, 24) := by kernel_rfl

theorem wpList_append_be {w : World} {ops : Array Oper} {rest : List Oper} {o : Oper} {a : Act} {Q : Exit → Act → World → Prop} (hw : Region.wanted o (yielded ops a.tmps) = true) (s x : Operand)
    (ho : o.op = .call { callee := .builtin .append, args := #[s, x], argTypes := #[23, 23] })
    (base : Nat) (v : Value) (n : Nat) (l : List Be) (hs : a.eval s = v) (hown : w.ownsRow base 27 3 v n (bks l))
    (B : Nat) (A : Option Addr) (m c : Nat) (news : List Be) (hx : a.eval x = .slice A m c) (hr : Reads w B 3 A m (bks news))
    (k : Nat) (hk : n + m = k) (hbytes : k ≤ 1099511627776) (hbase : base ≤ w.heap.size)
    (h : ∀ A' c' w', w'.ownsRow base 27 3 (.slice A' k c') k (bks (l ++ news)) → Below base w w' → w.grownBy w' v.ownBlock → ((Value.slice A' k c').ownBlock = v.ownBlock ∨ (Value.slice A' k c').ownBlock = some w.heap.size) → wpList Try.prog ops Q rest (a.put o.dst (.slice A' k c')) w') :
    wpList Try.prog ops Q (o :: rest) a w := by
  subst hk
  obtain ⟨i0, hi0, hz0, hz1, hz2⟩ := info_parts infoBe
  refine wpList_append_want w hw s x 23 ho base 27 i0 _ 3 24 Try.underlying23 hi0 hz0 hz1 hz2 rfl (by omega) v n (bks l) hs hown B A m c (bks news) hx hr (bks_one _) (by unfold maxLen; omega) (by omega) hbase ?_
  intro v' w' h1 h2 h3
  obtain ⟨A', c', rfl⟩ := own_slice h1
  rw [← bks_append] at h1
  exact h A' c' w' h1 ((Below.refl _ _).grown h2 hbase (fun k hk => (hown.lt k hk).1)) h2 h3

/-- rising numbers, weights that may be -/
def Rising (l : List Be) : Prop := BesOk l ∧ ∀ j, j < l.length → okAt l j
def lastOf (l : List Be) : Int := (l.getLast?.map Be.id).getD (-1)
theorem lastOf_nil : lastOf [] = -1 := rfl
theorem lastOf_snoc (l : List Be) (b : Be) : lastOf (l ++ [b]) = b.id := by simp [lastOf]
theorem Rising.nil : Rising [] := ⟨fun b hb => absurd hb (by simp), fun j hj => absurd hj (by simp)⟩
theorem Rising.snoc {l : List Be} (h : Rising l) {b : Be} (h1 : lastOf l < b.id) (h2 : b.id ≤ 65535) (h0 : 0 ≤ b.id) (hw1 : 1 ≤ b.weight) (hw : b.weight ≤ 10) (ha : b.addr < 4294967296) : Rising (l ++ [b]) := by
  refine ⟨?_, ?_⟩
  · intro x hx
    rcases List.mem_append.1 hx with hx | hx
    · exact h.1 x hx
    · rw [List.mem_singleton.1 hx]
      exact ⟨⟨by omega, by omega⟩, ha, ⟨by omega, by omega⟩⟩
  · intro j hj
    by_cases e : j < l.length
    · obtain ⟨hl, a1, a2, a3, a4, a5⟩ := h.2 j e
      have g : (l ++ [b])[j]'hj = l[j] := List.getElem_append_left e
      refine ⟨hj, by rw [g]; exact a1, by rw [g]; exact a2, by rw [g]; exact a3, by rw [g]; exact a4, fun h0 => ?_⟩
      have g' : (l ++ [b])[j - 1]'(by omega) = l[j - 1]'(by omega) := List.getElem_append_left (by omega)
      rw [g, g']
      exact a5 h0
    · have hj' : j = l.length := by simp at hj; omega
      subst hj'
      have g : (l ++ [b])[l.length]'hj = b := by simp
      refine ⟨hj, by rw [g]; exact h0, by rw [g]; exact h2, by rw [g]; exact hw1, by rw [g]; exact hw, fun hp => ?_⟩
      have g' : (l ++ [b])[l.length - 1]'(by omega) = l[l.length - 1]'(by omega) := List.getElem_append_left (by omega)
      rw [g, g']
      have : lastOf l = (l[l.length - 1]'(by omega)).id := by
        unfold lastOf
        rw [List.getLast?_eq_getElem?, List.getElem?_eq_getElem (by omega)]
        rfl
      rw [← this]
      exact h1
theorem Rising.may {l : List Be} (h : Rising l) (h0 : 0 < l.length) (h16 : l.length ≤ 16) : MayB l.length l := ⟨h0, h16, h.2⟩

theorem rising_lt {l : List Be} (h : ∀ j, j < l.length → okAt l j) : ∀ (i j : Nat) (hi : i < l.length) (hj : j < l.length), i < j → l[i].id < l[j].id
  | i, 0, hi, hj, hij => by omega
  | i, j + 1, hi, hj, hij => by
    obtain ⟨_, _, _, _, _, h5⟩ := h (j + 1) hj
    have h5 := h5 (by omega)
    rw [show (l[j + 1 - 1]'(by omega)) = l[j]'(by omega) from rfl] at h5
    rcases Nat.lt_or_ge i j with hlt | hge
    · have := rising_lt h i j hi (by omega) hlt
      omega
    · have : i = j := by omega
      subst this
      exact h5
theorem rising_nodup {n : Nat} {l : List Be} (h : ∀ j, j < l.length → okAt l j) : ((l.map (bkOf n)).map Bk.id).Nodup := by
  rw [List.map_map]
  have : (Bk.id ∘ bkOf n) = Be.id := rfl
  rw [this, List.nodup_iff_pairwise_ne, List.pairwise_iff_getElem]
  intro i j hi hj hij
  have := rising_lt h i j (by simpa using hi) (by simpa using hj) hij
  simp only [List.getElem_map]
  omega
end Go.Proofs.Ytaamflhleommlaa
