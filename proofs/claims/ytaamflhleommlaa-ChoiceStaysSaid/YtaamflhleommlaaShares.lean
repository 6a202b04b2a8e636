/- How often each number stands in a table: the plain map, and the walk of maglev.Shares. -/
import Derived.Test.YtaamflhleommlaaNext
import Derived.Maps.OwnSet
import Derived.Deep.LoopGhost
namespace Go.Proofs.Ytaamflhleommlaa
set_option linter.unusedVariables false
set_option linter.unusedSimpArgs false
open Go.RowKit Go.Maps

/-- the map behind k places -/
def shK (t : List Int) : Nat → DataW Unit
  | 0 => .map []
  | k + 1 => if 0 ≤ t.getD k 0 then (shK t k).put (.int .i64 (t.getD k 0)) (.lit (.int .i64 (((t.take (k + 1)).count (t.getD k 0) : Nat) : Int))) else shK t k

theorem shK_isMap (t : List Int) : ∀ k, IsMap (shK t k)
  | 0 => isMap_empty
  | k + 1 => by
    unfold shK
    split
    · exact (shK_isMap t k).put _ _
    · exact shK_isMap t k
theorem isKey_i64 (x : Int) : WideAt.IsKeyLit (.int .i64 x) := by trivial
theorem shK_tidy (t : List Int) : ∀ k, Tidy (shK t k)
  | 0 => tidy_empty
  | k + 1 => by
    unfold shK
    split
    · exact (shK_tidy t k).put (isKey_i64 _) _
    · exact shK_tidy t k
theorem lit_ne {x y : Int} (h : x ≠ y) : Lit.int .i64 x ≠ Lit.int .i64 y := fun e => h (by injection e)
theorem take_getD (t : List Int) (k : Nat) (hk : k < t.length) : t.take (k + 1) = t.take k ++ [t.getD k 0] := by
  rw [List.take_succ_eq_append_getElem hk]
  simp [hk]
theorem shK_at (t : List Int) (x : Int) (hx : 0 ≤ x) : ∀ k, k ≤ t.length → (shK t k).atKey (.int .i64 x) (.lit (.int .i64 0)) = .lit (.int .i64 (((t.take k).count x : Nat) : Int))
  | 0, _ => rfl
  | k + 1, hk => by
    have ih := shK_at t x hx k (by omega)
    have e := take_getD t k (by omega)
    unfold shK
    by_cases hy : 0 ≤ t.getD k 0
    · rw [if_pos hy]
      by_cases hxy : x = t.getD k 0
      · rw [hxy, atKey_put_same (shK_isMap t k) (isKey_i64 _)]
      · rw [atKey_put_other (lit_ne hxy), ih, e, List.count_append, List.count_singleton, if_neg (by simpa using fun h => hxy h.symm), Nat.add_zero]
    · have hne : (t.getD k 0 == x) = false := by
        have : t.getD k 0 ≠ x := by omega
        generalize t.getD k 0 = y at *
        simpa using this
      rw [if_neg hy, ih, e, List.count_append, List.count_singleton, hne]
      simp
theorem shK_has (t : List Int) (x : Int) (hx : 0 ≤ x) : ∀ k, k ≤ t.length → (Maps.has (shK t k) (.int .i64 x) = true ↔ x ∈ t.take k)
  | 0, _ => by simp [shK, Maps.has]
  | k + 1, hk => by
    have ih := shK_has t x hx k (by omega)
    have e := take_getD t k (by omega)
    unfold shK
    rw [e, List.mem_append, List.mem_singleton]
    by_cases hy : 0 ≤ t.getD k 0
    · rw [if_pos hy]
      by_cases hxy : x = t.getD k 0
      · rw [hxy, has_put_same (shK_isMap t k) (isKey_i64 _)]
        simp
      · rw [has_put_other (lit_ne hxy), ih]
        exact ⟨.inl, fun h => h.resolve_right hxy⟩
    · rw [if_neg hy, ih]
      have : x ≠ t.getD k 0 := by omega
      exact ⟨.inl, fun h => h.resolve_right this⟩

theorem infoM : Try.prog.underlying 30 = some (.map 3 3) := Try.underlying30
theorem lawI : Keyed Try.prog 3 := int_keyed Try.underlying3
theorem zeroI (w : World) : (zeroValue 3).run Try.prog w = .ok (.int .i64 0) w := by kernel_rfl
theorem wf_of {x : Int} (h : -9223372036854775808 ≤ x ∧ x ≤ 9223372036854775807) : (Lit.int .i64 x).wf = true := by
  simpa [Lit.wf, IntKind.min, IntKind.max, IntKind.signed, IntKind.bits] using h

def IntsOk (t : List Int) : Prop := ∀ x ∈ t, -9223372036854775808 ≤ x ∧ x ≤ 9223372036854775807

theorem Reads.int_ {w : World} {B n : Nat} {A : Option Addr} {l : List Int} (h : Reads w B 1 A n (iv l)) {j : Nat} (hj : j < n) :
    ∃ (b off : Nat) (hl : j < l.length), A = some ⟨b, off, none⟩ ∧ w.cell? ⟨b, off + j, none⟩ = some (.int .i64 l[j]) := by
  obtain ⟨b, off, ha, _, hc⟩ := h.plain (by omega) (by omega)
  have hl : j < l.length := by have := h.1; rw [iv_length] at this; omega
  exact ⟨b, off, hl, ha, hc _ _ (iv_get hl)⟩
theorem Reads.int_length {w : World} {B n : Nat} {A : Option Addr} {l : List Int} (h : Reads w B 1 A n (iv l)) : l.length = n := by have := h.1; rw [iv_length] at this; omega

theorem ownsMap_below {w w' : World} {P : Program} {k : TypeId} {R : Value → Option (DataW Unit × List MemPlace)} {b n : Nat} {D : DataW Unit} (h : w.ownsMap P k R b n D) (hb : Below w.heap.size w w') : w'.ownsMap P k R b n D := by
  obtain ⟨es, clock, h1, h2⟩ := h
  refine ⟨es, clock, ?_, h2⟩
  have hlt : b < w.heap.size := (Array.getElem?_eq_some_iff.1 h1).1
  exact (hb.block b hlt).trans h1

set_option maxRecDepth 100000 in
theorem shares_any (A : Option Addr) (n c B : Nat) (t : List Int) (w : World) (hr : Reads w B 1 A n (iv t)) (hB : B ≤ w.heap.size) (hok : IntsOk t) (hn : n ≤ 140737488355328) :
    Calls Try.prog 11 #[.slice A n c] w fun e w' => e = .returned (.map (some w.heap.size)) ∧ w'.ownsMap Try.prog 3 (plainElem Try.prog 3) w.heap.size n (shK t n) ∧ Below w.heap.size w w' := by
  have hlen := hr.int_length
  have hmm := @run_makeMap Try.prog
  go_enter Try.func11, Try.ntmps11
  go_wp2
  go_loopw [9] (fun i wr => ∃ k : Nat, k ≤ n ∧ i = .int .i64 (k : Int) ∧ wr.ownsMap Try.prog 3 (plainElem Try.prog 3) w.heap.size k (shK t k) ∧ Below w.heap.size w wr) (fun i _ => n - (intOf i).toNat)
  case atStart => exact ⟨0, Nat.zero_le _, rfl, World.ownsMap_made _ _ _ _, (Below.refl _ _).alloc (Nat.le_refl _) _⟩
  case round =>
    obtain ⟨k, hk, rfl, hown, hnx⟩ := hrel
    by_cases hkn : k < n
    · obtain ⟨b, off, hl, rfl, hc⟩ := (hr.below (hnx.mono hB)).int_ hkn
      have hx := hok _ (List.getElem_mem hl)
      have hgd : t.getD k 0 = t[k] := by simp [hl]
      have hcount : Hid ((t.take (k + 1)).count (t.getD k 0) = (t.take k).count (t.getD k 0) + 1) := by
        show _ = _
        rw [take_getD t k hl, List.count_append]; simp
      have hle : Hid ((t.take k).count (t.getD k 0) ≤ k) := by
        show _ ≤ _
        have := List.count_le_length (a := t.getD k 0) (l := t.take k)
        rw [List.length_take] at this
        omega
      have hsat : Hid (0 ≤ t.getD k 0 → (shK t k).atKey (.int .i64 (t.getD k 0)) (.lit (.int .i64 0)) = .lit (.int .i64 (((t.take k).count (t.getD k 0) : Nat) : Int))) := fun h => shK_at t _ h k (by omega)
      have hyes : Hid (0 ≤ t.getD k 0 → shK t (k + 1) = (shK t k).put (.int .i64 (t.getD k 0)) (.lit (.int .i64 (((t.take (k + 1)).count (t.getD k 0) : Nat) : Int)))) := fun h => by
        show _ = _
        rw [shK, if_pos h]
      have hno : Hid (¬ 0 ≤ t.getD k 0 → shK t (k + 1) = shK t k) := fun h => by rw [shK, if_neg h]
      rw [hgd] at hcount hle hsat hyes hno
      generalize t[k] = x at *
      rw [hcount.out] at hyes
      generalize (t.take k).count x = q at *
      clear hcount hgd hl
      have hle := hle.out
      by_cases hx0 : 0 ≤ x
      · have hkey : keyOf Try.prog 3 (.int .i64 x) = some (.int .i64 x) := keyOf_int_mk Try.underlying3 (wf_of hx)
        go_wp2_with (first
          | (at_lookup; refine wpList_lookup_own_int _ rfl _ _ 30 rfl 3 3 .i64 lawI infoM Try.underlying3 (zeroI _) w.heap.size k _ rfl hown _ _ rfl hkey ?_; intro c' hat hwc; obtain rfl : c' = (q : Int) := (by have h1 := hat.symm.trans (hsat.out hx0); injection h1 with h2; injection h2))
          | (at_mapUpdate; refine wpList_mapUpdate_own _ rfl _ _ _ 30 rfl 3 3 lawI infoM _ w.heap.size k _ rfl hown (by unfold maxLen; omega) _ _ _ rfl rfl hkey _ [] (plainElem_int Try.underlying3 (wf_of (by omega))) ?_; intro w1 hown1 hgrow1))
        go_roundw
        case rel =>
          refine ⟨k + 1, by omega, by go_num, ?_, hnx.grown hgrow1 hnx.size (fun j hj => by cases hj; exact Nat.le_refl _)⟩
          rw [hyes.out hx0]
          exact hown1
        case measure => simp [intOf]; omega
      · go_wp2
        go_roundw
        case rel =>
          refine ⟨k + 1, by omega, by go_num, ?_, hnx⟩
          rw [hno.out hx0]
          exact hown.mono (by omega)
        case measure => simp [intOf]; omega
    · have hkk : k = n := by omega
      have hfin : wr.ownsMap Try.prog 3 (plainElem Try.prog 3) w.heap.size n (shK t n) := by rw [← hkk]; exact hown
      clear hown
      go_wp2
      go_ret
      exact ⟨rfl, hfin, hnx⟩
end Go.Proofs.Ytaamflhleommlaa
