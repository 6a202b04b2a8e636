/- What the bound of an '..UptoSaid' gives of an argument's length. After the seat's UptoLemmas. -/
import Derived.Test.YtbimdogiollgkaaRows
import Derived.Test.YtbimdogiollgkaaOpen
namespace Go.Proofs.Ytbimdogiollgkaa
set_option linter.unusedVariables false
open Go.ChangeShapes Go.WideShapes Go.ChangeAt Go.RowKit
namespace bulks
theorem one_le {H : Type} (d : DataW H) : 1 ≤ Rows.uptoBulk d := by
  cases d with
  | lit l => cases l <;> simp [Rows.uptoBulk]
  | nil => simp [Rows.uptoBulk]
  | ptr d => simp [Rows.uptoBulk]
  | slice elems spare => simp [Rows.uptoBulk]
  | agg parts => simp [Rows.uptoBulk]
  | iface t d => simp [Rows.uptoBulk]
  | map entries => simp [Rows.uptoBulk]
  | held h => simp [Rows.uptoBulk]
theorem part_le {H : Type} {d : DataW H} {l : List (DataW H)} (h : d ∈ l) : Rows.uptoBulk d ≤ Rows.uptoBulkAll l := by
  induction l with
  | nil => cases h
  | cons x r ih =>
    simp only [Rows.uptoBulkAll]
    cases List.mem_cons.1 h with
    | inl e => subst e; omega
    | inr e => have := ih e; omega
theorem length_le {H : Type} (l : List (DataW H)) : l.length ≤ Rows.uptoBulkAll l := by
  induction l with
  | nil => simp [Rows.uptoBulkAll]
  | cons x r ih => have := one_le x; simp only [Rows.uptoBulkAll, List.length_cons]; omega
theorem slice_le {H : Type} (elems spare : List (DataW H)) : elems.length + spare.length + 1 ≤ Rows.uptoBulk (.slice elems spare) := by
  have h1 := length_le elems
  have h2 := length_le spare
  simp only [Rows.uptoBulk]
  omega
theorem bound {H : Type} {l : List (DataW H)} (hk : Rows.uptoSmall H l = true) : Rows.uptoBulkAll l ≤ 1048576 := of_decide_eq_true hk
theorem slice_at {H : Type} {ds : List (DataW H)} {j : Nat} {elems spare : List (DataW H)} (hk : Rows.uptoSmall H ds = true) (hd : ds[j]? = some (.slice elems spare)) : elems.length + spare.length ≤ 1048576 := by
  have h1 := part_le (List.mem_of_getElem? hd)
  have h2 := slice_le elems spare
  have h3 := bound hk
  omega
end bulks

section
variable {H : Type} {enc : TypeId × Value → H} {P : Program} {W : World} {t e : TypeId} {d : DataW H} {ps : List MemPlace}
theorem open_bytes_bulk {a : Option Addr} {n c j : Nat} {ds : List (DataW H)} (U : P.underlying t = some (.slice e)) (Ue : P.underlying e = some (.int .u8)) (hc : P.cellsOf e = 1)
    (hk : Rows.uptoSmall H ds = true) (hd : ds[j]? = some d) (h : DataW.Trod enc P W 0 (fun _ => true) true t (.slice a n c) d ps) : c ≤ 1048576 := by
  obtain ⟨fuel, hf⟩ := h
  rcases open_ints U Ue hc hf with ⟨hcs, _⟩ | ⟨x, l, c', zs, hcs, _, hl, hm, hzl, hx, hcell, hwz⟩
  · simp [Value.cells] at hcs
    omega
  · simp [Value.cells] at hcs
    obtain ⟨rfl, rfl, rfl⟩ := hcs
    simp only [if_true] at hzl
    simp only [Prod.mk.injEq] at hx
    obtain ⟨rfl, _⟩ := hx
    have := bulks.slice_at hk hd
    simp [lits] at this
    omega
end
end Go.Proofs.Ytbimdogiollgkaa
