/- Opening a law's argument of type []int. -/
import Derived.Test.YtaamflhleommlaaOpen
import Derived.Test.YtaamflhleommlaaShares
namespace Go.Proofs.Ytaamflhleommlaa
set_option linter.unusedVariables false
set_option linter.unusedSimpArgs false
open Go.ChangeShapes Go.WideShapes Go.ChangeAt Go.RowKit

structure IntsIn (w : World) (a : Option Addr) (n c : Nat) (l : List Int) : Prop where
  ok : IntsOk l
  le : n ≤ c
  reach : c * 8 ≤ 140737488351232
  reads : Reads w w.heap.size 1 a n (iv l)

theorem open_ints_in {H : Type} {enc : TypeId × Value → H} {P : Program} {W : World} {t e : TypeId} {d : DataW H} {ps : List MemPlace} {a : Option Addr} {n c j : Nat} {ts : List TypeId} {ds : List (DataW H)}
    (U : P.underlying t = some (.slice e)) (Ue : P.underlying e = some (.int .i64)) (hc : P.cellsOf e = 1) (hb : P.bytesOf e = 8)
    (hz : (DataW.weightsEach P ts ds).all (· ≤ reachBytes) = true) (ht : ts[j]? = some t) (hd : ds[j]? = some d)
    (h : DataW.Trod enc P W 0 (fun _ => true) true t (.slice a n c) d ps) : ∃ l : List Int, IntsIn W a n c l := by
  have hlt := trod_lt' h
  obtain ⟨fuel, hf⟩ := h
  rcases open_ints U Ue hc hf with ⟨hcs, _⟩ | ⟨x, l, c', zs, hcs, _, hl, hm, hzl, hx, hcell, hwz⟩
  · simp [Value.cells] at hcs
    obtain ⟨rfl, rfl, rfl⟩ := hcs
    exact ⟨[], (by intro x hx; cases hx), Nat.le_refl _, by decide, Reads.none_⟩
  · simp [Value.cells] at hcs
    obtain ⟨rfl, rfl, rfl⟩ := hcs
    simp only [if_true] at hzl
    have hreach : c * 8 ≤ reachBytes := by
      simp only [Prod.mk.injEq] at hx
      obtain ⟨rfl, _⟩ := hx
      have := sized_slice hz ht hd U
      rw [hb] at this
      simp [lits] at this
      omega
    refine ⟨zs.take n, ?_, hl, hreach, ?_⟩
    · intro y hy
      exact wf_i64 (hwz y (List.mem_of_mem_take hy))
    · refine ⟨by simp [iv]; omega, fun hn => ⟨x, rfl, ?_, fun k u hu => ?_⟩⟩
      · have hc0 := hcell 0 (by omega)
        rw [Addr.add_zero'] at hc0
        exact World.block_lt_of_cell? W x hc0
      · have hk : k < n := by
          have := (List.getElem?_eq_some_iff.1 hu).1
          simp [iv] at this
          omega
        rw [hcell k (by omega)]
        simp [iv, hk, show k < zs.length by omega] at hu
        rw [← hu]
        simp [List.getD, show k < zs.length by omega]
end Go.Proofs.Ytaamflhleommlaa
