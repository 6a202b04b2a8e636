/- Opening a law's arguments: bytes that came in (BytesIn), unsigned numbers as naturals. -/
import Derived.Test.YtbimdogiollgkaaSumFold
import Derived.ProofKit
import Derived.OpenShut
import Derived.ChangeOld
import Derived.SizedLaws
namespace Go.Proofs.Ytbimdogiollgkaa
set_option linter.unusedVariables false
set_option linter.unusedSimpArgs false
open Go.ChangeShapes Go.WideShapes Go.ChangeAt Go.RowKit

/-- a slice of bytes that came in -/
structure BytesIn (w : World) (a : Option Addr) (n c : Nat) (l : List Nat) : Prop where
  len : l.length = n
  all : AllB l
  le : n ≤ c
  reach : c ≤ 140737488351232
  reads : Reads w w.heap.size 1 a n (bv l)
  some_ : 0 < c → ∃ x, a = some x

theorem wf_u8 {z : Int} (h : (Lit.int .u8 z).wf = true) : 0 ≤ z ∧ z < 256 := by
  have : 0 ≤ z ∧ z ≤ 255 := by simpa [Lit.wf, IntKind.min, IntKind.max, IntKind.signed, IntKind.bits] using h
  omega
theorem wf_u16 {z : Int} (h : (Lit.int .u16 z).wf = true) : 0 ≤ z ∧ z < 65536 := by
  have : 0 ≤ z ∧ z ≤ 65535 := by simpa [Lit.wf, IntKind.min, IntKind.max, IntKind.signed, IntKind.bits] using h
  omega
theorem wf_u32 {z : Int} (h : (Lit.int .u32 z).wf = true) : 0 ≤ z ∧ z < 4294967296 := by
  have : 0 ≤ z ∧ z ≤ 4294967295 := by simpa [Lit.wf, IntKind.min, IntKind.max, IntKind.signed, IntKind.bits] using h
  omega
theorem wf_i64 {z : Int} (h : (Lit.int .i64 z).wf = true) : -9223372036854775808 ≤ z ∧ z ≤ 9223372036854775807 := by
  simpa [Lit.wf, IntKind.min, IntKind.max, IntKind.signed, IntKind.bits] using h
theorem nat_u8 {z : Int} (h : (Lit.int .u8 z).wf = true) : ∃ n : Nat, z = n ∧ n < 256 := ⟨z.toNat, by have := wf_u8 h; omega, by have := wf_u8 h; omega⟩
theorem nat_u16 {z : Int} (h : (Lit.int .u16 z).wf = true) : ∃ n : Nat, z = n ∧ n < 65536 := ⟨z.toNat, by have := wf_u16 h; omega, by have := wf_u16 h; omega⟩
theorem nat_u32 {z : Int} (h : (Lit.int .u32 z).wf = true) : ∃ n : Nat, z = n ∧ n < 4294967296 := ⟨z.toNat, by have := wf_u32 h; omega, by have := wf_u32 h; omega⟩

section
variable {H : Type} {enc : TypeId × Value → H} {P : Program} {W : World} {t e : TypeId} {d : DataW H} {ps : List MemPlace}

theorem trod_lt' {v : Value} (h : DataW.Trod enc P W 0 (fun _ => true) true t v d ps) : ∀ x ∈ ps, x.block < W.heap.size := by
  obtain ⟨m, hm⟩ := h
  exact DataW.trod_lt m _ _ _ hm

theorem open_bytes {a : Option Addr} {n c j : Nat} {ts : List TypeId} {ds : List (DataW H)} (U : P.underlying t = some (.slice e)) (Ue : P.underlying e = some (.int .u8)) (hc : P.cellsOf e = 1) (hb : P.bytesOf e = 1)
    (hz : (DataW.weightsEach P ts ds).all (· ≤ reachBytes) = true) (ht : ts[j]? = some t) (hd : ds[j]? = some d)
    (h : DataW.Trod enc P W 0 (fun _ => true) true t (.slice a n c) d ps) : ∃ l : List Nat, BytesIn W a n c l := by
  have hlt := trod_lt' h
  obtain ⟨fuel, hf⟩ := h
  rcases open_ints U Ue hc hf with ⟨hcs, _⟩ | ⟨x, l, c', zs, hcs, _, hl, hm, hzl, hx, hcell, hwz⟩
  · simp [Value.cells] at hcs
    obtain ⟨rfl, rfl, rfl⟩ := hcs
    exact ⟨[], rfl, (by intro x hx; cases hx), Nat.le_refl _, by decide, Reads.none_, by omega⟩
  · simp [Value.cells] at hcs
    obtain ⟨rfl, rfl, rfl⟩ := hcs
    simp only [if_true] at hzl
    have hreach : c ≤ reachBytes := by
      simp only [Prod.mk.injEq] at hx
      obtain ⟨rfl, _⟩ := hx
      have := sized_slice hz ht hd U
      rw [hb] at this
      simp [lits] at this
      omega
    refine ⟨(zs.take n).map Int.toNat, by simp; omega, ?_, hl, hreach, ?_, fun _ => ⟨_, rfl⟩⟩
    · intro y hy
      obtain ⟨z, hz', rfl⟩ := List.mem_map.1 hy
      have := wf_u8 (hwz z (List.mem_of_mem_take hz'))
      omega
    · refine ⟨by simp [bv]; omega, fun hn => ⟨x, rfl, ?_, fun k u hu => ?_⟩⟩
      · have hc0 := hcell 0 (by omega)
        rw [Addr.add_zero'] at hc0
        exact World.block_lt_of_cell? W x hc0
      · have hk : k < n := by
          have := (List.getElem?_eq_some_iff.1 hu).1
          simp [bv] at this
          omega
        rw [hcell k (by omega)]
        have hw := wf_u8 (hwz _ (List.getElem_mem (l := zs) (n := k) (by omega)))
        simp [bv, hk, show k < zs.length by omega] at hu
        rw [← hu]
        simp [List.getD, show k < zs.length by omega]
        omega
end
end Go.Proofs.Ytbimdogiollgkaa
