/- Opening a law's arguments: bytes that came in (BytesIn), unsigned numbers as naturals. -/
import Derived.Test.YtaamflhleommlaaBits
import Derived.ProofKit
import Derived.OpenShut
import Derived.ChangeOld
import Derived.SizedLaws
import Derived.Lib.SmallJoins
import Derived.Laws.IdiomStrings
import Derived.Laws.BytesString
import Derived.Laws.Strings
namespace Go.Proofs.Ytaamflhleommlaa
set_option linter.unusedVariables false
set_option linter.unusedSimpArgs false
open Go.ChangeShapes Go.WideShapes Go.ChangeAt Go.RowKit

/-- a slice of bytes that came in -/
structure BytesIn (w : World) (a : Option Addr) (n c : Nat) (l : List Nat) : Prop where
  len : l.length = n
  all : AllB l
  le : n ≤ c
  reach : c ≤ 140737488351232
  reads : Reads w w.heap.size 1 a n (bv l)
  some_ : 0 < c → ∃ x, a = some x

theorem wf_u8 {z : Int} (h : (Lit.int .u8 z).wf = true) : 0 ≤ z ∧ z < 256 := by
  have : 0 ≤ z ∧ z ≤ 255 := by simpa [Lit.wf, IntKind.min, IntKind.max, IntKind.signed, IntKind.bits] using h
  omega
theorem wf_u16 {z : Int} (h : (Lit.int .u16 z).wf = true) : 0 ≤ z ∧ z < 65536 := by
  have : 0 ≤ z ∧ z ≤ 65535 := by simpa [Lit.wf, IntKind.min, IntKind.max, IntKind.signed, IntKind.bits] using h
  omega
theorem wf_u32 {z : Int} (h : (Lit.int .u32 z).wf = true) : 0 ≤ z ∧ z < 4294967296 := by
  have : 0 ≤ z ∧ z ≤ 4294967295 := by simpa [Lit.wf, IntKind.min, IntKind.max, IntKind.signed, IntKind.bits] using h
  omega
theorem wf_i64 {z : Int} (h : (Lit.int .i64 z).wf = true) : -9223372036854775808 ≤ z ∧ z ≤ 9223372036854775807 := by
  simpa [Lit.wf, IntKind.min, IntKind.max, IntKind.signed, IntKind.bits] using h
theorem nat_u8 {z : Int} (h : (Lit.int .u8 z).wf = true) : ∃ n : Nat, z = n ∧ n < 256 := ⟨z.toNat, by have := wf_u8 h; omega, by have := wf_u8 h; omega⟩
theorem nat_u16 {z : Int} (h : (Lit.int .u16 z).wf = true) : ∃ n : Nat, z = n ∧ n < 65536 := ⟨z.toNat, by have := wf_u16 h; omega, by have := wf_u16 h; omega⟩
theorem nat_u32 {z : Int} (h : (Lit.int .u32 z).wf = true) : ∃ n : Nat, z = n ∧ n < 4294967296 := ⟨z.toNat, by have := wf_u32 h; omega, by have := wf_u32 h; omega⟩

section
variable {H : Type} {enc : TypeId × Value → H} {P : Program} {W : World} {t e : TypeId} {d : DataW H} {ps : List MemPlace}

theorem trod_lt' {v : Value} (h : DataW.Trod enc P W 0 (fun _ => true) true t v d ps) : ∀ x ∈ ps, x.block < W.heap.size := by
  obtain ⟨m, hm⟩ := h
  exact DataW.trod_lt m _ _ _ hm

theorem open_bytes {a : Option Addr} {n c j : Nat} {ts : List TypeId} {ds : List (DataW H)} (U : P.underlying t = some (.slice e)) (Ue : P.underlying e = some (.int .u8)) (hc : P.cellsOf e = 1) (hb : P.bytesOf e = 1)
    (hz : (DataW.weightsEach P ts ds).all (· ≤ reachBytes) = true) (ht : ts[j]? = some t) (hd : ds[j]? = some d)
    (h : DataW.Trod enc P W 0 (fun _ => true) true t (.slice a n c) d ps) : ∃ l : List Nat, BytesIn W a n c l := by
  have hlt := trod_lt' h
  obtain ⟨fuel, hf⟩ := h
  rcases open_ints U Ue hc hf with ⟨hcs, _⟩ | ⟨x, l, c', zs, hcs, _, hl, hm, hzl, hx, hcell, hwz⟩
  · simp [Value.cells] at hcs
    obtain ⟨rfl, rfl, rfl⟩ := hcs
    exact ⟨[], rfl, (by intro x hx; cases hx), Nat.le_refl _, by decide, Reads.none_, by omega⟩
  · simp [Value.cells] at hcs
    obtain ⟨rfl, rfl, rfl⟩ := hcs
    simp only [if_true] at hzl
    have hreach : c ≤ reachBytes := by
      simp only [Prod.mk.injEq] at hx
      obtain ⟨rfl, _⟩ := hx
      have := sized_slice hz ht hd U
      rw [hb] at this
      simp [lits] at this
      omega
    refine ⟨(zs.take n).map Int.toNat, by simp; omega, ?_, hl, hreach, ?_, fun _ => ⟨_, rfl⟩⟩
    · intro y hy
      obtain ⟨z, hz', rfl⟩ := List.mem_map.1 hy
      have := wf_u8 (hwz z (List.mem_of_mem_take hz'))
      omega
    · refine ⟨by simp [bv]; omega, fun hn => ⟨x, rfl, ?_, fun k u hu => ?_⟩⟩
      · have hc0 := hcell 0 (by omega)
        rw [Addr.add_zero'] at hc0
        exact World.block_lt_of_cell? W x hc0
      · have hk : k < n := by
          have := (List.getElem?_eq_some_iff.1 hu).1
          simp [bv] at this
          omega
        rw [hcell k (by omega)]
        have hw := wf_u8 (hwz _ (List.getElem_mem (l := zs) (n := k) (by omega)))
        simp [bv, hk, show k < zs.length by omega] at hu
        rw [← hu]
        simp [List.getD, show k < zs.length by omega]
        omega
theorem okWide_array {n : Nat} {r : Reach} {base : Nat} {v : Value} (ht : P.underlying t = some (.array n e)) (h : Value.okWide P W r base t v) : ∃ cs, v = .agg cs ∧ cs.size = P.cellsOf t := by
  unfold Value.okWide at h
  rw [ht] at h
  obtain ⟨cs, hv, hs, _⟩ := h
  exact ⟨cs, hv, hs⟩

/-- an array of four bytes, by value -/
theorem open_array4 {r : Reach} {base : Nat} {v : Value} (U : P.underlying t = some (.array 4 e)) (Ue : P.underlying e = some (.int .u8)) (hC : P.cellsOf t = 4) (hc : P.cellsOf e = 1)
    (hv : Value.okWide P W r base t v) (h : DataW.Trod enc P W 0 (fun _ => true) true t v d ps) :
    ∃ b0 b1 b2 b3 : Nat, v = .agg #[.int .u8 b0, .int .u8 b1, .int .u8 b2, .int .u8 b3] ∧ b0 < 256 ∧ b1 < 256 ∧ b2 < 256 ∧ b3 < 256 := by
  obtain ⟨cs, rfl, hsz⟩ := okWide_array U hv
  obtain ⟨v0, v1, v2, v3, rfl⟩ := Joins.array4 (hsz.trans hC)
  obtain ⟨fuel, hf⟩ := h
  obtain ⟨xs, m, _, _, _, hl, hg⟩ := DataW.trod_array U hf
  have one : ∀ (i : Nat) (hi : i < 4), ∃ b : Nat, ((#[v0, v1, v2, v3] : Array Value).toList.drop (i * 1)).take 1 = [Value.int .u8 (b : Int)] ∧ b < 256 := by
    intro i hi
    have h1 := hg i hi
    rw [hc, List.getElem?_eq_getElem (by omega)] at h1
    obtain ⟨z, hz, _, hw⟩ := DataW.trod_int Ue h1
    obtain ⟨b, rfl, hb⟩ := nat_u8 hw
    exact ⟨b, hz, hb⟩
  obtain ⟨b0, e0, h0⟩ := one 0 (by omega)
  obtain ⟨b1, e1, h1⟩ := one 1 (by omega)
  obtain ⟨b2, e2, h2⟩ := one 2 (by omega)
  obtain ⟨b3, e3, h3⟩ := one 3 (by omega)
  simp at e0 e1 e2 e3
  subst e0 e1 e2 e3
  exact ⟨b0, b1, b2, b3, rfl, h0, h1, h2, h3⟩
end

/-! ### a string of bytes -/
def strB (l : List Nat) : ByteArray := ⟨(l.map UInt8.ofNat).toArray⟩
theorem strB_toList (l : List Nat) : (strB l).toList = l.map UInt8.ofNat := by simp [strB]
theorem u8_nat {x : Nat} (h : x < 256) : (UInt8.ofNat x).toNat = x := by rw [UInt8.toNat_ofNat']; omega
theorem map_ofNat_inj : ∀ (l m : List Nat), AllB l → AllB m → l.map UInt8.ofNat = m.map UInt8.ofNat → l = m
  | [], [], _, _, _ => rfl
  | [], _ :: _, _, _, h => by simp at h
  | _ :: _, [], _, _, h => by simp at h
  | x :: r, y :: t, hl, hm, h => by
    simp only [List.map_cons, List.cons.injEq] at h
    have hx := hl x (List.mem_cons_self ..)
    have hy := hm y (List.mem_cons_self ..)
    have e := congrArg UInt8.toNat h.1
    rw [u8_nat hx, u8_nat hy] at e
    have : x = y := e
    rw [this, map_ofNat_inj r t (fun z hz => hl z (List.mem_cons_of_mem _ hz)) (fun z hz => hm z (List.mem_cons_of_mem _ hz)) h.2]
theorem strB_eq {l m : List Nat} (hl : AllB l) (hm : AllB m) : ((strB l).toList == (strB m).toList) = decide (l = m) := by
  rw [strB_toList, strB_toList]
  by_cases h : l = m
  · subst h; simp
  · have : l.map UInt8.ofNat ≠ m.map UInt8.ofNat := fun e => h (map_ofNat_inj l m hl hm e)
    simp [h, this]

theorem run_string_back {P : Program} {w : World} {B n c : Nat} {A : Option Addr} {l : List Nat} (src dst e : TypeId) (hs : P.underlying src = some (.slice e)) (he : P.underlying e = some (.int .u8)) (hd : P.underlying dst = some .string)
    (hr : Reads w B 1 A n (bv l)) (ha : AllB l) : (convert src dst (.slice A n c)).run P w = .ok (.string (strB l)) w := by
  have hlen := hr.length
  rcases A with _ | ad
  · have h0 : n = 0 := by
      rcases Nat.eq_zero_or_pos n with h | h
      · exact h
      · obtain ⟨_, h', _⟩ := hr.2 h
        cases h'
    subst h0
    have : l = [] := List.eq_nil_of_length_eq_zero hlen
    subst this
    rw [run_convert_bytes_string w src dst e none 0 c hs he hd]
    rfl
  · have := run_convert_bytes_back (P := P) w src dst e ad c (l.map UInt8.ofNat) hs he hd (fun j hj => by
      have hjl : j < l.length := by simpa using hj
      obtain ⟨ad', _, e', hc⟩ := bytes_at hr (j := j) (by omega)
      cases e'
      rw [hc]
      have hb := ha _ (List.getElem_mem hjl)
      rw [List.getElem_map, u8_nat hb])
    simp only [List.length_map, hlen] at this
    exact this

/-- 'string(b)' in a quiet region -/
theorem quiet_string {P : Program} {o : Oper} {a : Act} {C : World → Prop} {K : Act → Prop} (x : Operand) (src dst e : TypeId) (ho : o.op = .convert src dst x) (hs : P.underlying src = some (.slice e)) (he : P.underlying e = some (.int .u8)) (hd : P.underlying dst = some .string)
    (A : Option Addr) (n c : Nat) (l : List Nat) (hx : a.eval x = .slice A n c) (hr : ∀ w, C w → ∃ B, Reads w B 1 A n (bv l)) (ha : AllB l) (hk : K (a.put o.dst (.string (strB l)))) : o.quiet P a C K := by
  refine ⟨_, fun w hw => ?_, hk⟩
  obtain ⟨B, hr'⟩ := hr w hw
  unfold Oper.quietAt execOp
  simp only [ho, hx, Sem.run_bind, run_string_back src dst e hs he hd hr' ha, Result.andThen_ok, Sem.run_pure]
  exact ⟨rfl, rfl⟩
end Go.Proofs.Ytaamflhleommlaa
