/- The walk of MaglevRows. -/
import Derived.Test.YtaamflhleommlaaPrimes
namespace Go.Proofs.Ytaamflhleommlaa.maglevRows
set_option linter.unusedVariables false
set_option linter.unusedSimpArgs false
open Go.RowKit

/-- which slots a row has come to -/
def seenK (off skip n : Nat) : Nat → List Bool
  | 0 => List.replicate n false
  | k + 1 => (seenK off skip n k).set ((off + k * skip) % n) true
theorem seenK_length (off skip n : Nat) : ∀ k, (seenK off skip n k).length = n
  | 0 => by simp [seenK]
  | k + 1 => by simp [seenK, seenK_length off skip n k]
theorem seenK_at (off skip n v : Nat) (hv : v < n) : ∀ k j, j < k → (off + j * skip) % n = v → (seenK off skip n k)[v]? = some true
  | k + 1, j, hj, h => by
    have hl := seenK_length off skip n k
    unfold seenK
    by_cases e : (off + k * skip) % n = v
    · rw [e, List.getElem?_set_self (by omega)]
    · rw [List.getElem?_set_ne e]
      have hjk : j ≠ k := fun hh => e (by rw [← hh]; exact h)
      exact seenK_at off skip n v hv k j (by omega) h
theorem seenK_all (off skip n : Nat) (hn : 0 < n) (hc : Nat.gcd n skip = 1) (v : Nat) (hv : v < n) : (seenK off skip n n)[v]? = some true := by
  obtain ⟨j, hj, he⟩ := step_onto (at_ := off) hn hc hv
  exact seenK_at off skip n v hv n j hj he

theorem infoB : (Try.prog.info? 4).map (fun i => (i.zero, i.size, i.bytes)) = some (some (.bool false), 1, 1) := by kernel_rfl

set_option maxRecDepth 100000 in
theorem lawWalk (id pick : Int) (w : World) (hi : -9223372036854775808 ≤ id ∧ id ≤ 9223372036854775807) (hp : -9223372036854775808 ≤ pick ∧ pick ≤ 9223372036854775807) :
    Calls Try.prog 5 #[.int .i64 id, .int .i64 pick] w fun e w' => e = .returned (.bool true) ∧ Below w.heap.size w w' := by
  obtain ⟨i0, hii, hz0, hz1, hz2⟩ := info_parts infoB
  obtain ⟨j, hj, hje0⟩ := idx_rem pick 4 (by omega)
  have hje : (IntKind.u64.wrap pick).tmod 4 = (j : Int) := hje0
  clear hje0
  obtain ⟨n, hnn, hcell⟩ := cells4 3 13 61 251 j hj
  have hm : mayN n = true := may_primes (by omega)
  obtain ⟨h3, h251⟩ := may_bounds hm
  have hoff : rowOff id n < n := Nat.mod_lt _ (by omega)
  have hsk1 : 1 ≤ rowSkip id n := by unfold rowSkip; omega
  have hsk : rowSkip id n < n := by
    unfold rowSkip
    have : mixN 2 (idB id) % (n - 1) < n - 1 := Nat.mod_lt _ (by omega)
    omega
  have hgcd := may_coprime hm hsk1 hsk
  have hrow := Lib.hid (row_any id n h3 h251 hm hi)
  have hcn : (w.alloc (.cells #[.int .i64 3, .int .i64 13, .int .i64 61, .int .i64 251] 34)).cell? ⟨w.heap.size, j, none⟩ = some (.int .i64 (n : Int)) := by
    rw [(Blk.new w 34 #[.int .i64 3, .int .i64 13, .int .i64 61, .int .i64 251]).cell j]
    exact hcell
  clear hcell hnn
  generalize rowOff id n = off at *
  generalize rowSkip id n = skip at *
  have hall := Lib.hid (seenK_all off skip n (by omega) hgcd)
  clear hgcd
  go_enter Try.func5, Try.ntmps5
  go_wp2_with fail
  refine (hrow.out _).mono ?_
  rintro e w1 ⟨rfl, hb1⟩
  have hB1 : Below w.heap.size w w1 := ((Below.refl _ _).alloc (Nat.le_refl _) _).trans (hb1.mono (by simp))
  have hs1 := hB1.size
  clear hb1 hcn hrow
  go_wp2_with (at_make; refine stop_ ?_)
  refine on_ ?_
  refine wpList_make_full _ rfl _ _ 40 rfl w.heap.size 4 i0 _ 1 Try.underlying40 hii hz0 hz1 _ _ _ _ n rfl rfl rfl rfl (by rw [hz2]; omega) (by unfold maxLen; omega) hs1 ?_
  intro w2 hown hg
  have hB2 : Below w.heap.size w w2 := hB1.grown hg hs1 (by simp)
  generalize w1.heap.size = g at *
  have hown2 : w2.ownsRow w.heap.size 4 1 (.slice (some ⟨g, 0, none⟩) n n) n (bov (seenK off skip n 0)) := by
    have e : (madeCells (Value.bool false).cells (n * 1)).toList = bov (seenK off skip n 0) := by
      rw [Nat.mul_one]
      show (madeCells #[Value.bool false] n).toList = _
      rw [toList_madeCells_one]
      simp [bov, seenK]
    rw [← e]
    exact hown
  clear hown hg hB1
  go_wp2_with fail
  go_loopw [29] (fun i wr => ∃ k : Nat, k ≤ n ∧ i = .int .i64 (k : Int) ∧ wr.ownsRow w.heap.size 4 1 (.slice (some ⟨g, 0, none⟩) n n) n (bov (seenK off skip n k)) ∧ Below w.heap.size w wr) (fun i _ => n - (intOf i).toNat)
  case atStart => exact ⟨0, Nat.zero_le _, rfl, hown2, hB2⟩
  case round =>
    obtain ⟨k, hk, rfl, hown, hbr⟩ := hrel
    clear hown2 hB2
    by_cases hkn : k < n
    · have hmul : k * skip ≤ 251 * 251 := Nat.mul_le_mul (by omega) (by omega)
      have hm1 : (k : Int) * (skip : Int) = ((k * skip : Nat) : Int) := (Int.natCast_mul k skip).symm
      have hnext : Hid (seenK off skip n (k + 1) = (seenK off skip n k).set ((off + k * skip) % n) true) := rfl
      have hlen := seenK_length off skip n k
      generalize seenK off skip n k = sk at *
      generalize k * skip = z at *
      have hm2 : ((off : Int) + (z : Int)) = ((off + z : Nat) : Int) := by omega
      have hzl : off + z ≤ 70000 := by omega
      generalize off + z = y at *
      obtain ⟨v, hyn, hm3, hvv⟩ : ∃ v, v < n ∧ (y : Int) % (n : Int) = (v : Int) ∧ Hid (y % n = v) := ⟨y % n, Nat.mod_lt _ (by omega), (Int.natCast_emod y n).symm, rfl⟩
      rw [hvv.out] at hnext
      clear hvv
      have hc := ownt_cell hown v hyn (by omega)
      have hf := hown.frozenAt v
      have hst := ownt_store hown v true
      generalize sk[v] = b0 at hc
      have hB3 := hbr.setCell (p := ⟨g, v, none⟩) hs1 (.bool true)
      have d1 : decide ((off : Int) < 0) = false := decide_eq_false (by omega)
      have d2 : decide ((n : Int) ≤ (off : Int)) = false := decide_eq_false (by omega)
      have d3 : decide ((skip : Int) < 1) = false := decide_eq_false (by omega)
      have d4 : decide ((n : Int) ≤ (skip : Int)) = false := decide_eq_false (by omega)
      have d5 : decide (n ≤ off) = false := decide_eq_false (by omega)
      have d6 : decide (n ≤ skip) = false := decide_eq_false (by omega)
      clear hm hmul hje hall hii hz0 hz1 hz2
      go_wp2_with fail
      go_roundw
      case rel =>
        refine ⟨k + 1, by omega, by go_num, ?_, hB3⟩
        rw [hnext.out]
        exact hst
      case measure => simp [intOf]; omega
    · have hkk : k = n := by omega
      have hown3 : wr.ownsRow w.heap.size 4 1 (.slice (some ⟨g, 0, none⟩) n n) n (bov (seenK off skip n n)) := by subst hkk; exact hown
      clear hown
      have hlen := seenK_length off skip n n
      generalize seenK off skip n n = sn at *
      go_wp2_with fail
      go_loopw [60] (fun i wq => ∃ k : Nat, k ≤ n ∧ i = .int .i64 (k : Int) ∧ wq.ownsRow w.heap.size 4 1 (.slice (some ⟨g, 0, none⟩) n n) n (bov sn) ∧ Below w.heap.size w wq) (fun i _ => n - (intOf i).toNat)
      case atStart => exact ⟨0, Nat.zero_le _, rfl, hown3, hbr⟩
      case round =>
        obtain ⟨k2, hk2, rfl, hown, hbr⟩ := hrel
        clear hown3
        by_cases hkn2 : k2 < n
        · have hc := ownt_cell hown k2 hkn2 (by omega)
          have htrue : sn[k2] = true := by
            have := hall.out k2 hkn2
            rw [List.getElem?_eq_getElem (by omega)] at this
            exact Option.some.inj this
          rw [htrue] at hc
          clear htrue
          go_wp2_with fail
          go_roundw
          case rel => exact ⟨k2 + 1, by omega, by go_num, hown, hbr⟩
          case measure => simp [intOf]; omega
        · go_wp2_with fail
          refine (awake18_any _).mono ?_
          rintro e w9 ⟨rfl, hb9⟩
          go_wp2_with fail
          go_ret
          exact ⟨rfl, hbr.trans (hb9.mono hbr.size)⟩
end Go.Proofs.Ytaamflhleommlaa.maglevRows
