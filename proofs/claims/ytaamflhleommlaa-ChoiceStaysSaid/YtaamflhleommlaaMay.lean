/- The walks of maglev.May and maglev.Row. -/
import Derived.Test.YtaamflhleommlaaOctet
import Derived.Test.YtaamflhleommlaaSumMix
namespace Go.Proofs.Ytaamflhleommlaa
set_option linter.unusedVariables false
set_option linter.unusedSimpArgs false
open Go.RowKit

def mayN (n : Nat) : Bool := decide (3 ≤ n) && decide (n ≤ 251) && (List.range 16).all fun i => decide (i < 2) || decide (n < i * i) || decide (n % i ≠ 0)

theorem mayN_false {n k : Nat} (hn : n ≤ 251) (h2 : 2 ≤ k) (hk : k * k ≤ n) (h : n % k = 0) : mayN n = false := by
  have hk16 : k < 16 := by
    rcases Nat.lt_or_ge k 16 with h' | h'
    · exact h'
    · have : 16 * 16 ≤ k * k := Nat.mul_le_mul h' h'
      omega
  unfold mayN
  have : ((List.range 16).all fun i => decide (i < 2) || decide (n < i * i) || decide (n % i ≠ 0)) = false := by
    rw [Bool.eq_false_iff]
    intro hall
    have := List.all_eq_true.1 hall k (List.mem_range.2 hk16)
    simp [h] at this
    omega
  rw [this]
  simp
theorem mayN_true {n k : Nat} (h3 : 3 ≤ n) (hn : n ≤ 251) (hk : n < k * k) (h : ∀ j, 2 ≤ j → j < k → n % j ≠ 0) : mayN n = true := by
  unfold mayN
  simp only [Bool.and_eq_true, decide_eq_true_eq, List.all_eq_true, List.mem_range, Bool.or_eq_true]
  refine ⟨⟨h3, hn⟩, fun i _ => ?_⟩
  by_cases h2 : i < 2
  · exact .inl (.inl h2)
  · by_cases hik : i < k
    · exact .inr (h i (by omega) hik)
    · have : k * k ≤ i * i := Nat.mul_le_mul (by omega) (by omega)
      exact .inl (.inr (by omega))

theorem may_any (n : Nat) (hn : n ≤ 1000000) (w : World) :
    Calls Try.prog 29 #[.int .i64 n] w fun e w' => e = .returned (.bool (mayN n)) ∧ w = w' := by
  by_cases h3 : n < 3
  · have hm : Hid (mayN n = false) := by show _ = _; unfold mayN; simp; omega
    go_enter Try.func29, Try.ntmps29
    go_wp2
    go_ret
    exact ⟨by rw [hm.out]; rfl, rfl⟩
  by_cases h251 : 251 < n
  · have hm : Hid (mayN n = false) := by show _ = _; unfold mayN; simp; omega
    go_enter Try.func29, Try.ntmps29
    go_wp2
    go_ret
    exact ⟨by rw [hm.out]; rfl, rfl⟩
  go_enter Try.func29, Try.ntmps29
  go_wp2
  go_loop [3] (fun i => ∃ k : Nat, 2 ≤ k ∧ k ≤ 16 ∧ i = .int .i64 (k : Int) ∧ Hid (∀ j, 2 ≤ j → j < k → n % j ≠ 0)) (fun i => 16 - (intOf i).toNat)
  case atStart => exact ⟨2, by omega, by omega, rfl, fun j h1 h2 => by omega⟩
  case round =>
    obtain ⟨k, hk2, hk16, rfl, hall⟩ := hrel
    have hsq : k * k ≤ 256 := Nat.mul_le_mul hk16 hk16
    have hTF : Hid (n < k * k → mayN n = true) := fun h => mayN_true (by omega) (by omega) h hall.out
    have hFF : Hid (k * k ≤ n → n % k = 0 → mayN n = false) := fun h h' => mayN_false (by omega) hk2 h h'
    have hk15 : Hid (k * k ≤ n → k < 16) := fun h => by
      rcases Nat.lt_or_ge k 16 with h' | h'
      · exact h'
      · have : 16 * 16 ≤ k * k := Nat.mul_le_mul h' h'
        omega
    have hee : (k : Int) * (k : Int) = ((k * k : Nat) : Int) := (Int.natCast_mul k k).symm
    generalize k * k = s at *
    by_cases hs : s ≤ n
    · have hk := hk15.out hs
      have hmod : ((n : Int) % (k : Int)) = ((n % k : Nat) : Int) := (Int.natCast_emod n k).symm
      by_cases h0 : n % k = 0
      · have hm := Lib.hid (hFF.out hs h0)
        rw [h0] at hmod
        clear h0
        go_wp2
        go_ret
        exact ⟨by rw [hm.out]; rfl, rfl⟩
      · have hnx : Hid (∀ j, 2 ≤ j → j < k + 1 → n % j ≠ 0) := by
          intro j h1 h2
          by_cases e : j = k
          · subst e; exact h0
          · exact hall.out j h1 (by omega)
        have hne : (((n % k : Nat) : Int) == 0) = false := by simp; omega
        generalize n % k = r at *
        clear h0
        go_wp2
        go_round
        case rel => exact ⟨k + 1, by omega, by omega, by go_num, hnx⟩
        case measure => simp [intOf]; omega
    · have hm := Lib.hid (hTF.out (by omega))
      go_wp2
      go_ret
      exact ⟨by rw [hm.out]; rfl, rfl⟩

def idB (id : Int) : List Nat := be (id % 4294967296).toNat 4
def rowOff (id : Int) (n : Nat) : Nat := mixN 1 (idB id) % n
def rowSkip (id : Int) (n : Nat) : Nat := mixN 2 (idB id) % (n - 1) + 1
theorem idB_all (id : Int) : AllB (idB id) := be_all _ _
theorem idB_length (id : Int) : (idB id).length = 4 := be_length _ _

theorem row_any (id : Int) (n : Nat) (hn3 : 3 ≤ n) (hn : n ≤ 251) (hm : mayN n = true) (hid : -9223372036854775808 ≤ id ∧ id ≤ 9223372036854775807) (w : World) :
    Calls Try.prog 15 #[.int .i64 id, .int .i64 n] w fun e w' => e = .returned (.tuple #[.int .i64 (rowOff id n), .int .i64 (rowSkip id n)]) ∧ Below w.heap.size w w' := by
  have HM := Lib.hid (may_any n (by omega))
  rw [hm] at HM
  clear hm
  obtain ⟨I, hI, hIl, HI⟩ : ∃ I : Nat, id % 4294967296 = (I : Int) ∧ I < 4294967296 ∧ Hid (be I 4 = idB id) := ⟨(id % 4294967296).toNat, by omega, by omega, rfl⟩
  have hab := idB_all id
  have hlb := idB_length id
  have hx1 := mixN_lt 1 (idB id)
  have hx2 := mixN_lt 2 (idB id)
  have R1 : Hid (((mixN 1 (idB id) % n : Nat) : Int) = ((rowOff id n : Nat) : Int)) := rfl
  have R2 : Hid (((mixN 2 (idB id) % (n - 1) + 1 : Nat) : Int) = ((rowSkip id n : Nat) : Int)) := rfl
  have HL := Lib.hid hlb
  go_enter Try.func15, Try.ntmps15
  go_wp2_with (go_at_call 29; refine (HM.out _).mono ?_; rintro e w' ⟨rfl, rfl⟩)
  refine (u32_any w.heap.size w.heap.size I [] (w.alloc (.cells #[.slice none 0 0] 72)) hIl (by simp) ⟨Nat.le_refl _, none, 0, Blk.new_ rfl, World.ownsRow_nil _ _ _ _⟩ (by simp)).mono ?_
  rintro e w1 ⟨rfl, hw1, hb1⟩
  rw [List.nil_append, HI.out] at hw1
  have hB1 : Below w.heap.size w w1 := ((Below.refl _ _).alloc (Nat.le_refl _) _).trans hb1
  have hs1 := hB1.size
  go_wp2_with fail
  refine (bytes_any w.heap.size w.heap.size (idB id) w1 hw1 (by omega)).mono ?_
  rintro e w2 ⟨A2, c2, rfl, hown2, hb2⟩
  have hr2 := Reads.of_own hown2
  rw [hlb] at hr2 hown2 ⊢
  have hw2 := hw1.below hb2
  have hB2 : Below w.heap.size w w2 := hB1.trans (hb2.mono hs1)
  have hs2 := hB2.size
  clear hown2 hb2 hb1 hlb
  go_wp2_with fail
  refine (mix_any 1 (by omega) _ _ _ _ _ (idB id) hr2 (by omega) hab).mono ?_
  rintro e w' ⟨rfl, rfl⟩
  generalize mixN 1 (idB id) = x1 at *
  go_wp2_with fail
  refine (bytes_any w.heap.size w.heap.size (idB id) w2 hw2 (by rw [HL.out]; omega)).mono ?_
  rintro e w3 ⟨A3, c3, rfl, hown3, hb3⟩
  have hr3 := Reads.of_own hown3
  rw [HL.out] at hr3 hown3 ⊢
  have hB3 : Below w.heap.size w w3 := hB2.trans (hb3.mono hs2)
  have hs3 := hB3.size
  clear hown3 hb3
  go_wp2_with fail
  refine (mix_any 2 (by omega) _ _ _ _ _ (idB id) hr3 (by omega) hab).mono ?_
  rintro e w' ⟨rfl, rfl⟩
  generalize mixN 2 (idB id) = x2 at *
  have hv1 : ((x1 : Int) % (n : Int)) = ((x1 % n : Nat) : Int) := (Int.natCast_emod x1 n).symm
  have hv2 : ((x2 : Int) % ((n : Int) - 1)) = ((x2 % (n - 1) : Nat) : Int) := by
    rw [show ((n : Int) - 1) = ((n - 1 : Nat) : Int) from by omega]
    exact (Int.natCast_emod x2 (n - 1)).symm
  have hl1 : x1 % n < n := Nat.mod_lt _ (by omega)
  have hl2 : x2 % (n - 1) < n - 1 := Nat.mod_lt _ (by omega)
  have R1' := R1.out
  have R2' := R2.out
  rw [Int.natCast_add] at R2'
  generalize x1 % n = y1 at *
  generalize x2 % (n - 1) = y2 at *
  have Q1 := Lib.hid R1'
  have Q2 := Lib.hid R2'
  clear R1' R2' R1 R2
  go_wp2_with fail
  go_ret2
  exact ⟨by rw [← Q1.out, ← Q2.out]; simp, hB3⟩
end Go.Proofs.Ytaamflhleommlaa
