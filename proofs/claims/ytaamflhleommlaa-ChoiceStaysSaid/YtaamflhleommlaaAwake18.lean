/- The walk of 'awake' of goitlaw18. -/
import Derived.Test.YtaamflhleommlaaInts
import Derived.Test.YtaamflhleommlaaTable
namespace Go.Proofs.Ytaamflhleommlaa
set_option linter.unusedVariables false
set_option linter.unusedSimpArgs false
open Go.RowKit Go.Maps

def two12 : List Be := [⟨1, 0, 1⟩, ⟨2, 0, 1⟩]
theorem two12_may : MayB two12.length two12 := by
  refine ⟨by decide, by decide, ?_⟩
  intro j hj
  have : j = 0 ∨ j = 1 := by
    have : j < 2 := hj
    omega
  rcases this with rfl | rfl
  · exact ⟨by decide, by decide, by decide, by decide, by decide, fun h => absurd h (by omega)⟩
  · exact ⟨by decide, by decide, by decide, by decide, by decide, fun _ => (by decide : (1 : Int) < 2)⟩
theorem may7 : mayN 7 = true := by decide +kernel
theorem may251 : mayN 251 = true := by decide +kernel
theorem may9 : mayN 9 = false := by decide +kernel
theorem two12_table : tableF two12 7 = tableB (two12.map (bkOf 7)) 7 := tableF_yes two12_may
theorem two12_len : (tableB (two12.map (bkOf 7)) 7).length = 7 := by decide +kernel
theorem two12_1 : ((tableB (two12.map (bkOf 7)) 7).take 7).count 1 = 4 := by decide +kernel
theorem two12_2 : ((tableB (two12.map (bkOf 7)) 7).take 7).count 2 = 3 := by decide +kernel
theorem two12_ok : ∀ x ∈ tableB (two12.map (bkOf 7)) 7, -9223372036854775808 ≤ x ∧ x ≤ 9223372036854775807 := by decide +kernel

theorem reads_news (w : World) (e : TypeId) (fr : Nat × Nat) (C : Array Value) (n size B g : Nat) (hn : C.size = n * size) (hB : B = w.heap.size + 1) (hg : g = w.heap.size) (xs : List Value) (hx : C.toList = xs) :
    Reads (w.alloc (.cells C e fr)) B size (some ⟨g, 0, none⟩) n xs := by
  subst hB hg hx
  refine ⟨by simpa using hn, fun _ => ⟨_, rfl, by show w.heap.size < w.heap.size + 1; omega, ?_⟩⟩
  intro j u hu
  have h1 := (reads_new w e fr C C.size (w.heap.size + 1) w.heap.size rfl rfl rfl C.toList rfl)
  have h0 : 0 < C.size := by
    have := (List.getElem?_eq_some_iff.1 hu).1
    simp at this
    omega
  obtain ⟨ad, ha, _, hc⟩ := h1.2 h0
  injection ha with ha
  subst ha
  exact hc j u hu

set_option maxRecDepth 100000 in
theorem awake18_any (w : World) : Calls Try.prog 12 #[] w fun e w' => e = .returned (.bool true) ∧ Below w.heap.size w w' := by
  have M251 : ∀ w, Calls Try.prog 29 #[.int .i64 251] w fun e w' => e = .returned (.bool true) ∧ w = w' := fun w => by
    have := may_any 251 (by omega) w
    rw [may251] at this
    exact this
  have M9 : ∀ w, Calls Try.prog 29 #[.int .i64 9] w fun e w' => e = .returned (.bool false) ∧ w = w' := fun w => by
    have := may_any 9 (by omega) w
    rw [may9] at this
    exact this
  have hT := Lib.hid two12_table
  have hT1 := Lib.hid two12_1
  have hT2 := Lib.hid two12_2
  have hTo : IntsOk _ := two12_ok
  have hTl := two12_len
  go_enter Try.func12, Try.ntmps12
  go_wp2_with fail
  refine (table_may _ 2 2 (w.heap.size + 1) 7 two12 _ (reads_news _ _ _ _ 2 3 _ _ (by rfl) (by rfl) (by rfl) _ (by rfl)) (by simp) (by unfold two12; intro b hb; simp at hb; rcases hb with rfl | rfl <;> simp) (by omega) (by omega) may7).mono ?_
  rintro e w1 ⟨A1, c1, rfl, hown1, hb1⟩
  rw [hT.out] at hown1
  generalize tableB (two12.map (bkOf 7)) 7 = t at *
  have hB1 : Below w.heap.size w w1 := ((Below.refl _ _).alloc (Nat.le_refl _) _).trans (hb1.mono (by simp))
  have hs1 := hB1.size
  clear hb1
  go_wp2_with fail
  refine (shares_any A1 7 c1 _ t w1 (Reads.of_own hown1) (Nat.le_refl _) hTo (by omega)).mono ?_
  rintro e w2 ⟨rfl, hm2, hb2⟩
  have hB2 : Below w.heap.size w w2 := hB1.trans (hb2.mono hs1)
  clear hb2
  obtain ⟨q1, hrun1, hat1, _⟩ := hm2.lookup_int lawI infoM Try.underlying3 (zeroI _) (keyOf_int_mk Try.underlying3 (wf_of (x := 1) (by omega)))
  obtain ⟨q2, hrun2, hat2, _⟩ := hm2.lookup_int lawI infoM Try.underlying3 (zeroI _) (keyOf_int_mk Try.underlying3 (wf_of (x := 2) (by omega)))
  rw [shK_at t 1 (by omega) 7 (by omega), hT1.out] at hat1
  rw [shK_at t 2 (by omega) 7 (by omega), hT2.out] at hat2
  injection hat1 with hat1
  injection hat1 with _ hat1
  injection hat2 with hat2
  injection hat2 with _ hat2
  obtain rfl : q1 = 4 := hat1.symm
  obtain rfl : q2 = 3 := hat2.symm
  go_wp2_with fail
  refine (M251 _).mono ?_
  rintro e w' ⟨rfl, rfl⟩
  go_wp2_with fail
  refine (M9 _).mono ?_
  rintro e w' ⟨rfl, rfl⟩
  go_wp2_with fail
  go_ret
  exact ⟨rfl, hB2⟩
end Go.Proofs.Ytaamflhleommlaa
