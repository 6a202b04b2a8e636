/- The walk of MaglevCounts. -/
import Derived.Test.YtaamflhleommlaaPrimes
import Derived.Maps.RangeWalk
namespace Go.Proofs.Ytaamflhleommlaa.maglevCounts
set_option linter.unusedVariables false
set_option linter.unusedSimpArgs false
open Go.RowKit Go.Maps

/-- the law's own count of what has moved -/
def cntK (t u : List Int) : Nat → Nat
  | 0 => 0
  | k + 1 => cntK t u k + if u.length ≤ k ∨ u.getD k 0 ≠ t.getD k 0 then 1 else 0
theorem cntK_le (t u : List Int) : ∀ k, cntK t u k ≤ k
  | 0 => Nat.le_refl _
  | k + 1 => by
    have := cntK_le t u k
    unfold cntK
    split <;> omega
theorem cntK_in (t u : List Int) : ∀ k, k ≤ u.length → cntK t u k = diffK t u k
  | 0, _ => rfl
  | k + 1, h => by
    unfold cntK diffK
    rw [cntK_in t u k (by omega)]
    by_cases e : t.getD k 0 = u.getD k 0
    · rw [if_pos e, if_neg (fun h => by rcases h with h | h; omega; exact h e.symm)]
    · rw [if_neg e, if_pos (.inr fun h => e h.symm)]
theorem cntK_out (t u : List Int) : ∀ k, u.length ≤ k → cntK t u k = diffK t u u.length + (k - u.length)
  | k, h => by
    by_cases e : k = u.length
    · rw [e, cntK_in t u _ (Nat.le_refl _)]; omega
    · match k, h, e with
      | 0, h, e => omega
      | k + 1, h, e =>
        unfold cntK
        rw [cntK_out t u k (by omega), if_pos (.inl (by omega))]
        omega
theorem cntK_moved (t u : List Int) : cntK t u t.length + (u.length - t.length) = movedN t u := by
  unfold movedN
  rcases Nat.le_total t.length u.length with h | h
  · rw [cntK_in t u _ h, Nat.max_eq_right h, Nat.min_eq_left h]; omega
  · rw [cntK_out t u _ h, Nat.max_eq_left h, Nat.min_eq_right h]; omega

set_option maxHeartbeats 1000000 in
set_option maxRecDepth 100000 in
theorem lawWalk (A : Option Addr) (n c : Nat) (t : List Int) (A' : Option Addr) (n' c' : Nat) (u : List Int) (w : World) (hr : Reads w w.heap.size 1 A n (iv t)) (ht : IntsOk t) (hr' : Reads w w.heap.size 1 A' n' (iv u)) :
    Calls Try.prog 6 #[.slice A n c, .slice A' n' c'] w fun e w' => e = .returned (.bool true) ∧ Below w.heap.size w w' := by
  have hlen := hr.int_length
  have hlen' := hr'.int_length
  have hmm := @run_makeMap Try.prog
  by_cases h3 : 300 < n
  · go_enter Try.func6, Try.ntmps6
    go_wp2_with fail
    refine (awake18_any _).mono ?_
    rintro e w9 ⟨rfl, hb9⟩
    go_wp2_with fail
    go_ret
    exact ⟨rfl, hb9⟩
  by_cases h3' : 300 < n'
  · go_enter Try.func6, Try.ntmps6
    go_wp2_with fail
    refine (awake18_any _).mono ?_
    rintro e w9 ⟨rfl, hb9⟩
    go_wp2_with fail
    go_ret
    exact ⟨rfl, hb9⟩
  have HM := Lib.hid (cntK_moved t u)
  rw [hlen, hlen'] at HM
  go_enter Try.func6, Try.ntmps6
  go_wp2_with fail
  go_loopw [6, 24] (fun v i wr => ∃ k : Nat, k ≤ n ∧ i = .int .i64 (k : Int) ∧ v = .int .i64 ((cntK t u k : Nat) : Int) ∧ wr.ownsMap Try.prog 3 (plainElem Try.prog 3) w.heap.size k (shK t k) ∧ Below w.heap.size w wr) (fun _ i _ => n - (intOf i).toNat)
  case atStart => exact ⟨0, Nat.zero_le _, rfl, rfl, World.ownsMap_made _ _ _ _, (Below.refl _ _).alloc (Nat.le_refl _) _⟩
  case round =>
    obtain ⟨k, hk, rfl, rfl, hown, hnx⟩ := hrel
    by_cases hkn : k < n
    · obtain ⟨b, off, hl, rfl, hc⟩ := (hr.below hnx).int_ hkn
      have hx := ht _ (List.getElem_mem hl)
      have hgd : t.getD k 0 = t[k] := by simp [hl]
      have hcount : Hid ((t.take (k + 1)).count (t.getD k 0) = (t.take k).count (t.getD k 0) + 1) := by
        show _ = _
        rw [take_getD t k hl, List.count_append]; simp
      have hle : Hid ((t.take k).count (t.getD k 0) ≤ k) := by
        show _ ≤ _
        have := List.count_le_length (a := t.getD k 0) (l := t.take k)
        rw [List.length_take] at this
        omega
      have hsat : Hid (0 ≤ t.getD k 0 → (shK t k).atKey (.int .i64 (t.getD k 0)) (.lit (.int .i64 0)) = .lit (.int .i64 (((t.take k).count (t.getD k 0) : Nat) : Int))) := fun h => shK_at t _ h k (by omega)
      have hyes : Hid (0 ≤ t.getD k 0 → shK t (k + 1) = (shK t k).put (.int .i64 (t.getD k 0)) (.lit (.int .i64 (((t.take (k + 1)).count (t.getD k 0) : Nat) : Int)))) := fun h => by
        show _ = _
        rw [shK, if_pos h]
      have hno : Hid (¬ 0 ≤ t.getD k 0 → shK t (k + 1) = shK t k) := fun h => by rw [shK, if_neg h]
      have hc1 : Hid ((n' ≤ k ∨ u.getD k 0 ≠ t.getD k 0) → cntK t u (k + 1) = cntK t u k + 1) := fun h => by show _ = _; rw [cntK, hlen', if_pos h]
      have hc0 : Hid (¬ (n' ≤ k ∨ u.getD k 0 ≠ t.getD k 0) → cntK t u (k + 1) = cntK t u k) := fun h => by show _ = _; rw [cntK, hlen', if_neg h, Nat.add_zero]
      have hcl := cntK_le t u k
      rw [hgd] at hcount hle hsat hyes hno hc1 hc0
      generalize t[k] = x at *
      rw [hcount.out] at hyes
      generalize (t.take k).count x = q at *
      clear hcount hgd hl
      have hle := hle.out
      generalize cntK t u k = cn at *
      by_cases hx0 : 0 ≤ x
      · have hkey : keyOf Try.prog 3 (.int .i64 x) = some (.int .i64 x) := keyOf_int_mk Try.underlying3 (wf_of hx)
        obtain ⟨c2, hrun, hat, _⟩ := hown.lookup_int lawI infoM Try.underlying3 (zeroI _) hkey
        obtain rfl : c2 = (q : Int) := by
          have h1 := hat.symm.trans (hsat.out hx0)
          injection h1 with h2
          injection h2
        go_wp2_with (at_mapUpdate; refine stop_ ?_)
        refine on_ ?_
        refine wpList_mapUpdate_own _ rfl _ _ _ 30 rfl 3 3 lawI infoM _ w.heap.size k _ rfl hown (by unfold maxLen; omega) _ _ _ rfl rfl hkey _ [] (plainElem_int Try.underlying3 (a := ((q + 1 : Nat) : Int)) (wf_of (by omega))) ?_
        intro w1 hown1 hgrow1
        have hB1 := hnx.grown hgrow1 hnx.size (fun j hj => by cases hj; exact Nat.le_refl _)
        rw [← hyes.out hx0] at hown1
        clear hown hnx hrun hc hgrow1
        by_cases hkn' : k < n'
        · obtain ⟨b', off', hl', rfl, hc'⟩ := (hr'.below hB1).int_ hkn'
          have hgd' : u.getD k 0 = u[k] := by simp [hl']
          by_cases hxy : u[k] = x
          · have hnext : Hid (cntK t u (k + 1) = cn) := hc0.out (by rw [hgd']; rintro (h | h); omega; exact h hxy)
            have hb1 : (u[k] != x) = false := by simpa using hxy
            clear hgd' hc1 hc0
            generalize u[k] = y at *
            subst hxy
            go_wp2_with fail
            go_roundw
            case rel => exact ⟨k + 1, by omega, by go_num, by rw [hnext.out], hown1, hB1⟩
            case measure => simp [intOf]; omega
          · have hnext : Hid (cntK t u (k + 1) = cn + 1) := hc1.out (by rw [hgd']; exact .inr hxy)
            have hb1 : (u[k] != x) = true := by simpa using hxy
            have hb2 : (u[k] == x) = false := by simpa using hxy
            clear hgd' hc1 hc0
            generalize u[k] = y at *
            clear hxy
            go_wp2_with fail
            go_roundw
            case rel => exact ⟨k + 1, by omega, by go_num, by rw [hnext.out]; go_num, hown1, hB1⟩
            case measure => simp [intOf]; omega
        · have hnext : Hid (cntK t u (k + 1) = cn + 1) := hc1.out (.inl (by omega))
          clear hc1 hc0
          go_wp2_with fail
          go_roundw
          case rel => exact ⟨k + 1, by omega, by go_num, by rw [hnext.out]; go_num, hown1, hB1⟩
          case measure => simp [intOf]; omega
      · have hown1 := hown.mono (Nat.le_succ k)
        rw [← hno.out hx0] at hown1
        have hB1 := hnx
        clear hown hnx
        by_cases hkn' : k < n'
        · obtain ⟨b', off', hl', rfl, hc'⟩ := (hr'.below hB1).int_ hkn'
          have hgd' : u.getD k 0 = u[k] := by simp [hl']
          by_cases hxy : u[k] = x
          · have hnext : Hid (cntK t u (k + 1) = cn) := hc0.out (by rw [hgd']; rintro (h | h); omega; exact h hxy)
            have hb1 : (u[k] != x) = false := by simpa using hxy
            clear hgd' hc1 hc0
            generalize u[k] = y at *
            subst hxy
            go_wp2_with fail
            go_roundw
            case rel => exact ⟨k + 1, by omega, by go_num, by rw [hnext.out], hown1, hB1⟩
            case measure => simp [intOf]; omega
          · have hnext : Hid (cntK t u (k + 1) = cn + 1) := hc1.out (by rw [hgd']; exact .inr hxy)
            have hb1 : (u[k] != x) = true := by simpa using hxy
            have hb2 : (u[k] == x) = false := by simpa using hxy
            clear hgd' hc1 hc0
            generalize u[k] = y at *
            clear hxy
            go_wp2_with fail
            go_roundw
            case rel => exact ⟨k + 1, by omega, by go_num, by rw [hnext.out]; go_num, hown1, hB1⟩
            case measure => simp [intOf]; omega
        · have hnext : Hid (cntK t u (k + 1) = cn + 1) := hc1.out (.inl (by omega))
          clear hc1 hc0
          go_wp2_with fail
          go_roundw
          case rel => exact ⟨k + 1, by omega, by go_num, by rw [hnext.out]; go_num, hown1, hB1⟩
          case measure => simp [intOf]; omega
    · have hkk : k = n := by omega
      have hown1 : wr.ownsMap Try.prog 3 (plainElem Try.prog 3) w.heap.size n (shK t n) := by rw [← hkk]; exact hown
      have hcl := cntK_le t u k
      have HM2 : Hid (cntK t u k + (n' - n) = movedN t u) := by rw [hkk]; exact HM
      have HM3 : Hid (movedN t t = 0) := movedN_self t
      have HM4 : Hid (movedN u t = movedN t u) := movedN_symm u t
      clear hown HM
      have hltw : w.heap.size < wr.heap.size := hown1.lt
      generalize cntK t u k = cn at *
      rcases Nat.lt_or_ge n n' with hnn | hnn
      · have HM5 : (cn : Int) + ((n' : Int) - (n : Int)) = ((movedN t u : Nat) : Int) := by have := HM2.out; omega
        have hMl : movedN t u ≤ 1000 := by have := HM2.out; omega
        have HMu := Lib.hid (fun w => moved_any A A' n c n' c' w.heap.size t u w)
        have HMv := Lib.hid (fun w => moved_any A' A n' c' n c w.heap.size u t w)
        have HMw := Lib.hid (fun w => moved_any A A n c n c w.heap.size t t w)
        rw [HM3.out] at HMw
        rw [HM4.out] at HMv
        clear HM2 HM3 HM4
        generalize movedN t u = M at *
        clear hkk hk
        go_wp2_with fail
        refine (shares_any A n c wr.heap.size t wr ((hr.below hnx).more hnx.size) (Nat.le_refl _) ht (by omega)).mono ?_
        rintro e w2 ⟨rfl, hgot, hb2⟩
        have hB2 : Below w.heap.size w w2 := hnx.trans (hb2.mono hnx.size)
        have hwant := ownsMap_below hown1 hb2
        have hs2 := hB2.size
        go_wp2_with (at_len; refine stop_ ?_)
        refine on_ ?_
        refine wpList_len_own _ rfl _ _ rfl 3 3 infoM _ wr.heap.size n _ rfl hgot ?_
        go_wp2_with (at_len; refine stop_ ?_)
        refine on_ ?_
        refine wpList_len_own _ rfl _ _ rfl 3 3 infoM _ w.heap.size n _ rfl hwant ?_
        generalize Maps.size (shK t n) = sz
        go_wp2_with fail
        refine (HMu.out w2 ((hr.below hB2).more hs2) ((hr'.below hB2).more hs2) (Nat.le_refl _) (by omega) (by omega)).mono ?_
        rintro e w3 ⟨rfl, hb3⟩
        have hB3 : Below w.heap.size w w3 := hB2.trans (hb3.mono hs2)
        have hs3 := hB3.size
        have hgot3 := ownsMap_below hgot hb3
        have hwant3 := ownsMap_below hwant hb3
        clear hgot hwant hb3 hB2
        go_wp2_with fail
        refine (HMv.out w3 ((hr'.below hB3).more hs3) ((hr.below hB3).more hs3) (Nat.le_refl _) (by omega) (by omega)).mono ?_
        rintro e w4 ⟨rfl, hb4⟩
        have hB4 : Below w.heap.size w w4 := hB3.trans (hb4.mono hs3)
        have hs4 := hB4.size
        have hgot4 := ownsMap_below hgot3 hb4
        have hwant4 := ownsMap_below hwant3 hb4
        clear hgot3 hwant3 hb4 hB3
        go_wp2_with fail
        refine (HMw.out w4 ((hr.below hB4).more hs4) ((hr.below hB4).more hs4) (Nat.le_refl _) (by omega) (by omega)).mono ?_
        rintro e w5 ⟨rfl, hb5⟩
        have hB5 : Below w.heap.size w w5 := hB4.trans (hb5.mono hs4)
        have hs5 := hB5.size
        have hgot5 := ownsMap_below hgot4 hb5
        have hwant5 := ownsMap_below hwant4 hb5
        clear hgot4 hwant4 hb5 hB4 HMu HMv HMw
        go_wp2_with (at_range; refine stop_ ?_)
        refine on_ ?_
        refine wpList_range_own _ rfl _ _ rfl 3 3 lawI infoM _ w.heap.size n _ rfl hwant5 ?_
        intro w0 hrg0 hg0 hs0
        have hgot0 := hgot5.kept hg0 (by simp)
        have hB0 : Below w.heap.size w w0 := hB5.grown hg0 hs5 (fun j hj => by cases hj)
        have hgl : wr.heap.size < w5.heap.size := hgot5.lt
        clear hgot5 hwant5 hB5 hown1 hnx
        obtain ⟨g1, hg1⟩ : ∃ g1, g1 = wr.heap.size := ⟨_, rfl⟩
        rw [← hg1] at hgot0 hltw hgl ⊢
        obtain ⟨r, hr1⟩ : ∃ r, r = w5.heap.size := ⟨_, rfl⟩
        rw [← hr1] at hrg0 hgl ⊢
        clear hg1 hr1 hs0 hs5 hs4 hs3 hs2 hb2
        go_wp2_with fail
        go_frame
        go_loopw [10] (fun _ wq => ∃ (left : Lit → Bool) (cnt : Nat), wq.ranges Try.prog 3 (plainElem Try.prog 3) w.heap.size r n (shK t n) left cnt ∧
            wq.ownsMap Try.prog 3 (plainElem Try.prog 3) g1 n (shK t n) ∧ Below w.heap.size w wq) (fun _ wq => wq.rangeLeft w.heap.size r)
        case atStart => exact ⟨_, _, hrg0, hgot0, hB0⟩
        case round =>
          obtain ⟨left, cnt, hrg, hgot, hBr⟩ := hrel
          clear hrg0 hgot0 hB0 hg0
          go_wp2_with (at_next; refine stop_ ?_)
          refine on_ ?_
          refine wpList_next_ranges_ii _ rfl _ rfl 3 3 .i64 .i64 lawI Try.underlying3 Try.underlying3 w.heap.size r n _ _ _ rfl hrg ?_ ?_
          · intro hc0 hl0
            go_wp2_with fail
            refine (awake18_any _).mono ?_
            rintro e w9 ⟨rfl, hb9⟩
            go_wp2_with fail
            go_ret
            exact ⟨rfl, hBr.trans (hb9.mono hBr.size)⟩
          · intro x cc wx cnt1 hwx hwc hlx hat hrg1 hlt hgx hsx hen
            have hgotx := hgot.kept hgx (by simp; omega)
            obtain ⟨c2, hrun, hat2, _⟩ := hgotx.lookup_int lawI infoM Try.underlying3 (zeroI _) (keyOf_int_mk Try.underlying3 hwx)
            obtain rfl : c2 = cc := by
              have h1 := hat2.symm.trans (hat _)
              injection h1 with h2
              injection h2
            have hBx : Below w.heap.size w wx := hBr.grown hgx hBr.size (fun j hj => by cases hj; omega)
            go_wp2_with fail
            go_roundw
            case rel => exact ⟨_, cnt1, hrg1, hgotx, hBx⟩
            case measure => rw [hrg1.left_eq, hrg.left_eq]; exact hlt
      · have HM5 : (cn : Int) = ((movedN t u : Nat) : Int) := by have := HM2.out; omega
        have hMl : movedN t u ≤ 1000 := by have := HM2.out; omega
        have HMu := Lib.hid (fun w => moved_any A A' n c n' c' w.heap.size t u w)
        have HMv := Lib.hid (fun w => moved_any A' A n' c' n c w.heap.size u t w)
        have HMw := Lib.hid (fun w => moved_any A A n c n c w.heap.size t t w)
        rw [HM3.out] at HMw
        rw [HM4.out] at HMv
        clear HM2 HM3 HM4
        generalize movedN t u = M at *
        clear hkk hk
        go_wp2_with fail
        refine (shares_any A n c wr.heap.size t wr ((hr.below hnx).more hnx.size) (Nat.le_refl _) ht (by omega)).mono ?_
        rintro e w2 ⟨rfl, hgot, hb2⟩
        have hB2 : Below w.heap.size w w2 := hnx.trans (hb2.mono hnx.size)
        have hwant := ownsMap_below hown1 hb2
        have hs2 := hB2.size
        go_wp2_with (at_len; refine stop_ ?_)
        refine on_ ?_
        refine wpList_len_own _ rfl _ _ rfl 3 3 infoM _ wr.heap.size n _ rfl hgot ?_
        go_wp2_with (at_len; refine stop_ ?_)
        refine on_ ?_
        refine wpList_len_own _ rfl _ _ rfl 3 3 infoM _ w.heap.size n _ rfl hwant ?_
        generalize Maps.size (shK t n) = sz
        go_wp2_with fail
        refine (HMu.out w2 ((hr.below hB2).more hs2) ((hr'.below hB2).more hs2) (Nat.le_refl _) (by omega) (by omega)).mono ?_
        rintro e w3 ⟨rfl, hb3⟩
        have hB3 : Below w.heap.size w w3 := hB2.trans (hb3.mono hs2)
        have hs3 := hB3.size
        have hgot3 := ownsMap_below hgot hb3
        have hwant3 := ownsMap_below hwant hb3
        clear hgot hwant hb3 hB2
        go_wp2_with fail
        refine (HMv.out w3 ((hr'.below hB3).more hs3) ((hr.below hB3).more hs3) (Nat.le_refl _) (by omega) (by omega)).mono ?_
        rintro e w4 ⟨rfl, hb4⟩
        have hB4 : Below w.heap.size w w4 := hB3.trans (hb4.mono hs3)
        have hs4 := hB4.size
        have hgot4 := ownsMap_below hgot3 hb4
        have hwant4 := ownsMap_below hwant3 hb4
        clear hgot3 hwant3 hb4 hB3
        go_wp2_with fail
        refine (HMw.out w4 ((hr.below hB4).more hs4) ((hr.below hB4).more hs4) (Nat.le_refl _) (by omega) (by omega)).mono ?_
        rintro e w5 ⟨rfl, hb5⟩
        have hB5 : Below w.heap.size w w5 := hB4.trans (hb5.mono hs4)
        have hs5 := hB5.size
        have hgot5 := ownsMap_below hgot4 hb5
        have hwant5 := ownsMap_below hwant4 hb5
        clear hgot4 hwant4 hb5 hB4 HMu HMv HMw
        go_wp2_with (at_range; refine stop_ ?_)
        refine on_ ?_
        refine wpList_range_own _ rfl _ _ rfl 3 3 lawI infoM _ w.heap.size n _ rfl hwant5 ?_
        intro w0 hrg0 hg0 hs0
        have hgot0 := hgot5.kept hg0 (by simp)
        have hB0 : Below w.heap.size w w0 := hB5.grown hg0 hs5 (fun j hj => by cases hj)
        have hgl : wr.heap.size < w5.heap.size := hgot5.lt
        clear hgot5 hwant5 hB5 hown1 hnx
        obtain ⟨g1, hg1⟩ : ∃ g1, g1 = wr.heap.size := ⟨_, rfl⟩
        rw [← hg1] at hgot0 hltw hgl ⊢
        obtain ⟨r, hr1⟩ : ∃ r, r = w5.heap.size := ⟨_, rfl⟩
        rw [← hr1] at hrg0 hgl ⊢
        clear hg1 hr1 hs0 hs5 hs4 hs3 hs2 hb2
        go_wp2_with fail
        go_frame
        go_loopw [10] (fun _ wq => ∃ (left : Lit → Bool) (cnt : Nat), wq.ranges Try.prog 3 (plainElem Try.prog 3) w.heap.size r n (shK t n) left cnt ∧
            wq.ownsMap Try.prog 3 (plainElem Try.prog 3) g1 n (shK t n) ∧ Below w.heap.size w wq) (fun _ wq => wq.rangeLeft w.heap.size r)
        case atStart => exact ⟨_, _, hrg0, hgot0, hB0⟩
        case round =>
          obtain ⟨left, cnt, hrg, hgot, hBr⟩ := hrel
          clear hrg0 hgot0 hB0 hg0
          go_wp2_with (at_next; refine stop_ ?_)
          refine on_ ?_
          refine wpList_next_ranges_ii _ rfl _ rfl 3 3 .i64 .i64 lawI Try.underlying3 Try.underlying3 w.heap.size r n _ _ _ rfl hrg ?_ ?_
          · intro hc0 hl0
            go_wp2_with fail
            refine (awake18_any _).mono ?_
            rintro e w9 ⟨rfl, hb9⟩
            go_wp2_with fail
            go_ret
            exact ⟨rfl, hBr.trans (hb9.mono hBr.size)⟩
          · intro x cc wx cnt1 hwx hwc hlx hat hrg1 hlt hgx hsx hen
            have hgotx := hgot.kept hgx (by simp; omega)
            obtain ⟨c2, hrun, hat2, _⟩ := hgotx.lookup_int lawI infoM Try.underlying3 (zeroI _) (keyOf_int_mk Try.underlying3 hwx)
            obtain rfl : c2 = cc := by
              have h1 := hat2.symm.trans (hat _)
              injection h1 with h2
              injection h2
            have hBx : Below w.heap.size w wx := hBr.grown hgx hBr.size (fun j hj => by cases hj; omega)
            go_wp2_with fail
            go_roundw
            case rel => exact ⟨_, cnt1, hrg1, hgotx, hBx⟩
            case measure => rw [hrg1.left_eq, hrg.left_eq]; exact hlt
end Go.Proofs.Ytaamflhleommlaa.maglevCounts
