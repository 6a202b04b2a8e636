/- The walks of ints and maglev.Moved. -/
import Derived.Test.YtaamflhleommlaaShares
import Derived.BigRegion
import Derived.BigQuiet
namespace Go.Proofs.Ytaamflhleommlaa
set_option linter.unusedVariables false
set_option linter.unusedSimpArgs false
open Go.RowKit

theorem list_ext_getD {t u : List Int} (hl : t.length = u.length) (h : ∀ i, i < t.length → t.getD i 0 = u.getD i 0) : t = u := by
  apply List.ext_getElem hl
  intro i h1 h2
  have := h i h1
  simpa [h1, h2] using this

set_option maxRecDepth 100000 in
theorem ints_any (A A' : Option Addr) (n c n' c' B : Nat) (t u : List Int) (w : World) (hr : Reads w B 1 A n (iv t)) (hr' : Reads w B 1 A' n' (iv u)) (hB : B ≤ w.heap.size) (hn : n ≤ 140737488355328) :
    Calls Try.prog 13 #[.slice A n c, .slice A' n' c'] w fun e w' => e = .returned (.bool (decide (t = u))) ∧ Below w.heap.size w w' := by
  have hlen := hr.int_length
  have hlen' := hr'.int_length
  by_cases hnn : n = n'
  · subst hnn
    go_enter Try.func13, Try.ntmps13
    go_wp2
    go_loopw [13] (fun i wr => ∃ k : Nat, k ≤ n ∧ i = .int .i64 (k : Int) ∧ Hid (∀ j, j < k → t.getD j 0 = u.getD j 0) ∧ Below w.heap.size w wr) (fun i _ => n - (intOf i).toNat)
    case atStart => exact ⟨0, Nat.zero_le _, rfl, fun j h => by omega, Below.refl _ _⟩
    case round =>
      obtain ⟨k, hk, rfl, hall, hnx⟩ := hrel
      by_cases hkn : k < n
      · obtain ⟨b, off, hl, rfl, hc⟩ := (hr.below (hnx.mono hB)).int_ hkn
        obtain ⟨b', off', hl', rfl, hc'⟩ := (hr'.below (hnx.mono hB)).int_ hkn
        have hgd : t.getD k 0 = t[k] := by simp [hl]
        have hgd' : u.getD k 0 = u[k] := by simp [hl']
        by_cases hxy : t[k] = u[k]
        · have hnext : Hid (∀ j, j < k + 1 → t.getD j 0 = u.getD j 0) := by
            intro j hj
            by_cases e : j = k
            · rw [e, hgd, hgd', hxy]
            · exact hall.out j (by omega)
          have hb1 : (t[k] != u[k]) = false := by simpa using hxy
          generalize t[k] = x at *
          generalize u[k] = y at *
          subst hxy
          clear hgd hgd'
          go_wp2
          go_region
          go_wp2
          go_roundw
          case rel => exact ⟨k + 1, by omega, by go_num, hnext, hnx.drew⟩
          case measure => simp [intOf]; omega
        · have hne : Hid (decide (t = u) = false) := by
            show _ = _
            rw [decide_eq_false_iff_not]
            rintro rfl
            exact hxy rfl
          have hb1 : (t[k] != u[k]) = true := by simpa using hxy
          have hb2 : (t[k] == u[k]) = false := by simpa using hxy
          generalize t[k] = x at *
          generalize u[k] = y at *
          clear hgd hgd' hxy
          go_wp2
          go_region
          go_wp2
          go_ret
          rw [hne.out]
          exact ⟨rfl, hnx.drew⟩
      · have hyes : Hid (decide (t = u) = true) := by
          show _ = _
          rw [decide_eq_true_eq]
          exact list_ext_getD (by omega) fun i hi => hall.out i (by omega)
        go_wp2
        go_ret
        rw [hyes.out]
        exact ⟨rfl, hnx⟩
  · have hno : Hid (decide (t = u) = false) := by
      show _ = _
      rw [decide_eq_false_iff_not]
      rintro rfl
      omega
    have hb1 : ((n : Int) == (n' : Int)) = false := by simpa using fun h : (n : Int) = n' => hnn (by omega)
    have hb2 : ((n : Int) != (n' : Int)) = true := by simpa using fun h : (n : Int) = n' => hnn (by omega)
    go_enter Try.func13, Try.ntmps13
    go_wp2
    go_ret
    rw [hno.out]
    exact ⟨rfl, Below.refl _ _⟩

/-- in how many of the first k places two tables differ -/
def diffK (t u : List Int) : Nat → Nat
  | 0 => 0
  | k + 1 => diffK t u k + if t.getD k 0 = u.getD k 0 then 0 else 1
theorem diffK_le (t u : List Int) : ∀ k, diffK t u k ≤ k
  | 0 => Nat.le_refl _
  | k + 1 => by
    have := diffK_le t u k
    unfold diffK
    split <;> omega
theorem diffK_self (t : List Int) : ∀ k, diffK t t k = 0
  | 0 => rfl
  | k + 1 => by unfold diffK; rw [diffK_self t k, if_pos rfl]
theorem diffK_symm (t u : List Int) : ∀ k, diffK t u k = diffK u t k
  | 0 => rfl
  | k + 1 => by
    unfold diffK
    rw [diffK_symm t u k]
    by_cases h : t.getD k 0 = u.getD k 0
    · rw [if_pos h, if_pos h.symm]
    · rw [if_neg h, if_neg (fun e => h e.symm)]
def movedN (t u : List Int) : Nat := max t.length u.length - min t.length u.length + diffK t u (min t.length u.length)
theorem movedN_self (t : List Int) : movedN t t = 0 := by unfold movedN; rw [diffK_self]; omega
theorem movedN_symm (t u : List Int) : movedN t u = movedN u t := by
  unfold movedN
  rw [Nat.max_comm, Nat.min_comm, diffK_symm]

set_option maxRecDepth 100000 in
theorem moved_any (A A' : Option Addr) (n c n' c' B : Nat) (t u : List Int) (w : World) (hr : Reads w B 1 A n (iv t)) (hr' : Reads w B 1 A' n' (iv u)) (hB : B ≤ w.heap.size) (hn : n ≤ 140737488355328) (hn' : n' ≤ 140737488355328) :
    Calls Try.prog 16 #[.slice A n c, .slice A' n' c'] w fun e w' => e = .returned (.int .i64 (movedN t u)) ∧ Below w.heap.size w w' := by
  have hlen := hr.int_length
  have hlen' := hr'.int_length
  rcases Nat.lt_trichotomy n n' with hnn | hnn | hnn
  · have hM : Hid (movedN t u = (n' - n) + diffK t u n) := by
      show _ = _
      unfold movedN
      rw [hlen, hlen']
      congr 1
      · omega
      · congr 1; omega
    go_enter Try.func16, Try.ntmps16
    go_wp2
    go_loopw [5, 23] (fun v i wr => ∃ k : Nat, k ≤ n ∧ i = .int .i64 (k : Int) ∧ v = .int .i64 ((((n' - n) + diffK t u k : Nat)) : Int) ∧ Below w.heap.size w wr) (fun _ i _ => n - (intOf i).toNat)
    case atStart => exact ⟨0, Nat.zero_le _, rfl, by simp [diffK]; omega, Below.refl _ _⟩
    case round =>
      obtain ⟨k, hk, rfl, rfl, hnx⟩ := hrel
      have hdl := diffK_le t u k
      by_cases hkn : k < n
      · obtain ⟨b, off, hl, rfl, hc⟩ := (hr.below (hnx.mono hB)).int_ (j := k) (by omega)
        obtain ⟨b', off', hl', rfl, hc'⟩ := (hr'.below (hnx.mono hB)).int_ (j := k) (by omega)
        have hgd : t.getD k 0 = t[k] := by simp [hl]
        have hgd' : u.getD k 0 = u[k] := by simp [hl']
        by_cases hxy : t[k] = u[k]
        · have hnext : Hid (diffK t u (k + 1) = diffK t u k) := by
            show _ = _
            rw [diffK, hgd, hgd', if_pos hxy, Nat.add_zero]
          have hb1 : (t[k] != u[k]) = false := by simpa using hxy
          generalize t[k] = x at *
          generalize u[k] = y at *
          subst hxy
          clear hgd hgd'
          generalize diffK t u k = q at *
          go_wp2
          go_region
          go_wp2
          go_roundw
          case rel => exact ⟨k + 1, by omega, by go_num, by rw [hnext.out], hnx.drew⟩
          case measure => simp [intOf]; omega
        · have hnext : Hid (diffK t u (k + 1) = diffK t u k + 1) := by
            show _ = _
            rw [diffK, hgd, hgd', if_neg hxy]
          have hb1 : (t[k] != u[k]) = true := by simpa using hxy
          have hb2 : (t[k] == u[k]) = false := by simpa using hxy
          generalize t[k] = x at *
          generalize u[k] = y at *
          clear hgd hgd' hxy
          generalize diffK t u k = q at *
          go_wp2
          go_region
          go_wp2
          go_roundw
          case rel => exact ⟨k + 1, by omega, by go_num, by rw [hnext.out]; go_num, hnx.drew⟩
          case measure => simp [intOf]; omega
      · have hkk : k = n := by omega
        have hfin : Hid (movedN t u = (n' - n) + diffK t u k) := by rw [hkk]; exact hM
        generalize diffK t u k = q at *
        clear hkk
        go_wp2
        go_ret
        rw [hfin.out]
        exact ⟨rfl, hnx⟩
  · subst hnn
    have hM : Hid (movedN t u = 0 + diffK t u n) := by
      show _ = _
      unfold movedN
      rw [hlen, hlen']
      congr 1
      · omega
      · congr 1; omega
    go_enter Try.func16, Try.ntmps16
    go_wp2
    go_loopw [5, 23] (fun v i wr => ∃ k : Nat, k ≤ n ∧ i = .int .i64 (k : Int) ∧ v = .int .i64 (((0 + diffK t u k : Nat)) : Int) ∧ Below w.heap.size w wr) (fun _ i _ => n - (intOf i).toNat)
    case atStart => exact ⟨0, Nat.zero_le _, rfl, by simp [diffK], Below.refl _ _⟩
    case round =>
      obtain ⟨k, hk, rfl, rfl, hnx⟩ := hrel
      have hdl := diffK_le t u k
      by_cases hkn : k < n
      · obtain ⟨b, off, hl, rfl, hc⟩ := (hr.below (hnx.mono hB)).int_ (j := k) (by omega)
        obtain ⟨b', off', hl', rfl, hc'⟩ := (hr'.below (hnx.mono hB)).int_ (j := k) (by omega)
        have hgd : t.getD k 0 = t[k] := by simp [hl]
        have hgd' : u.getD k 0 = u[k] := by simp [hl']
        by_cases hxy : t[k] = u[k]
        · have hnext : Hid (diffK t u (k + 1) = diffK t u k) := by
            show _ = _
            rw [diffK, hgd, hgd', if_pos hxy, Nat.add_zero]
          have hb1 : (t[k] != u[k]) = false := by simpa using hxy
          generalize t[k] = x at *
          generalize u[k] = y at *
          subst hxy
          clear hgd hgd'
          generalize diffK t u k = q at *
          go_wp2
          go_region
          go_wp2
          go_roundw
          case rel => exact ⟨k + 1, by omega, by go_num, by rw [hnext.out], hnx.drew⟩
          case measure => simp [intOf]; omega
        · have hnext : Hid (diffK t u (k + 1) = diffK t u k + 1) := by
            show _ = _
            rw [diffK, hgd, hgd', if_neg hxy]
          have hb1 : (t[k] != u[k]) = true := by simpa using hxy
          have hb2 : (t[k] == u[k]) = false := by simpa using hxy
          generalize t[k] = x at *
          generalize u[k] = y at *
          clear hgd hgd' hxy
          generalize diffK t u k = q at *
          go_wp2
          go_region
          go_wp2
          go_roundw
          case rel => exact ⟨k + 1, by omega, by go_num, by rw [hnext.out]; go_num, hnx.drew⟩
          case measure => simp [intOf]; omega
      · have hkk : k = n := by omega
        have hfin : Hid (movedN t u = 0 + diffK t u k) := by rw [hkk]; exact hM
        generalize diffK t u k = q at *
        clear hkk
        go_wp2
        go_ret
        rw [hfin.out]
        exact ⟨rfl, hnx⟩
  · have hM : Hid (movedN t u = (n - n') + diffK t u n') := by
      show _ = _
      unfold movedN
      rw [hlen, hlen']
      congr 1
      · omega
      · congr 1; omega
    go_enter Try.func16, Try.ntmps16
    go_wp2
    go_loopw [5, 23] (fun v i wr => ∃ k : Nat, k ≤ n' ∧ i = .int .i64 (k : Int) ∧ v = .int .i64 ((((n - n') + diffK t u k : Nat)) : Int) ∧ Below w.heap.size w wr) (fun _ i _ => n' - (intOf i).toNat)
    case atStart => exact ⟨0, Nat.zero_le _, rfl, by simp [diffK]; omega, Below.refl _ _⟩
    case round =>
      obtain ⟨k, hk, rfl, rfl, hnx⟩ := hrel
      have hdl := diffK_le t u k
      by_cases hkn : k < n'
      · obtain ⟨b, off, hl, rfl, hc⟩ := (hr.below (hnx.mono hB)).int_ (j := k) (by omega)
        obtain ⟨b', off', hl', rfl, hc'⟩ := (hr'.below (hnx.mono hB)).int_ (j := k) (by omega)
        have hgd : t.getD k 0 = t[k] := by simp [hl]
        have hgd' : u.getD k 0 = u[k] := by simp [hl']
        by_cases hxy : t[k] = u[k]
        · have hnext : Hid (diffK t u (k + 1) = diffK t u k) := by
            show _ = _
            rw [diffK, hgd, hgd', if_pos hxy, Nat.add_zero]
          have hb1 : (t[k] != u[k]) = false := by simpa using hxy
          generalize t[k] = x at *
          generalize u[k] = y at *
          subst hxy
          clear hgd hgd'
          generalize diffK t u k = q at *
          go_wp2
          go_region
          go_wp2
          go_roundw
          case rel => exact ⟨k + 1, by omega, by go_num, by rw [hnext.out], hnx.drew⟩
          case measure => simp [intOf]; omega
        · have hnext : Hid (diffK t u (k + 1) = diffK t u k + 1) := by
            show _ = _
            rw [diffK, hgd, hgd', if_neg hxy]
          have hb1 : (t[k] != u[k]) = true := by simpa using hxy
          have hb2 : (t[k] == u[k]) = false := by simpa using hxy
          generalize t[k] = x at *
          generalize u[k] = y at *
          clear hgd hgd' hxy
          generalize diffK t u k = q at *
          go_wp2
          go_region
          go_wp2
          go_roundw
          case rel => exact ⟨k + 1, by omega, by go_num, by rw [hnext.out]; go_num, hnx.drew⟩
          case measure => simp [intOf]; omega
      · have hkk : k = n' := by omega
        have hfin : Hid (movedN t u = (n - n') + diffK t u k) := by rw [hkk]; exact hM
        generalize diffK t u k = q at *
        clear hkk
        go_wp2
        go_ret
        rw [hfin.out]
        exact ⟨rfl, hnx⟩
end Go.Proofs.Ytaamflhleommlaa
