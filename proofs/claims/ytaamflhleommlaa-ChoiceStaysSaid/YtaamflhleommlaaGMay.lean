/- The walk of gens.May. -/
import Derived.Test.YtaamflhleommlaaMayBs
import Derived.Test.YtaamflhleommlaaGWo
import Derived.Deep.QuietTactic
namespace Go.Proofs.Ytaamflhleommlaa
set_option linter.unusedVariables false
set_option linter.unusedSimpArgs false
open Go.RowKit

theorem weighed_same (x : Int) (w : World) :
    Calls Try.prog 46 #[.int .i64 x] w fun e w' => e = .returned (.bool (decide (1 ≤ x ∧ x ≤ 10))) ∧ w' = w := by
  obtain ⟨r, hr⟩ : ∃ r, r = decide (1 ≤ x ∧ x ≤ 10) := ⟨_, rfl⟩
  rw [← hr]
  by_cases h1 : 1 ≤ x
  · by_cases h2 : x ≤ 10
    · have HR : Hid (r = true) := hr.trans (decide_eq_true ⟨h1, h2⟩)
      clear hr
      go_enter Try.func46, Try.ntmps46
      go_wp2_with fail
      go_ret
      exact ⟨by rw [HR.out]; rfl, rfl⟩
    · have HR : Hid (r = false) := hr.trans (decide_eq_false (fun h => h2 h.2))
      clear hr
      go_enter Try.func46, Try.ntmps46
      go_wp2_with fail
      go_ret
      exact ⟨by rw [HR.out]; rfl, rfl⟩
  · have HR : Hid (r = false) := hr.trans (decide_eq_false (fun h => h1 h.1))
    clear hr
    go_enter Try.func46, Try.ntmps46
    go_wp2_with fail
    go_ret
    exact ⟨by rw [HR.out]; rfl, rfl⟩

set_option maxHeartbeats 1000000 in
set_option maxRecDepth 100000 in
theorem gmay_any (A : Option Addr) (n c B : Nat) (l : List Be) (w : World) (hr : Reads w B 3 A n (bks l)) (hB : B ≤ w.heap.size) (hok : BesOk l) (hn : n ≤ 46912496118442) (hnc : n ≤ c) :
    Calls Try.prog 36 #[.slice A n c] w fun e w' => MayBsRet n l e ∧ Below w.heap.size w w' := by
  have hlen := hr.be_length
  by_cases h16 : 16 < n
  · go_enter Try.func36, Try.ntmps36
    go_wp2
    go_ret
    exact ⟨mayBsRet_no (fun h => by have := h.1; omega), Below.refl _ _⟩
  go_enter Try.func36, Try.ntmps36
  go_wp2
  go_loopw [10] (fun i wr => ∃ k : Nat, k ≤ n ∧ i = .int .i64 (k : Int) ∧ Hid (∀ j, j < k → okAt l j) ∧ Below w.heap.size w wr) (fun i _ => n - (intOf i).toNat)
  case atStart => exact ⟨0, by omega, rfl, (fun j h => by omega), Below.refl _ _⟩
  case round =>
    obtain ⟨k, hk, rfl, hall, hbr⟩ := hrel
    by_cases hkn : k < n
    · obtain ⟨b, off, hl, rfl, hc0, hc1, hc2⟩ := (hr.below (hbr.mono hB)).be hkn
      have hp : ∃ y : Int, 0 < k → wr.cell? ⟨b, off + (k - 1) * 3, none⟩ = some (.int .i64 y) ∧ Hid (∃ h : k - 1 < l.length, l[k - 1].id = y) := by
        by_cases h : 0 < k
        · obtain ⟨b', off', hl', e, hc', _⟩ := (hr.below (hbr.mono hB)).be (j := k - 1) (by omega)
          cases e
          exact ⟨_, fun _ => ⟨hc', hl', rfl⟩⟩
        · exact ⟨0, fun h' => absurd h' h⟩
      obtain ⟨y, hy⟩ := hp
      have hdec : Hid (okAt l k ↔ 0 ≤ l[k].id ∧ l[k].id ≤ 65535 ∧ 1 ≤ l[k].weight ∧ l[k].weight ≤ 10 ∧ (0 < k → y < l[k].id)) := by
        constructor
        · rintro ⟨_, h1, h2, h3, h4, h5⟩
          refine ⟨h1, h2, h3, h4, fun h => ?_⟩
          obtain ⟨_, e⟩ := (hy h).2.out
          rw [← e]; exact h5 h
        · rintro ⟨h1, h2, h3, h4, h5⟩
          refine ⟨hl, h1, h2, h3, h4, fun h => ?_⟩
          obtain ⟨_, e⟩ := (hy h).2.out
          rw [e]; exact h5 h
      have hbad : Hid (¬ okAt l k → MayBsRet n l (.returned (.bool false))) := fun h => mayBsRet_no (fun hm => h (hm.2 k hkn))
      have hgood : Hid (okAt l k → ∀ j, j < k + 1 → okAt l j) := by
        intro h j hj
        by_cases e : j = k
        · subst e; exact h
        · exact hall.out j (by omega)
      have hbl := hok _ (List.getElem_mem hl)
      generalize l[k].id = x at *
      generalize l[k].weight = wt at *
      generalize l[k].addr = ad at *
      obtain ⟨hb1, _, hb3⟩ := hbl
      have hsz := hbr.size
      have hbox : Below w.heap.size w (wr.alloc (.cells #[.int .i64 x, .int .u32 (ad : Int), .int .i64 wt] 27)) := hbr.alloc hsz _
      have hd0 : (wr.alloc (.cells #[.int .i64 x, .int .u32 (ad : Int), .int .i64 wt] 27)).cell? ⟨wr.heap.size, 0, none⟩ = some (.int .i64 x) := (Blk.new wr _ _).cell 0
      have hd2 : (wr.alloc (.cells #[.int .i64 x, .int .u32 (ad : Int), .int .i64 wt] 27)).cell? ⟨wr.heap.size, 2, none⟩ = some (.int .i64 wt) := (Blk.new wr _ _).cell 2
      have hy2 : 0 < k → (wr.alloc (.cells #[.int .i64 x, .int .u32 (ad : Int), .int .i64 wt] 27)).cell? ⟨b, off + (k - 1) * 3, none⟩ = some (.int .i64 y) := fun h => by
        have h1 := (hy h).1
        rw [World.cell?_alloc_lt _ _ _ (World.block_lt_of_cell? wr _ h1)]
        exact h1
      have HY := Lib.hid hy2
      clear hy hy2
      go_wp2
      generalize wr.alloc (.cells #[.int .i64 x, .int .u32 (ad : Int), .int .i64 wt] 27) = w2 at *
      have hcase : (x < 0 ∧ Hid (¬ okAt l k)) ∨ (0 ≤ x ∧ 65535 < x ∧ Hid (¬ okAt l k)) ∨ (0 ≤ x ∧ x ≤ 65535 ∧ ¬ (1 ≤ wt ∧ wt ≤ 10) ∧ Hid (¬ okAt l k)) ∨
          (0 ≤ x ∧ x ≤ 65535 ∧ (1 ≤ wt ∧ wt ≤ 10) ∧ 0 < k ∧ x ≤ y ∧ Hid (¬ okAt l k)) ∨ (0 ≤ x ∧ x ≤ 65535 ∧ (1 ≤ wt ∧ wt ≤ 10) ∧ 0 < k ∧ y < x ∧ Hid (okAt l k)) ∨ (0 ≤ x ∧ x ≤ 65535 ∧ (1 ≤ wt ∧ wt ≤ 10) ∧ k = 0 ∧ Hid (okAt l k)) := by
        have hd := hdec.out
        unfold Hid
        rw [hd]
        omega
      have CW := Lib.hid (fun w => weighed_same wt w)
      rcases hcase with ⟨q1, hno⟩ | ⟨q1, q2, hno⟩ | ⟨q1, q2, q3, hno⟩ | ⟨q1, q2, q3, hk0, q5, hno⟩ | ⟨q1, q2, q3, hk0, q5, hyes⟩ | ⟨q1, q2, q3, rfl, hyes⟩
      · have d1 : decide (x < 0) = true := decide_eq_true (by omega)
        clear q1
        go_quiet (fail)
        go_wp2
        go_ret
        exact ⟨hbad.out hno.out, hbox.trans ⟨rfl, rfl, rfl, Nat.le_refl _, fun _ _ => rfl⟩⟩
      · have d1 : decide (x < 0) = false := decide_eq_false (by omega)
        have d2 : decide (65535 < x) = true := decide_eq_true (by omega)
        clear q1 q2
        go_quiet (fail)
        go_wp2
        go_ret
        exact ⟨hbad.out hno.out, hbox.trans ⟨rfl, rfl, rfl, Nat.le_refl _, fun _ _ => rfl⟩⟩
      · have d1 : decide (x < 0) = false := decide_eq_false (by omega)
        have d2 : decide (65535 < x) = false := decide_eq_false (by omega)
        have d3 : decide (1 ≤ wt ∧ wt ≤ 10) = false := decide_eq_false q3
        rw [d3] at CW
        clear d3
        clear q1 q2 q3
        go_quiet (first | (go_at_call 46; exact Calls.quiet_of_same (CW.out _)))
        go_wp2
        go_ret
        exact ⟨hbad.out hno.out, hbox.trans ⟨rfl, rfl, rfl, Nat.le_refl _, fun _ _ => rfl⟩⟩
      · have d1 : decide (x < 0) = false := decide_eq_false (by omega)
        have d2 : decide (65535 < x) = false := decide_eq_false (by omega)
        have d5 : decide (x ≤ y) = true := decide_eq_true (by omega)
        have d6 : decide (0 < (k : Int)) = true := decide_eq_true (by omega)
        have hcy := HY.out hk0
        obtain ⟨j, hj, hjk⟩ : ∃ j : Nat, k - 1 = j ∧ j < n := ⟨k - 1, rfl, by omega⟩
        have e1 : IntKind.i64.wrap ((k : Int) - 1) = (j : Int) := by rw [IntWalk.i64_in _ (by omega)]; omega
        rw [hj] at hcy
        clear hj
        have d3 : decide (1 ≤ wt ∧ wt ≤ 10) = true := decide_eq_true q3
        rw [d3] at CW
        clear d3
        clear q1 q2 q3 q5
        go_quiet (first | (go_at_call 46; exact Calls.quiet_of_same (CW.out _)))
        go_wp2
        go_ret
        exact ⟨hbad.out hno.out, hbox.trans ⟨rfl, rfl, rfl, Nat.le_refl _, fun _ _ => rfl⟩⟩
      · have d1 : decide (x < 0) = false := decide_eq_false (by omega)
        have d2 : decide (65535 < x) = false := decide_eq_false (by omega)
        have d5 : decide (x ≤ y) = false := decide_eq_false (by omega)
        have d6 : decide (0 < (k : Int)) = true := decide_eq_true (by omega)
        have hcy := HY.out hk0
        obtain ⟨j, hj, hjk⟩ : ∃ j : Nat, k - 1 = j ∧ j < n := ⟨k - 1, rfl, by omega⟩
        have e1 : IntKind.i64.wrap ((k : Int) - 1) = (j : Int) := by rw [IntWalk.i64_in _ (by omega)]; omega
        rw [hj] at hcy
        clear hj
        have d3 : decide (1 ≤ wt ∧ wt ≤ 10) = true := decide_eq_true q3
        rw [d3] at CW
        clear d3
        clear q1 q2 q3 q5
        go_quiet (first | (go_at_call 46; exact Calls.quiet_of_same (CW.out _)))
        go_wp2
        go_roundw
        case rel => exact ⟨k + 1, by omega, by go_num, hgood.out hyes.out, hbox.trans ⟨rfl, rfl, rfl, Nat.le_refl _, fun _ _ => rfl⟩⟩
        case measure => simp [intOf]; omega
      · have d1 : decide (x < 0) = false := decide_eq_false (by omega)
        have d2 : decide (65535 < x) = false := decide_eq_false (by omega)
        have d3 : decide (1 ≤ wt ∧ wt ≤ 10) = true := decide_eq_true q3
        rw [d3] at CW
        clear d3
        clear q1 q2 q3
        go_quiet (first | (go_at_call 46; exact Calls.quiet_of_same (CW.out _)))
        go_wp2
        go_roundw
        case rel => exact ⟨1, by omega, by go_num, hgood.out hyes.out, hbox.trans ⟨rfl, rfl, rfl, Nat.le_refl _, fun _ _ => rfl⟩⟩
        case measure => simp [intOf]; omega
    · have hfin : Hid (MayBsRet n l (.returned (.bool true))) := mayBsRet_yes ⟨by omega, fun j hj => hall.out j (by omega)⟩
      go_wp2
      go_ret
      exact ⟨hfin.out, hbr⟩
end Go.Proofs.Ytaamflhleommlaa
