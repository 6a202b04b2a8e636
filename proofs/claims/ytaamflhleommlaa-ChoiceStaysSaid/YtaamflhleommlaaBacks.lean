/- Backends in memory: a slice of structs of three cells. -/
import Derived.Test.YtaamflhleommlaaBits
import Derived.BigRegion
import Derived.BigQuiet
import Derived.Deep.LoopGhost
namespace Go.Proofs.Ytaamflhleommlaa
set_option linter.unusedVariables false
set_option linter.unusedSimpArgs false
open Go.RowKit

structure Be where
  id : Int
  addr : Nat
  weight : Int
def Be.cells (b : Be) : List Value := [.int .i64 b.id, .int .u32 (b.addr : Int), .int .i64 b.weight]
def bks (l : List Be) : List Value := l.flatMap Be.cells
theorem bks_length (l : List Be) : (bks l).length = l.length * 3 := by
  induction l with
  | nil => rfl
  | cons b r ih => simp [bks, Be.cells] at *; omega
theorem bks_get : ∀ (l : List Be) (j : Nat) (h : j < l.length), (bks l)[j * 3]? = some (.int .i64 l[j].id) ∧ (bks l)[j * 3 + 1]? = some (.int .u32 (l[j].addr : Int)) ∧ (bks l)[j * 3 + 2]? = some (.int .i64 l[j].weight)
  | [], _, h => by simp at h
  | b :: r, 0, _ => ⟨rfl, rfl, rfl⟩
  | b :: r, j + 1, h => by
    have ih := bks_get r j (by simpa using h)
    have e : ∀ k, (bks (b :: r))[(j + 1) * 3 + k]? = (bks r)[j * 3 + k]? := by
      intro k
      rw [show (j + 1) * 3 + k = j * 3 + k + 1 + 1 + 1 from by omega]
      rfl
    have e0 := e 0
    simp only [Nat.add_zero] at e0
    rw [e0, e 1, e 2]
    exact ih

/-- numbers as they fit -/
def BesOk (l : List Be) : Prop := ∀ b ∈ l, (-9223372036854775808 ≤ b.id ∧ b.id ≤ 9223372036854775807) ∧ b.addr < 4294967296 ∧ (-9223372036854775808 ≤ b.weight ∧ b.weight ≤ 9223372036854775807)

theorem Reads.be {w : World} {B : Nat} {A : Option Addr} {n : Nat} {l : List Be} (h : Reads w B 3 A n (bks l)) {j : Nat} (hj : j < n) :
    ∃ (b off : Nat) (hl : j < l.length), A = some ⟨b, off, none⟩ ∧ w.cell? ⟨b, off + j * 3, none⟩ = some (.int .i64 l[j].id) ∧ w.cell? ⟨b, off + j * 3 + 1, none⟩ = some (.int .u32 (l[j].addr : Int)) ∧ w.cell? ⟨b, off + j * 3 + 2, none⟩ = some (.int .i64 l[j].weight) := by
  obtain ⟨b, off, ha, _, hc⟩ := h.plain (by omega) (by omega)
  have hl : j < l.length := by have := h.1; rw [bks_length] at this; omega
  obtain ⟨h0, h1, h2⟩ := bks_get l j hl
  exact ⟨b, off, hl, ha, hc _ _ h0, hc _ _ h1, hc _ _ h2⟩
theorem Reads.be_length {w : World} {B : Nat} {A : Option Addr} {n : Nat} {l : List Be} (h : Reads w B 3 A n (bks l)) : l.length = n := by have := h.1; rw [bks_length] at this; omega

/-- what may be -/
def okAt (l : List Be) (j : Nat) : Prop := ∃ h : j < l.length, 0 ≤ l[j].id ∧ l[j].id ≤ 65535 ∧ 1 ≤ l[j].weight ∧ l[j].weight ≤ 10 ∧ ∀ (_ : 0 < j), (l[j - 1]'(by omega)).id < l[j].id

def MayB (n : Nat) (l : List Be) : Prop := 0 < n ∧ n ≤ 16 ∧ ∀ j, j < n → okAt l j
def MayRet (n : Nat) (l : List Be) (e : Ending) : Prop := ∃ b : Bool, e = .returned (.bool b) ∧ (b = true ↔ MayB n l)
theorem mayRet_no {n : Nat} {l : List Be} (h : ¬ MayB n l) : MayRet n l (.returned (.bool false)) := ⟨false, rfl, by simp [h]⟩
theorem mayRet_yes {n : Nat} {l : List Be} (h : MayB n l) : MayRet n l (.returned (.bool true)) := ⟨true, rfl, by simp [h]⟩

set_option maxHeartbeats 1000000 in
set_option maxRecDepth 100000 in
theorem maymany (A : Option Addr) (n c B : Nat) (l : List Be) (w : World) (hr : Reads w B 3 A n (bks l)) (hB : B ≤ w.heap.size) (hok : BesOk l) (hn : n ≤ 46912496118442) (hnc : n ≤ c) :
    Calls Try.prog 30 #[.slice A n c] w fun e w' => MayRet n l e ∧ Below w.heap.size w w' := by
  have hlen := hr.be_length
  by_cases h0 : n = 0
  · subst h0
    go_enter Try.func30, Try.ntmps30
    go_wp2
    go_ret
    exact ⟨mayRet_no (fun h => by have := h.1; omega), Below.refl _ _⟩
  by_cases h16 : 16 < n
  · have hb0 : ((n : Int) == 0) = false := by simp; omega
    go_enter Try.func30, Try.ntmps30
    go_wp2
    go_ret
    exact ⟨mayRet_no (fun h => by have := h.2.1; omega), Below.refl _ _⟩
  have hb0 : ((n : Int) == 0) = false := by simp; omega
  go_enter Try.func30, Try.ntmps30
  go_wp2
  go_loopw [15] (fun i wr => ∃ k : Nat, k ≤ n ∧ i = .int .i64 (k : Int) ∧ Hid (∀ j, j < k → okAt l j) ∧ Below w.heap.size w wr) (fun i _ => n - (intOf i).toNat)
  case atStart => exact ⟨0, by omega, rfl, (fun j h => by omega), Below.refl _ _⟩
  case round =>
    obtain ⟨k, hk, rfl, hall, hbr⟩ := hrel
    by_cases hkn : k < n
    · obtain ⟨b, off, hl, rfl, hc0, hc1, hc2⟩ := (hr.below (hbr.mono hB)).be hkn
      have hp : ∃ y : Int, 0 < k → wr.cell? ⟨b, off + (k - 1) * 3, none⟩ = some (.int .i64 y) ∧ Hid (∃ h : k - 1 < l.length, l[k - 1].id = y) := by
        by_cases h : 0 < k
        · obtain ⟨b', off', hl', e, hc', _⟩ := (hr.below (hbr.mono hB)).be (j := k - 1) (by omega)
          cases e
          exact ⟨_, fun _ => ⟨hc', hl', rfl⟩⟩
        · exact ⟨0, fun h' => absurd h' h⟩
      obtain ⟨y, hy⟩ := hp
      have hdec : Hid (okAt l k ↔ 0 ≤ l[k].id ∧ l[k].id ≤ 65535 ∧ 1 ≤ l[k].weight ∧ l[k].weight ≤ 10 ∧ (0 < k → y < l[k].id)) := by
        constructor
        · rintro ⟨_, h1, h2, h3, h4, h5⟩
          refine ⟨h1, h2, h3, h4, fun h => ?_⟩
          obtain ⟨_, e⟩ := (hy h).2.out
          rw [← e]; exact h5 h
        · rintro ⟨h1, h2, h3, h4, h5⟩
          refine ⟨hl, h1, h2, h3, h4, fun h => ?_⟩
          obtain ⟨_, e⟩ := (hy h).2.out
          rw [e]; exact h5 h
      have hbad : Hid (¬ okAt l k → MayRet n l (.returned (.bool false))) := fun h => mayRet_no (fun hm => h (hm.2.2 k hkn))
      have hgood : Hid (okAt l k → ∀ j, j < k + 1 → okAt l j) := by
        intro h j hj
        by_cases e : j = k
        · subst e; exact h
        · exact hall.out j (by omega)
      have hbl := hok _ (List.getElem_mem hl)
      generalize l[k].id = x at *
      generalize l[k].weight = wt at *
      generalize l[k].addr = ad at *
      obtain ⟨hb1, _, hb3⟩ := hbl
      have hsz := hbr.size
      have hbox : Below w.heap.size w (wr.alloc (.cells #[.int .i64 x, .int .u32 (ad : Int), .int .i64 wt] 27)) := hbr.alloc hsz _
      have hd0 : (wr.alloc (.cells #[.int .i64 x, .int .u32 (ad : Int), .int .i64 wt] 27)).cell? ⟨wr.heap.size, 0, none⟩ = some (.int .i64 x) := (Blk.new wr _ _).cell 0
      have hd2 : (wr.alloc (.cells #[.int .i64 x, .int .u32 (ad : Int), .int .i64 wt] 27)).cell? ⟨wr.heap.size, 2, none⟩ = some (.int .i64 wt) := (Blk.new wr _ _).cell 2
      have hy2 : 0 < k → (wr.alloc (.cells #[.int .i64 x, .int .u32 (ad : Int), .int .i64 wt] 27)).cell? ⟨b, off + (k - 1) * 3, none⟩ = some (.int .i64 y) := fun h => by
        have h1 := (hy h).1
        rw [World.cell?_alloc_lt _ _ _ (World.block_lt_of_cell? wr _ h1)]
        exact h1
      have HY := Lib.hid hy2
      clear hy hy2
      go_wp2
      generalize wr.alloc (.cells #[.int .i64 x, .int .u32 (ad : Int), .int .i64 wt] 27) = w2 at *
      have hcase : (x < 0 ∧ Hid (¬ okAt l k)) ∨ (0 ≤ x ∧ 65535 < x ∧ Hid (¬ okAt l k)) ∨ (0 ≤ x ∧ x ≤ 65535 ∧ wt < 1 ∧ Hid (¬ okAt l k)) ∨ (0 ≤ x ∧ x ≤ 65535 ∧ 1 ≤ wt ∧ 10 < wt ∧ Hid (¬ okAt l k)) ∨
          (0 ≤ x ∧ x ≤ 65535 ∧ 1 ≤ wt ∧ wt ≤ 10 ∧ 0 < k ∧ x ≤ y ∧ Hid (¬ okAt l k)) ∨ (0 ≤ x ∧ x ≤ 65535 ∧ 1 ≤ wt ∧ wt ≤ 10 ∧ 0 < k ∧ y < x ∧ Hid (okAt l k)) ∨ (0 ≤ x ∧ x ≤ 65535 ∧ 1 ≤ wt ∧ wt ≤ 10 ∧ k = 0 ∧ Hid (okAt l k)) := by
        have hd := hdec.out
        unfold Hid
        rw [hd]
        omega
      rcases hcase with ⟨q1, hno⟩ | ⟨q1, q2, hno⟩ | ⟨q1, q2, q3, hno⟩ | ⟨q1, q2, q3, q4, hno⟩ | ⟨q1, q2, q3, q4, hk0, q5, hno⟩ | ⟨q1, q2, q3, q4, hk0, q5, hyes⟩ | ⟨q1, q2, q3, q4, rfl, hyes⟩
      · have d1 : decide (x < 0) = true := decide_eq_true (by omega)
        clear q1
        go_quiet (fail)
        go_wp2
        go_ret
        exact ⟨hbad.out hno.out, hbox.trans ⟨rfl, rfl, rfl, Nat.le_refl _, fun _ _ => rfl⟩⟩
      · have d1 : decide (x < 0) = false := decide_eq_false (by omega)
        have d2 : decide (65535 < x) = true := decide_eq_true (by omega)
        clear q1 q2
        go_quiet (fail)
        go_wp2
        go_ret
        exact ⟨hbad.out hno.out, hbox.trans ⟨rfl, rfl, rfl, Nat.le_refl _, fun _ _ => rfl⟩⟩
      · have d1 : decide (x < 0) = false := decide_eq_false (by omega)
        have d2 : decide (65535 < x) = false := decide_eq_false (by omega)
        have d3 : decide (wt < 1) = true := decide_eq_true (by omega)
        clear q1 q2 q3
        go_quiet (fail)
        go_wp2
        go_ret
        exact ⟨hbad.out hno.out, hbox.trans ⟨rfl, rfl, rfl, Nat.le_refl _, fun _ _ => rfl⟩⟩
      · have d1 : decide (x < 0) = false := decide_eq_false (by omega)
        have d2 : decide (65535 < x) = false := decide_eq_false (by omega)
        have d3 : decide (wt < 1) = false := decide_eq_false (by omega)
        have d4 : decide (10 < wt) = true := decide_eq_true (by omega)
        clear q1 q2 q3 q4
        go_quiet (fail)
        go_wp2
        go_ret
        exact ⟨hbad.out hno.out, hbox.trans ⟨rfl, rfl, rfl, Nat.le_refl _, fun _ _ => rfl⟩⟩
      · have d1 : decide (x < 0) = false := decide_eq_false (by omega)
        have d2 : decide (65535 < x) = false := decide_eq_false (by omega)
        have d3 : decide (wt < 1) = false := decide_eq_false (by omega)
        have d4 : decide (10 < wt) = false := decide_eq_false (by omega)
        have d5 : decide (x ≤ y) = true := decide_eq_true (by omega)
        have d6 : decide (0 < (k : Int)) = true := decide_eq_true (by omega)
        have hcy := HY.out hk0
        obtain ⟨j, hj, hjk⟩ : ∃ j : Nat, k - 1 = j ∧ j < n := ⟨k - 1, rfl, by omega⟩
        have e1 : IntKind.i64.wrap ((k : Int) - 1) = (j : Int) := by rw [IntWalk.i64_in _ (by omega)]; omega
        rw [hj] at hcy
        clear hj
        clear q1 q2 q3 q4 q5
        go_quiet (fail)
        go_wp2
        go_ret
        exact ⟨hbad.out hno.out, hbox.trans ⟨rfl, rfl, rfl, Nat.le_refl _, fun _ _ => rfl⟩⟩
      · have d1 : decide (x < 0) = false := decide_eq_false (by omega)
        have d2 : decide (65535 < x) = false := decide_eq_false (by omega)
        have d3 : decide (wt < 1) = false := decide_eq_false (by omega)
        have d4 : decide (10 < wt) = false := decide_eq_false (by omega)
        have d5 : decide (x ≤ y) = false := decide_eq_false (by omega)
        have d6 : decide (0 < (k : Int)) = true := decide_eq_true (by omega)
        have hcy := HY.out hk0
        obtain ⟨j, hj, hjk⟩ : ∃ j : Nat, k - 1 = j ∧ j < n := ⟨k - 1, rfl, by omega⟩
        have e1 : IntKind.i64.wrap ((k : Int) - 1) = (j : Int) := by rw [IntWalk.i64_in _ (by omega)]; omega
        rw [hj] at hcy
        clear hj
        clear q1 q2 q3 q4 q5
        go_quiet (fail)
        go_wp2
        go_roundw
        case rel => exact ⟨k + 1, by omega, by go_num, hgood.out hyes.out, hbox.trans ⟨rfl, rfl, rfl, Nat.le_refl _, fun _ _ => rfl⟩⟩
        case measure => simp [intOf]; omega
      · have d1 : decide (x < 0) = false := decide_eq_false (by omega)
        have d2 : decide (65535 < x) = false := decide_eq_false (by omega)
        have d3 : decide (wt < 1) = false := decide_eq_false (by omega)
        have d4 : decide (10 < wt) = false := decide_eq_false (by omega)
        clear q1 q2 q3 q4
        go_quiet (fail)
        go_wp2
        go_roundw
        case rel => exact ⟨1, by omega, by go_num, hgood.out hyes.out, hbox.trans ⟨rfl, rfl, rfl, Nat.le_refl _, fun _ _ => rfl⟩⟩
        case measure => simp [intOf]; omega
    · have hfin : Hid (MayRet n l (.returned (.bool true))) := mayRet_yes ⟨by omega, by omega, fun j hj => hall.out j (by omega)⟩
      go_wp2
      go_ret
      exact ⟨hfin.out, hbr⟩
end Go.Proofs.Ytaamflhleommlaa
