/- Backends by the reference's MayBackend; a table hangs on numbers and weights alone. -/
import Derived.Test.YtaamflhleommlaaFairC
import Derived.Test.YtaamflhleommlaaOpenBes
namespace Go.Proofs.Ytaamflhleommlaa
set_option linter.unusedVariables false
set_option linter.unusedSimpArgs false
open Go.RowKit

def idB' (x : Int) : Bool := decide (0 ≤ x ∧ x ≤ 65535)
theorem id4_any (x : Int) (w : World) : Calls Try.prog 32 #[.int .i64 x] w fun e w' => e = .returned (.bool (idB' x)) ∧ w = w' := by
  by_cases h0 : 0 ≤ x
  · by_cases h1 : x ≤ 65535
    · have H : Hid (idB' x = true) := decide_eq_true ⟨h0, h1⟩
      go_enter Try.func32, Try.ntmps32
      go_wp2_with fail
      go_ret
      exact ⟨by rw [H.out]; rfl, rfl⟩
    · have H : Hid (idB' x = false) := decide_eq_false (by omega)
      go_enter Try.func32, Try.ntmps32
      go_wp2_with fail
      go_ret
      exact ⟨by rw [H.out]; rfl, rfl⟩
  · have H : Hid (idB' x = false) := decide_eq_false (by omega)
    go_enter Try.func32, Try.ntmps32
    go_wp2_with fail
    go_ret
    exact ⟨by rw [H.out]; rfl, rfl⟩
def Be.agg (b : Be) : Value := .agg #[.int .i64 b.id, .int .u32 (b.addr : Int), .int .i64 b.weight]
def okB (b : Be) : Bool := decide (0 ≤ b.id ∧ b.id ≤ 65535 ∧ 1 ≤ b.weight ∧ b.weight ≤ 10)
theorem okB_iff {b : Be} : okB b = true ↔ 0 ≤ b.id ∧ b.id ≤ 65535 ∧ 1 ≤ b.weight ∧ b.weight ≤ 10 := by unfold okB; rw [decide_eq_true_eq]

theorem mayBackend_any (x : Int) (ad : Nat) (y : Int) (w : World) : Calls Try.prog 14 #[.agg #[.int .i64 x, .int .u32 (ad : Int), .int .i64 y]] w fun e w' => e = .returned (.bool (okB ⟨x, ad, y⟩)) ∧ Below w.heap.size w w' := by
  have HI := Lib.hid (id4_any x)
  have hb : ∀ B, (B = true ↔ (0 ≤ x ∧ x ≤ 65535) ∧ 1 ≤ y ∧ y ≤ 10) → B = okB ⟨x, ad, y⟩ := by
    intro B h
    rw [Bool.eq_iff_iff, h, okB_iff, and_assoc]
  cases hi : idB' x with
  | false =>
    have HB : Hid (false = okB ⟨x, ad, y⟩) := hb false (by
      constructor
      · intro h; cases h
      · intro h
        have : idB' x = true := decide_eq_true h.1
        rw [this] at hi; cases hi)
    rw [hi] at HI
    clear hi hb
    go_enter Try.func14, Try.ntmps14
    go_wp2_with fail
    refine (HI.out _).mono ?_
    rintro e w' ⟨rfl, rfl⟩
    go_wp2_with fail
    go_ret
    exact ⟨by rw [← HB.out]; rfl, (Below.refl _ _).alloc (Nat.le_refl _) _⟩
  | true =>
    have hx : 0 ≤ x ∧ x ≤ 65535 := of_decide_eq_true hi
    by_cases h1 : 1 ≤ y
    · by_cases h2 : y ≤ 10
      · have HB : Hid (true = okB ⟨x, ad, y⟩) := hb true (by simp [hx, h1, h2])
        rw [hi] at HI
        clear hi hb
        go_enter Try.func14, Try.ntmps14
        go_wp2_with fail
        refine (HI.out _).mono ?_
        rintro e w' ⟨rfl, rfl⟩
        go_wp2_with fail
        go_ret
        exact ⟨by rw [← HB.out]; rfl, (Below.refl _ _).alloc (Nat.le_refl _) _⟩
      · have HB : Hid (false = okB ⟨x, ad, y⟩) := hb false (by simp; omega)
        have hd : decide (y ≤ 10) = false := decide_eq_false h2
        rw [hi] at HI
        clear hi hb
        go_enter Try.func14, Try.ntmps14
        go_wp2_with fail
        refine (HI.out _).mono ?_
        rintro e w' ⟨rfl, rfl⟩
        go_wp2_with fail
        go_ret
        exact ⟨by rw [← HB.out]; rfl, (Below.refl _ _).alloc (Nat.le_refl _) _⟩
    · have HB : Hid (false = okB ⟨x, ad, y⟩) := hb false (by simp; omega)
      rw [hi] at HI
      clear hi hb
      go_enter Try.func14, Try.ntmps14
      go_wp2_with fail
      refine (HI.out _).mono ?_
      rintro e w' ⟨rfl, rfl⟩
      go_wp2_with fail
      go_ret
      exact ⟨by rw [← HB.out]; rfl, (Below.refl _ _).alloc (Nat.le_refl _) _⟩

/-! ### numbers and weights alone -/
theorem mayB_map {l : List Be} (f : Be → Be) (h1 : ∀ b, (f b).id = b.id) (h2 : ∀ b, (f b).weight = b.weight) (n : Nat) : MayB n (l.map f) ↔ MayB n l := by
  have key : ∀ j, okAt (l.map f) j ↔ okAt l j := by
    intro j
    constructor
    · rintro ⟨h, a1, a2, a3, a4, a5⟩
      refine ⟨by simpa using h, ?_, ?_, ?_, ?_, ?_⟩
      · simpa [h1] using a1
      · simpa [h1] using a2
      · simpa [h2] using a3
      · simpa [h2] using a4
      · intro h0; simpa [h1] using a5 h0
    · rintro ⟨h, a1, a2, a3, a4, a5⟩
      refine ⟨by simpa using h, ?_, ?_, ?_, ?_, ?_⟩
      · simpa [h1] using a1
      · simpa [h1] using a2
      · simpa [h2] using a3
      · simpa [h2] using a4
      · intro h0; simpa [h1] using a5 h0
  unfold MayB
  simp only [key]
theorem tableF_map {l : List Be} (f : Be → Be) (h1 : ∀ b, (f b).id = b.id) (h2 : ∀ b, (f b).weight = b.weight) (n : Nat) : tableF (l.map f) n = tableF l n := by
  have hb : ∀ b, bkOf n (f b) = bkOf n b := fun b => by unfold bkOf; rw [h1, h2]
  by_cases h : MayB l.length l
  · rw [tableF_yes h, tableF_yes (by rw [List.length_map]; exact (mayB_map f h1 h2 _).2 h), List.map_map]
    congr 1
    exact List.map_congr_left fun b _ => hb b
  · rw [tableF_no h, tableF_no (fun h' => h ((mayB_map f h1 h2 _).1 (by rwa [List.length_map] at h')))]
theorem may_one {b : Be} (h : okB b = true) : MayB [b].length [b] := by
  obtain ⟨a1, a2, a3, a4⟩ := okB_iff.1 h
  refine ⟨by simp, by simp, fun j hj => ?_⟩
  have : j = 0 := by simp at hj; omega
  subst this
  exact ⟨by simp, a1, a2, a3, a4, fun h => absurd h (by omega)⟩
theorem table_one {b : Be} {n : Nat} (hm : mayN n = true) (h : okB b = true) : (tableF [b] n).length = n ∧ ∀ x ∈ tableF [b] n, x = b.id := by
  have hg := good_of hm (may_one h)
  rw [tableF_yes (may_one h)]
  refine ⟨tableB_length hg, fun x hx => ?_⟩
  obtain ⟨y, hy, e⟩ := tableB_full hg x hx
  simp at hy
  rw [e, hy]
  rfl
end Go.Proofs.Ytaamflhleommlaa
