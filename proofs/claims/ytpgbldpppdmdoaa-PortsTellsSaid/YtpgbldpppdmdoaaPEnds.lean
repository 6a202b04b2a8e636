/- The walk of ports.Ends. -/
import Derived.Test.YtpgbldpppdmdoaaPortsLaws
namespace Go.Proofs.Ytpgbldpppdmdoaa
set_option linter.unusedVariables false
set_option linter.unusedSimpArgs false
open Go.RowKit

theorem u8_and5 (x : Nat) (hx : x < 256) : bits .and .u8 (x : Int) 5 = ((x &&& 5 : Nat) : Int) :=
  (bits_nat .u8 8 (by decide) (fun n h0 h1 => by
    have e : (2 : Int) ^ 8 = 256 := by decide
    rw [IntKind.wrap_u8]
    omega) x 5 (by omega) (by omega)).1

theorem whyT_tcp {l : List Nat} (h : whyT l = 0) (h6 : at' l 9 = 6) : 20 ≤ (bodyP l).length := by
  unfold whyT at h
  split at h
  · omega
  · split at h
    · omega
    · split at h
      · rename_i ht
        exact (of_decide_eq_true ht : _ ∧ _).1
      · omega

set_option maxHeartbeats 4000000 in
set_option maxRecDepth 100000 in
theorem ends_any (k : Tu) (A : Option Addr) (n c B : Nat) (l : List Nat) (w : World) (hr : Reads w B 1 A n (bv l)) (hB0 : B ≤ w.heap.size) (hn : n ≤ 140737488355328) (hnc : n ≤ c) (ha : AllB l) :
    Calls Try.prog 26 #[.agg k.vals, .slice A n c] w fun e w' => e = .returned (.bool (endsL k l)) ∧ Below w.heap.size w w' := by
  have CP := Lib.hid (fun w' (hb : Below w.heap.size w w') => within_any A n c w'.heap.size l w' ((hr.below (hb.mono hB0)).more (Nat.le_trans hB0 hb.size)) (Nat.le_refl _) hn hnc ha)
  obtain ⟨r, hrr⟩ : ∃ r, r = whyT l := ⟨_, rfl⟩
  have HRR := Lib.hid hrr
  obtain ⟨src, dst, pr, sp, dp⟩ := k
  obtain ⟨x, hx⟩ : ∃ x, x = at' (bodyP l) 13 := ⟨_, rfl⟩
  have hxl : x < 256 := by rw [hx]; exact at_lt ((ha.take _).drop _) 13
  have hbx := u8_and5 x hxl
  obtain ⟨z, hz⟩ : ∃ z, z = x &&& 5 := ⟨_, rfl⟩
  rw [← hz] at hbx
  have HX := Lib.hid hx
  have HB0 := Lib.hid hB0
  have HE : Hid (∀ b, (b = true ↔ r = 0 ∧ src = (tuP l).src ∧ dst = (tuP l).dst ∧ pr = (tuP l).proto ∧ sp = (tuP l).sport ∧ dp = (tuP l).dport ∧ pr = 6 ∧ z ≠ 0) → b = endsL ⟨src, dst, pr, sp, dp⟩ l) := by
    intro b hb
    rw [Bool.eq_iff_iff, hb]
    unfold endsL
    rw [decide_eq_true_eq, ← hrr, ← hx, ← hz, Tu.mk.injEq]
    constructor
    · rintro ⟨a1, a2, a3, a4, a5, a6, a7, a8⟩
      exact ⟨a1, ⟨a2, a3, a4, a5, a6⟩, by have : (tuP l).proto = ((at' l 9 : Nat) : Int) := rfl; omega, a8⟩
    · rintro ⟨a1, ⟨a2, a3, a4, a5, a6⟩, a7, a8⟩
      exact ⟨a1, a2, a3, a4, a5, a6, by have : (tuP l).proto = ((at' l 9 : Nat) : Int) := rfl; omega, a8⟩
  unfold Tu.vals
  dsimp only
  clear hr hrr hx hz hxl hB0
  go_enter Try.func26, Try.ntmps26
  go_wp2_with fail
  refine (CP.out _ ((Below.refl _ _).alloc (Nat.le_refl _) _)).mono ?_
  rintro e w1 ⟨hret, hb1⟩
  obtain ⟨t0, t1, t2, t3, t4, y0, y1, y2, y3, y4, y5, y6, y7, y8, y9, y10, A1, m, c1, rfl, htu, hhd, hy⟩ := hret.names
  have HTU := Lib.hid htu
  rw [← HRR.out] at hy ⊢
  have hk := ((Blk.new w 43 #[.int .u32 (src : Int), .int .u32 (dst : Int), .int .i64 pr, .int .i64 sp, .int .i64 dp]).below hb1 (by simp))
  have hBz := (((Below.refl w.heap.size w).alloc (Nat.le_refl _) (.cells #[.int .u32 (src : Int), .int .u32 (dst : Int), .int .i64 pr, .int .i64 sp, .int .i64 dp] 43)).trans (hb1.mono (by simp)))
  have hs1 := hBz.size
  have HBz := Lib.hid (fun C C' => (hBz.alloc hs1 (.cells C 43)).alloc (by simp; omega) (.cells C' 24))
  obtain ⟨q, hq⟩ : ∃ q, q = w.heap.size := ⟨_, rfl⟩
  rw [← hq] at hk ⊢
  have HQ := Lib.hid hq
  have hk := (hk.alloc (.cells #[.int .u32 (t0 : Int), .int .u32 (t1 : Int), .int .i64 t2, .int .i64 t3, .int .i64 t4] 43)).alloc (.cells #[.int .i64 y0, .int .i64 y1, .int .i64 y2, .int .i64 y3, .int .i64 y4, .int .i64 y5, .int .i64 y6, .int .i64 y7, .int .i64 y8, .int .u32 (y9 : Int), .int .u32 (y10 : Int)] 24)
  have k0 := hk.cell 0
  have k1 := hk.cell 1
  have k2 := hk.cell 2
  have k3 := hk.cell 3
  have k4 := hk.cell 4
  simp only [List.getElem?_toArray, List.getElem?_cons_zero, List.getElem?_cons_succ] at k0 k1 k2 k3 k4
  have HF : Hid (∀ b, (b = true ↔ r = 0 ∧ t0 = src ∧ t1 = dst ∧ t2 = pr ∧ t3 = sp ∧ t4 = dp ∧ t2 = 6 ∧ z ≠ 0) → b = endsL ⟨src, dst, pr, sp, dp⟩ l) := by
    intro b hb
    apply HE.out
    rw [hb]
    have hrr := HRR.out
    by_cases h0 : r = 0
    · rw [tuT_yes (by omega)] at htu
      unfold Tu.vals at htu
      simp only [Array.mk.injEq, List.cons.injEq, Value.int.injEq, true_and, and_true] at htu
      obtain ⟨e0, e1, e2, e3, e4⟩ := htu
      constructor
      · rintro ⟨_, h1, h2, h3, h4, h5, h6, h7⟩; exact ⟨h0, by omega, by omega, by omega, by omega, by omega, by omega, h7⟩
      · rintro ⟨_, h1, h2, h3, h4, h5, h6, h7⟩; exact ⟨h0, by omega, by omega, by omega, by omega, by omega, by omega, h7⟩
    · constructor
      · rintro ⟨h, _⟩; exact absurd h h0
      · rintro ⟨h, _⟩; exact absurd h h0
  have HP : Hid (r = 0 → t2 = 6 → 20 ≤ (bodyP l).length) := by
    intro h0 h6
    have hrr := HRR.out
    rw [tuT_yes (by omega)] at htu
    unfold Tu.vals at htu
    simp only [Array.mk.injEq, List.cons.injEq, Value.int.injEq, true_and, and_true] at htu
    obtain ⟨e0, e1, e2, e3, e4⟩ := htu
    have e9 : (tuP l).proto = ((at' l 9 : Nat) : Int) := rfl
    exact whyT_tcp (by omega) (by omega)
  have HNO : Hid (∀ b, b = false → ¬ (r = 0 ∧ t0 = src ∧ t1 = dst ∧ t2 = pr ∧ t3 = sp ∧ t4 = dp ∧ t2 = 6 ∧ z ≠ 0) → b = endsL ⟨src, dst, pr, sp, dp⟩ l) := by
    intro b hb hn
    apply HF.out
    subst hb
    constructor
    · intro h; cases h
    · intro h; exact absurd h hn
  clear hb1 CP hret hk hq htu hhd hBz hs1 HE
  by_cases h0 : r = 0
  · have hb0 : ((r : Int) == 0) = true := by simp [h0]
    by_cases heq : t0 = src ∧ t1 = dst ∧ t2 = pr ∧ t3 = sp ∧ t4 = dp
    · obtain ⟨rfl, rfl, rfl, rfl, rfl⟩ := heq
      by_cases h6 : t2 = 6
      · have hb6 : (t2 == 6) = true := by simp [h6]
        obtain ⟨hm, hown⟩ := hy h0
        have hlb := HP.out h0 h6
        have hml : m = (bodyP l).length := by have := hown.1; rw [bv_length] at this; omega
        obtain ⟨g, rfl, _, _⟩ := own_head hown (by omega)
        have hx0 := ownb_cell ((hown.alloc (.cells #[.int .u32 (t0 : Int), .int .u32 (t1 : Int), .int .i64 t2, .int .i64 t3, .int .i64 t4] 43)).alloc (.cells #[.int .i64 y0, .int .i64 y1, .int .i64 y2, .int .i64 y3, .int .i64 y4, .int .i64 y5, .int .i64 y6, .int .i64 y7, .int .i64 y8, .int .u32 (y9 : Int), .int .u32 (y10 : Int)] 24)) 13 (by omega) (by omega)
        have e13 : (bodyP l)[13] = x := by rw [HX.out]; unfold at'; simp [List.getD_eq_getElem?_getD, List.getElem?_eq_getElem (show 13 < (bodyP l).length by omega)]
        rw [e13] at hx0
        have hm13 : 13 < m := by omega
        have HH := Lib.hid (And.intro h0 h6)
        clear hown hy hm hml hlb e13 h0 h6
        by_cases hz0 : z = 0
        · have bz : (((z : Nat) : Int) == 0) = true := by simp [hz0]
          have bz' : (((z : Nat) : Int) != 0) = false := by simp [hz0]
          have HT : Hid (false = endsL ⟨t0, t1, t2, t3, t4⟩ l) := HNO.out false rfl (by omega)
          clear hz0
          go_wp2_with fail
          go_ret
          exact ⟨by rw [← HT.out]; rfl, HBz.out _ _⟩
        · have bz : (((z : Nat) : Int) == 0) = false := by simp; omega
          have bz' : (((z : Nat) : Int) != 0) = true := by simp; omega
          have HT : Hid (true = endsL ⟨t0, t1, t2, t3, t4⟩ l) := HF.out true ⟨fun _ => ⟨HH.out.1, rfl, rfl, rfl, rfl, rfl, HH.out.2, hz0⟩, fun _ => rfl⟩
          clear hz0
          go_wp2_with fail
          go_ret
          exact ⟨by rw [← HT.out]; rfl, HBz.out _ _⟩
      · have hb6 : (t2 == 6) = false := by simp [h6]
        have HT : Hid (false = endsL ⟨t0, t1, t2, t3, t4⟩ l) := HNO.out false rfl (by omega)
        clear hy h6 h0
        go_wp2_with fail
        go_ret
        exact ⟨by rw [← HT.out]; rfl, HBz.out _ _⟩
    · have HH := Lib.hid heq
      have HT : Hid (false = endsL ⟨src, dst, pr, sp, dp⟩ l) := HNO.out false rfl (by omega)
      clear hy heq h0
      go_wp2_with fail
      all_goals first
        | exact absurd ⟨by omega, by omega, by omega, by omega, by omega⟩ HH.out
        | (go_ret; exact ⟨by rw [← HT.out]; rfl, HBz.out _ _⟩)
  · have hb0 : ((r : Int) == 0) = false := by simp [h0]
    have HT : Hid (false = endsL ⟨src, dst, pr, sp, dp⟩ l) := HNO.out false rfl (by omega)
    clear hy h0
    go_wp2_with fail
    go_ret
    exact ⟨by rw [← HT.out]; rfl, HBz.out _ _⟩
end Go.Proofs.Ytpgbldpppdmdoaa
