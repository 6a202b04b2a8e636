/- The walk of goitref20.Ends (wip/genrefends.py). -/
import Derived.Test.YtpgbldpppdmdoaaPEnds
import Derived.Test.YtpgbldpppdmdoaaRefTuple
namespace Go.Proofs.Ytpgbldpppdmdoaa
set_option linter.unusedVariables false
set_option linter.unusedSimpArgs false
open Go.RowKit

theorem whyT_whyP {l : List Nat} (h : whyT l = 0) : whyP l = 0 := by
  unfold whyT at h
  split at h
  · rename_i h1; exact absurd h h1
  · rename_i h1; omega

set_option maxHeartbeats 4000000 in
set_option maxRecDepth 100000 in
theorem refends_any (k : Tu) (A : Option Addr) (n c B : Nat) (l : List Nat) (w : World) (hr : Reads w B 1 A n (bv l)) (hB0 : B ≤ w.heap.size) (hn : n ≤ 140737488355328) (hnc : n ≤ c) (ha : AllB l) :
    Calls Try.prog 27 #[.agg k.vals, .slice A n c] w fun e w' => e = .returned (.bool (endsL k l)) ∧ Below w.heap.size w w' := by
  have CT := Lib.hid (fun w' (hb : Below w.heap.size w w') => reftuple_any A n c w'.heap.size l w' ((hr.below (hb.mono hB0)).more (Nat.le_trans hB0 hb.size)) (Nat.le_refl _) hn hnc ha)
  have CP := Lib.hid (fun w' (hb : Below w.heap.size w w') => refparse_any A n c w'.heap.size l w' ((hr.below (hb.mono hB0)).more (Nat.le_trans hB0 hb.size)) (Nat.le_refl _) hn hnc ha)
  obtain ⟨r, hrr⟩ : ∃ r, r = whyT l := ⟨_, rfl⟩
  obtain ⟨src, dst, pr, sp, dp⟩ := k
  obtain ⟨x, hx⟩ : ∃ x, x = at' (bodyP l) 13 := ⟨_, rfl⟩
  have hxl : x < 256 := by rw [hx]; exact at_lt ((ha.take _).drop _) 13
  have hbx := u8_and5 x hxl
  obtain ⟨z, hz⟩ : ∃ z, z = x &&& 5 := ⟨_, rfl⟩
  rw [← hz] at hbx
  have HX := Lib.hid hx
  obtain ⟨t0, t1, t2, t3, t4, htu⟩ : ∃ (t0 t1 : Nat) (t2 t3 t4 : Int), (tuT l).vals = #[.int .u32 (t0 : Int), .int .u32 (t1 : Int), .int .i64 t2, .int .i64 t3, .int .i64 t4] := ⟨_, _, _, _, _, rfl⟩
  obtain ⟨y0, y1, y2, y3, y4, y5, y6, y7, y8, y9, y10, hhd, h2x, h6x⟩ := hdT_names l
  clear h2x h6x
  obtain ⟨n0, n1, n2, n3, n4, n5, n6, n7, n8, n9, n10, hnd⟩ : ∃ (n0 n1 n2 n3 n4 n5 n6 n7 n8 : Int) (n9 n10 : Nat), (hdP l).vals = #[.int .i64 n0, .int .i64 n1, .int .i64 n2, .int .i64 n3, .int .i64 n4, .int .i64 n5, .int .i64 n6, .int .i64 n7, .int .i64 n8, .int .u32 (n9 : Int), .int .u32 (n10 : Int)] := ⟨_, _, _, _, _, _, _, _, _, _, _, rfl⟩
  have hfields : r = 0 → (tuP l).src = t0 ∧ (tuP l).dst = t1 ∧ (tuP l).proto = t2 ∧ (tuP l).sport = t3 ∧ (tuP l).dport = t4 := by
    intro h0
    rw [tuT_yes (by omega)] at htu
    unfold Tu.vals at htu
    simp only [Array.mk.injEq, List.cons.injEq, Value.int.injEq, true_and, and_true] at htu
    obtain ⟨e0, e1, e2, e3, e4⟩ := htu
    exact ⟨by omega, by omega, e2, e3, e4⟩
  have HF : Hid (∀ b, (b = true ↔ r = 0 ∧ t0 = src ∧ t1 = dst ∧ t2 = pr ∧ t3 = sp ∧ t4 = dp ∧ t2 = 6 ∧ z ≠ 0) → b = endsL ⟨src, dst, pr, sp, dp⟩ l) := by
    intro b hb
    rw [Bool.eq_iff_iff, hb]
    unfold endsL
    rw [decide_eq_true_eq, ← hrr, ← hx, ← hz]
    by_cases h0 : r = 0
    · obtain ⟨e0, e1, e2, e3, e4⟩ := hfields h0
      have e9 : (tuP l).proto = ((at' l 9 : Nat) : Int) := rfl
      have hk : ((⟨src, dst, pr, sp, dp⟩ : Tu) = tuP l) ↔ (t0 = src ∧ t1 = dst ∧ t2 = pr ∧ t3 = sp ∧ t4 = dp) := by
        have : tuP l = ⟨t0, t1, t2, t3, t4⟩ := by
          have h5 : tuP l = ⟨(tuP l).src, (tuP l).dst, (tuP l).proto, (tuP l).sport, (tuP l).dport⟩ := rfl
          rw [h5, e0, e1, e2, e3, e4]
        rw [this, Tu.mk.injEq]
        constructor
        · rintro ⟨h1, h2, h3, h4, h5⟩; exact ⟨h1.symm, h2.symm, h3.symm, h4.symm, h5.symm⟩
        · rintro ⟨h1, h2, h3, h4, h5⟩; exact ⟨h1.symm, h2.symm, h3.symm, h4.symm, h5.symm⟩
      rw [hk]
      constructor
      · rintro ⟨_, h1, h2, h3, h4, h5, h6, h7⟩; exact ⟨h0, ⟨h1, h2, h3, h4, h5⟩, by omega, h7⟩
      · rintro ⟨_, ⟨h1, h2, h3, h4, h5⟩, h6, h7⟩; exact ⟨h0, h1, h2, h3, h4, h5, by omega, h7⟩
    · constructor
      · rintro ⟨h, _⟩; exact absurd h h0
      · rintro ⟨h, _⟩; exact absurd h h0
  have HP : Hid (r = 0 → t2 = 6 → 20 ≤ (bodyP l).length) := by
    intro h0 h6
    obtain ⟨e0, e1, e2, e3, e4⟩ := hfields h0
    have e9 : (tuP l).proto = ((at' l 9 : Nat) : Int) := rfl
    exact whyT_tcp (by omega) (by omega)
  have HNO : Hid (∀ b, b = false → ¬ (r = 0 ∧ t0 = src ∧ t1 = dst ∧ t2 = pr ∧ t3 = sp ∧ t4 = dp ∧ t2 = 6 ∧ z ≠ 0) → b = endsL ⟨src, dst, pr, sp, dp⟩ l) := by
    intro b hb hn
    apply HF.out
    subst hb
    constructor
    · intro h; cases h
    · intro h; exact absurd h hn
  rw [htu, hhd, ← hrr] at CT
  have HRR := Lib.hid hrr
  have HND := Lib.hid hnd
  unfold Tu.vals
  dsimp only
  have hB1 := (Below.refl w.heap.size w).alloc (Nat.le_refl _) (.cells #[.int .u32 (src : Int), .int .u32 (dst : Int), .int .i64 pr, .int .i64 sp, .int .i64 dp] 43)
  have hk1 := Blk.new w 43 #[.int .u32 (src : Int), .int .u32 (dst : Int), .int .i64 pr, .int .i64 sp, .int .i64 dp]
  clear hr hrr hx hz hxl hB0 htu hhd hnd hfields
  go_enter Try.func27, Try.ntmps27
  go_wp2_with fail
  refine (CT.out _ hB1).mono ?_
  rintro e w1 ⟨rfl, hb1⟩
  have hB2 := hB1.trans (hb1.mono hB1.size)
  have hs2 := hB2.size
  have HBz := Lib.hid (fun C C' => (hB2.alloc hs2 (.cells C 43)).alloc (by simp; omega) (.cells C' 24))
  have hk2 := hk1.below hb1 hk1.lt
  obtain ⟨q, hq⟩ : ∃ q, q = w.heap.size := ⟨_, rfl⟩
  rw [← hq] at hk2 ⊢
  have HQ := Lib.hid hq
  have hk := (hk2.alloc (.cells #[.int .u32 (t0 : Int), .int .u32 (t1 : Int), .int .i64 t2, .int .i64 t3, .int .i64 t4] 43)).alloc (.cells #[.int .i64 y0, .int .i64 y1, .int .i64 y2, .int .i64 y3, .int .i64 y4, .int .i64 y5, .int .i64 y6, .int .i64 y7, .int .i64 y8, .int .u32 (y9 : Int), .int .u32 (y10 : Int)] 24)
  have k0 := hk.cell 0
  have k1 := hk.cell 1
  have k2 := hk.cell 2
  have k3 := hk.cell 3
  have k4 := hk.cell 4
  simp only [List.getElem?_toArray, List.getElem?_cons_zero, List.getElem?_cons_succ] at k0 k1 k2 k3 k4
  clear hb1 CT hk hk1 hk2 hq hB1 hB2 hs2
  by_cases h0 : r = 0
  · have hb0 : ((r : Int) != 0) = false := by simp [h0]
    by_cases heq : t0 = src ∧ t1 = dst ∧ t2 = pr ∧ t3 = sp ∧ t4 = dp
    · obtain ⟨rfl, rfl, rfl, rfl, rfl⟩ := heq
      by_cases h6 : t2 = 6
      · have hb6 : (t2 != 6) = false := by simp [h6]
        have HH6 := Lib.hid (And.intro h0 h6)
        have hB3 := HBz.out #[.int .u32 (t0 : Int), .int .u32 (t1 : Int), .int .i64 t2, .int .i64 t3, .int .i64 t4] #[.int .i64 y0, .int .i64 y1, .int .i64 y2, .int .i64 y3, .int .i64 y4, .int .i64 y5, .int .i64 y6, .int .i64 y7, .int .i64 y8, .int .u32 (y9 : Int), .int .u32 (y10 : Int)]
        clear h0 h6
        go_wp2_with fail
        refine (CP.out _ hB3).mono ?_
        rintro e w3 ⟨hret, hb3⟩
        obtain ⟨A3, c3, rfl, hown3⟩ := hret.yes (whyT_whyP (by rw [← HRR.out]; exact HH6.out.1))
        rw [HND.out]
        have hB4 := hB3.trans (hb3.mono hB3.size)
        have hlb := HP.out HH6.out.1 HH6.out.2
        have hml : lenP l - 4 * ihlP l = (bodyP l).length := by have := hown3.1; rw [bv_length] at this; omega
        obtain ⟨m, hm⟩ : ∃ m, m = lenP l - 4 * ihlP l := ⟨_, rfl⟩
        rw [← hm] at hown3 hml ⊢
        obtain ⟨g, rfl, _, _⟩ := own_head hown3 (by omega)
        have hx0 := own_at (hown3.alloc (.cells #[.int .i64 n0, .int .i64 n1, .int .i64 n2, .int .i64 n3, .int .i64 n4, .int .i64 n5, .int .i64 n6, .int .i64 n7, .int .i64 n8, .int .u32 (n9 : Int), .int .u32 (n10 : Int)] 24)) (j := 13) (by omega) hml.symm
        rw [← HX.out] at hx0
        have hm13 : (13 : Int) < (m : Int) := by omega
        have hm13' : 13 < m := by omega
        have hB5 := hB4.alloc hB4.size (.cells #[.int .i64 n0, .int .i64 n1, .int .i64 n2, .int .i64 n3, .int .i64 n4, .int .i64 n5, .int .i64 n6, .int .i64 n7, .int .i64 n8, .int .u32 (n9 : Int), .int .u32 (n10 : Int)] 24)
        clear hret hb3 hown3 hm hml hlb hB3 hB4 CP k0 k1 k2 k3 k4
        by_cases hz0 : z = 0
        · have bz : (((z : Nat) : Int) != 0) = false := by simp [hz0]
          have HT : Hid (false = endsL ⟨t0, t1, t2, t3, t4⟩ l) := HNO.out false rfl (by omega)
          clear hz0
          go_wp2_with fail
          go_ret
          exact ⟨by rw [← HT.out]; rfl, hB5⟩
        · have bz : (((z : Nat) : Int) != 0) = true := by simp; omega
          have HT : Hid (true = endsL ⟨t0, t1, t2, t3, t4⟩ l) := HF.out true ⟨fun _ => ⟨HH6.out.1, by trivial, by trivial, by trivial, by trivial, by trivial, HH6.out.2, hz0⟩, fun _ => rfl⟩
          clear hz0
          go_wp2_with fail
          go_ret
          exact ⟨by rw [← HT.out]; rfl, hB5⟩
      · have hb6 : (t2 != 6) = true := by simp [h6]
        have HT : Hid (false = endsL ⟨t0, t1, t2, t3, t4⟩ l) := HNO.out false rfl (by omega)
        clear h6 h0 CP
        go_wp2_with fail
        go_ret
        exact ⟨by rw [← HT.out]; rfl, HBz.out _ _⟩
    · have HHE := Lib.hid heq
      have HT : Hid (false = endsL ⟨src, dst, pr, sp, dp⟩ l) := HNO.out false rfl (by omega)
      clear heq h0 CP
      go_wp2_with fail
      all_goals first
        | exact absurd ⟨by omega, by omega, by omega, by omega, by omega⟩ HHE.out
        | (go_ret; exact ⟨by rw [← HT.out]; rfl, HBz.out _ _⟩)
        | (go_ret; exact ⟨by rw [← HT.out]; rfl, HBz.out _ _⟩)
  · have hb0 : ((r : Int) != 0) = true := by simp; omega
    have HT : Hid (false = endsL ⟨src, dst, pr, sp, dp⟩ l) := HNO.out false rfl (by omega)
    clear h0 CP
    go_wp2_with fail
    go_ret
    exact ⟨by rw [← HT.out]; rfl, HBz.out _ _⟩
end Go.Proofs.Ytpgbldpppdmdoaa
