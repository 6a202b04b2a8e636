/- The walk of ip.Parse where bytes are a packet (wip/genparse_ok.py). -/
import Derived.Test.YtpgbldpppdmdoaaIpParse
import Derived.Deep.RegionHeld3
namespace Go.Proofs.Ytpgbldpppdmdoaa
set_option linter.unusedVariables false
set_option linter.unusedSimpArgs false
open Go.RowKit

theorem cell_far {w : World} {q j ph k : Nat} {u : Value} (h : ¬ ph = q) : (w.setCell ⟨q, j, none⟩ u).cell? ⟨ph, k, none⟩ = w.cell? ⟨ph, k, none⟩ :=
  World.cell?_setCell_other w _ _ u (fun e => h (by injection e with e1; first | exact e1 | exact e1.symm))

theorem own_lower {w : World} {base base' n size : Nat} {e : TypeId} {v : Value} {xs : List Value} (h : w.ownsRow base e size v n xs) (hb : base' ≤ base) : w.ownsRow base' e size v n xs := by
  refine ⟨h.1, ?_⟩
  rcases h.2 with hn | ⟨g, cap, cur, hv, hg, rest⟩
  · exact .inl hn
  · exact .inr ⟨g, cap, cur, hv, by omega, rest⟩

set_option maxHeartbeats 2000000 in
set_option maxRecDepth 100000 in
theorem parse_ok (A : Option Addr) (n c B : Nat) (l : List Nat) (w : World) (hr : Reads w B 1 A n (bv l)) (hB : B ≤ w.heap.size) (hn : n ≤ 140737488355328) (hnc : n ≤ c) (h20 : 20 ≤ n) (ha : AllB l) (hyes : whyP l = 0) :
    Calls Try.prog 16 #[.slice A n c] w fun e w' => ParseRet l w e w' ∧ Below w.heap.size w w' := by
  have hlen := hr.length
  obtain ⟨v, s, x1, L, x4, x6, x7, x8, x9, x10, x12, x16, hv, hs, hL, hvals, v16, s16, L16⟩ := hd_names l ha
  obtain ⟨z, hz⟩ : ∃ z, netN (l.take (4 * s)) = z := ⟨_, rfl⟩
  have hcases := why_cases h20 hlen hv hs hL hz
  rw [hyes] at hcases
  obtain ⟨a1, a2, a3, a4, a5, a6⟩ : v = 4 ∧ 5 ≤ s ∧ 4 * s ≤ n ∧ z = 0 ∧ 4 * s ≤ L ∧ L ≤ n := by
    rcases hcases with ⟨_, h⟩ | ⟨_, _, h⟩ | ⟨_, _, _, h⟩ | ⟨_, _, _, _, h⟩ | ⟨_, _, _, _, _, h⟩ | ⟨_, _, _, _, _, _, h⟩ | ⟨b1, b2, b3, b4, b5, b6, h⟩
    · cases h
    · cases h
    · cases h
    · cases h
    · cases h
    · cases h
    · exact ⟨b1, b2, b3, b4, b5, b6⟩
  obtain ⟨ad, hA, _⟩ := hr.2 (by omega)
  subst hA
  have HV := Lib.hid (And.intro hv hvals)
  have C1 := Lib.hid (fun w' (hb : Below w.heap.size w w') => read_any (some ad) n c w'.heap.size l w' ((hr.below (hb.mono hB)).more (Nat.le_trans hB hb.size)) (Nat.le_refl _) hn h20 ha)
  have CN := Lib.hid (fun w' (hb : Below w.heap.size w w') => net_any w' w'.heap.size (some ad) (4 * s) c (l.take (4 * s)) (((hr.below (hb.mono hB)).more (Nat.le_trans hB hb.size)).takeb a3) (by omega) (ha.take _))
  rw [hz] at CN
  have hbody : bodyP l = (l.take L).drop (4 * s) := by unfold bodyP; rw [hL, hs]
  have CC := Lib.hid (fun w' (hb : Below w.heap.size w w') => clone_any (if c = 4 * s then some ad else some (ad.add (4 * s))) (L - 4 * s) (c - 4 * s) w'.heap.size (bodyP l) w' (by
    have h1 := (((hr.below (hb.mono hB)).more (Nat.le_trans hB hb.size)).takeb a6).cut (k := 4 * s) (cap := c) a5 (by omega)
    rw [Nat.mul_one] at h1
    rw [hbody, show bv ((l.take L).drop (4 * s)) = (bv (l.take L)).drop (4 * s) from by simp [bv]]
    by_cases hc : c = 4 * s
    · rw [if_pos hc] at h1 ⊢; exact h1
    · rw [if_neg hc] at h1 ⊢; exact h1) (Nat.le_refl _) (by omega) (fun e => by split at e <;> cases e))
  have HR : Hid (∀ A' c' w', w'.ownsRow w.heap.size 5 1 (.slice A' (L - 4 * s) c') (L - 4 * s) (bv (bodyP l)) → ParseRet l w (.returned (.tuple #[.agg #[.int .i64 (s : Int), .int .i64 (x1 : Int), .int .i64 (L : Int), .int .i64 (x4 : Int), .int .i64 (x6 : Int), .int .i64 (x7 : Int), .int .i64 (x8 : Int), .int .i64 (x9 : Int), .int .i64 (x10 : Int), .int .u32 (x12 : Int), .int .u32 (x16 : Int)], .slice A' (L - 4 * s) c', .int .i64 0])) w') := by
    intro A' c' w' ho
    refine .inl ⟨hyes, A', c', ?_, ?_⟩
    · rw [hvals, hL, hs]
    · rw [hL, hs]; exact ho
  subst a4
  subst a1
  have a7 : L ≤ c := by omega
  have a8 : 4 * s ≤ c := by omega
  clear hr hlen hv hs hL hvals hz hcases hyes ha hbody
  have both : ∀ (A2 : Option Addr), (if c = 4 * s then some ad else some (ad.add (4 * s))) = A2 → Calls Try.prog 16 #[.slice (some ad) n c] w fun e w' => ParseRet l w e w' ∧ Below w.heap.size w w' := by
    intro A2 hA2
    rw [hA2] at CC
    have HC := Lib.hid (fun h : c = 4 * s => by rw [if_pos h] at hA2; exact hA2)
    have HC2 := Lib.hid (fun h : ¬ c = 4 * s => by rw [if_neg h] at hA2; exact hA2)
    clear hA2
    by_cases hcs : c = 4 * s
    · have e2 := HC.out hcs
      subst e2
      clear HC HC2
      subst hcs
      have hL4 : L - 4 * s = 0 := by omega
      rw [hL4] at CC HR
      rw [Nat.sub_self] at CC
      clear hL4
      go_enter Try.func16, Try.ntmps16
      go_wp2_with fail
      refine (C1.out _ ((Below.refl _ _).alloc (Nat.le_refl _) _)).mono ?_
      rintro e w1 ⟨he, hb1⟩
      rw [HV.out.1, HV.out.2] at he
      subst he
      have hB1 : Below w.heap.size w w1 := ((Below.refl _ _).alloc (Nat.le_refl _) _).trans (hb1.mono (by simp))
      have hres := (Blk.new w 24 #[.int .i64 0, .int .i64 0, .int .i64 0, .int .i64 0, .int .i64 0, .int .i64 0, .int .i64 0, .int .i64 0, .int .i64 0, .int .u32 0, .int .u32 0]).below hb1 (by simp)
      clear hb1 C1
      obtain ⟨q, hq⟩ : ∃ q, q = w.heap.size := ⟨_, rfl⟩
      rw [← hq] at hres ⊢
      have HQ := Lib.hid hq
      clear hq
      go_wp2_with fail
      refine (CN.out _ (hB1.alloc hB1.size _)).mono ?_
      rintro e w' ⟨rfl, rfl⟩
      go_wp2_with fail
      have hres2 := hres.alloc (.cells #[.int .i64 (s : Int), .int .i64 (x1 : Int), .int .i64 (L : Int), .int .i64 (x4 : Int), .int .i64 (x6 : Int), .int .i64 (x7 : Int), .int .i64 (x8 : Int), .int .i64 (x9 : Int), .int .i64 (x10 : Int), .int .u32 (x12 : Int), .int .u32 (x16 : Int)] 24)
      have hbh2 := Blk.new w1 24 #[.int .i64 (s : Int), .int .i64 (x1 : Int), .int .i64 (L : Int), .int .i64 (x4 : Int), .int .i64 (x6 : Int), .int .i64 (x7 : Int), .int .i64 (x8 : Int), .int .i64 (x9 : Int), .int .i64 (x10 : Int), .int .u32 (x12 : Int), .int .u32 (x16 : Int)]
      have hB2 : Below w.heap.size w (w1.alloc (.cells #[.int .i64 (s : Int), .int .i64 (x1 : Int), .int .i64 (L : Int), .int .i64 (x4 : Int), .int .i64 (x6 : Int), .int .i64 (x7 : Int), .int .i64 (x8 : Int), .int .i64 (x9 : Int), .int .i64 (x10 : Int), .int .u32 (x12 : Int), .int .u32 (x16 : Int)] 24)) := hB1.alloc hB1.size _
      have hqp0 : ¬ q = w1.heap.size := by have := hres.lt; omega
      generalize w1.alloc (.cells #[.int .i64 (s : Int), .int .i64 (x1 : Int), .int .i64 (L : Int), .int .i64 (x4 : Int), .int .i64 (x6 : Int), .int .i64 (x7 : Int), .int .i64 (x8 : Int), .int .i64 (x9 : Int), .int .i64 (x10 : Int), .int .u32 (x12 : Int), .int .u32 (x16 : Int)] 24) = w2 at *
      generalize w1.heap.size = ph at *
      clear hres CN hB1
      have hc0 := hbh2.cell 0
      have hc1 := hbh2.cell 1
      have hc2 := hbh2.cell 2
      have hc3 := hbh2.cell 3
      have hc4 := hbh2.cell 4
      have hc5 := hbh2.cell 5
      have hc6 := hbh2.cell 6
      have hc7 := hbh2.cell 7
      have hc8 := hbh2.cell 8
      have hc9 := hbh2.cell 9
      have hc10 := hbh2.cell 10
      simp only [List.getElem?_toArray, List.getElem?_cons_zero, List.getElem?_cons_succ] at hc0 hc1 hc2 hc3 hc4 hc5 hc6 hc7 hc8 hc9 hc10
      have hlt2 := hbh2.lt
      have hqlt : q < w2.heap.size := hres2.lt
      have hqp : ¬ q = ph := hqp0
      have hqp' : ¬ ph = q := fun e => hqp e.symm
      have hd0 := hbh2.drew.cell 0
      have hd1 := hbh2.drew.cell 1
      have hd2 := hbh2.drew.cell 2
      have hd3 := hbh2.drew.cell 3
      have hd4 := hbh2.drew.cell 4
      have hd5 := hbh2.drew.cell 5
      have hd6 := hbh2.drew.cell 6
      have hd7 := hbh2.drew.cell 7
      have hd8 := hbh2.drew.cell 8
      have hd9 := hbh2.drew.cell 9
      have hd10 := hbh2.drew.cell 10
      simp only [List.getElem?_toArray, List.getElem?_cons_zero, List.getElem?_cons_succ] at hd0 hd1 hd2 hd3 hd4 hd5 hd6 hd7 hd8 hd9 hd10
      have i1 : (0 : Int) ≤ 4 * (s : Int) := by omega
      have i2 : 4 * (s : Int) ≤ (L : Int) := by omega
      have i3 : (L : Int) ≤ ((4 * s : Nat) : Int) := by omega
      have i4 : (4 * (s : Int)).toNat = 4 * s := by omega
      have i5 : ¬ (4 * (s : Int) < 0) := by omega
      have i6 : ¬ ((L : Int) < 4 * (s : Int)) := by omega
      have i7 : (L : Int) ≤ 4 * (s : Int) := by omega
      have i8 : L ≤ 4 * s := by omega
      have i9 : L - 4 * s = 0 := by omega
      have i10 : ¬ (4 * (s : Int) < (L : Int)) := by omega
      clear HV
      go_region_held3 (fun wS => wS.cell? ⟨ph, 0, none⟩ = some (.int .i64 (s : Int)) ∧ wS.cell? ⟨ph, 1, none⟩ = some (.int .i64 (x1 : Int)) ∧ wS.cell? ⟨ph, 2, none⟩ = some (.int .i64 (L : Int)) ∧ wS.cell? ⟨ph, 3, none⟩ = some (.int .i64 (x4 : Int)) ∧ wS.cell? ⟨ph, 4, none⟩ = some (.int .i64 (x6 : Int)) ∧ wS.cell? ⟨ph, 5, none⟩ = some (.int .i64 (x7 : Int)) ∧ wS.cell? ⟨ph, 6, none⟩ = some (.int .i64 (x8 : Int)) ∧ wS.cell? ⟨ph, 7, none⟩ = some (.int .i64 (x9 : Int)) ∧ wS.cell? ⟨ph, 8, none⟩ = some (.int .i64 (x10 : Int)) ∧ wS.cell? ⟨ph, 9, none⟩ = some (.int .u32 (x12 : Int)) ∧ wS.cell? ⟨ph, 10, none⟩ = some (.int .u32 (x16 : Int))) (first | with_reducible exact ⟨hc0, hc1, hc2, hc3, hc4, hc5, hc6, hc7, hc8, hc9, hc10⟩ | with_reducible exact ⟨hd0, hd1, hd2, hd3, hd4, hd5, hd6, hd7, hd8, hd9, hd10⟩ | with_reducible exact ⟨hk0, hk1, hk2, hk3, hk4, hk5, hk6, hk7, hk8, hk9, hk10⟩ | (simp only [cell_far hqp', hk0, hk1, hk2, hk3, hk4, hk5, hk6, hk7, hk8, hk9, hk10, and_self]))
        (first | (go_at_call 42; refine (CC.out _ (hB2.drew)).mono ?_; rintro e w4 ⟨A', c', rfl, hown, hb4⟩; have hbh4 := hbh2.drew.below hb4 hlt2; have hres4 := hres2.drew.below hb4 hqlt; have hk0 := hbh4.cell 0; have hk1 := hbh4.cell 1; have hk2 := hbh4.cell 2; have hk3 := hbh4.cell 3; have hk4 := hbh4.cell 4; have hk5 := hbh4.cell 5; have hk6 := hbh4.cell 6; have hk7 := hbh4.cell 7; have hk8 := hbh4.cell 8; have hk9 := hbh4.cell 9; have hk10 := hbh4.cell 10; simp only [List.getElem?_toArray, List.getElem?_cons_zero, List.getElem?_cons_succ] at hk0 hk1 hk2 hk3 hk4 hk5 hk6 hk7 hk8 hk9 hk10; have he0 := hres4.cell 0; have he1 := hres4.cell 1; have he2 := hres4.cell 2; have he3 := hres4.cell 3; have he4 := hres4.cell 4; have he5 := hres4.cell 5; have he6 := hres4.cell 6; have he7 := hres4.cell 7; have he8 := hres4.cell 8; have he9 := hres4.cell 9; have he10 := hres4.cell 10; simp only [List.getElem?_toArray, List.getElem?_cons_zero, List.getElem?_cons_succ] at he0 he1 he2 he3 he4 he5 he6 he7 he8 he9 he10; have hf0 := hres4.frozen 0; have hf1 := hres4.frozen 1; have hf2 := hres4.frozen 2; have hf3 := hres4.frozen 3; have hf4 := hres4.frozen 4; have hf5 := hres4.frozen 5; have hf6 := hres4.frozen 6; have hf7 := hres4.frozen 7; have hf8 := hres4.frozen 8; have hf9 := hres4.frozen 9; have hf10 := hres4.frozen 10))
      go_wp2_with fail
      obtain ⟨w5, hw5⟩ : ∃ w5, w5 = (((((((((((w4).setCell ⟨q, 0, none⟩ (.int .i64 (s : Int))).setCell ⟨q, 1, none⟩ (.int .i64 (x1 : Int))).setCell ⟨q, 2, none⟩ (.int .i64 (L : Int))).setCell ⟨q, 3, none⟩ (.int .i64 (x4 : Int))).setCell ⟨q, 4, none⟩ (.int .i64 (x6 : Int))).setCell ⟨q, 5, none⟩ (.int .i64 (x7 : Int))).setCell ⟨q, 6, none⟩ (.int .i64 (x8 : Int))).setCell ⟨q, 7, none⟩ (.int .i64 (x9 : Int))).setCell ⟨q, 8, none⟩ (.int .i64 (x10 : Int))).setCell ⟨q, 9, none⟩ (.int .u32 (x12 : Int))).setCell ⟨q, 10, none⟩ (.int .u32 (x16 : Int)) := ⟨_, rfl⟩
      have K0 := hres4
      have O0 := hown
      have O1 := own_set_far O0 K0 (by decide) 0 (.int .i64 (s : Int))
      have K1 := K0.set_ 0 (.int .i64 (s : Int))
      clear O0
      have O2 := own_set_far O1 K1 (by decide) 1 (.int .i64 (x1 : Int))
      have K2 := K1.set_ 1 (.int .i64 (x1 : Int))
      clear O1
      have O3 := own_set_far O2 K2 (by decide) 2 (.int .i64 (L : Int))
      have K3 := K2.set_ 2 (.int .i64 (L : Int))
      clear O2
      have O4 := own_set_far O3 K3 (by decide) 3 (.int .i64 (x4 : Int))
      have K4 := K3.set_ 3 (.int .i64 (x4 : Int))
      clear O3
      have O5 := own_set_far O4 K4 (by decide) 4 (.int .i64 (x6 : Int))
      have K5 := K4.set_ 4 (.int .i64 (x6 : Int))
      clear O4
      have O6 := own_set_far O5 K5 (by decide) 5 (.int .i64 (x7 : Int))
      have K6 := K5.set_ 5 (.int .i64 (x7 : Int))
      clear O5
      have O7 := own_set_far O6 K6 (by decide) 6 (.int .i64 (x8 : Int))
      have K7 := K6.set_ 6 (.int .i64 (x8 : Int))
      clear O6
      have O8 := own_set_far O7 K7 (by decide) 7 (.int .i64 (x9 : Int))
      have K8 := K7.set_ 7 (.int .i64 (x9 : Int))
      clear O7
      have O9 := own_set_far O8 K8 (by decide) 8 (.int .i64 (x10 : Int))
      have K9 := K8.set_ 8 (.int .i64 (x10 : Int))
      clear O8
      have O10 := own_set_far O9 K9 (by decide) 9 (.int .u32 (x12 : Int))
      have K10 := K9.set_ 9 (.int .u32 (x12 : Int))
      clear O9
      have O11 := own_set_far O10 K10 (by decide) 10 (.int .u32 (x16 : Int))
      have K11 := K10.set_ 10 (.int .u32 (x16 : Int))
      clear O10
      have hres5 : Blk w5 q 24 #[.int .i64 (s : Int), .int .i64 (x1 : Int), .int .i64 (L : Int), .int .i64 (x4 : Int), .int .i64 (x6 : Int), .int .i64 (x7 : Int), .int .i64 (x8 : Int), .int .i64 (x9 : Int), .int .i64 (x10 : Int), .int .u32 (x12 : Int), .int .u32 (x16 : Int)] := by
        rw [hw5]
        simp only [List.setIfInBounds_toArray, List.set_cons_zero, List.set_cons_succ] at K11
        exact K11
      have hown5 : w5.ownsRow w.heap.size 5 1 (.slice A' 0 c') 0 (bv (bodyP l)) := by
        rw [hw5]
        exact own_lower O11 (by have := hB2.drew.size; exact this)
      have hB5 : Below w.heap.size w w5 := by
        rw [hw5]
        exact (hB2.drew.trans (hb4.mono hB2.drew.size)).trans (((((((((((((Below.refl q w4).setCell (p := ⟨q, 0, none⟩) (Nat.le_refl _) _).setCell (p := ⟨q, 1, none⟩) (Nat.le_refl _) _).setCell (p := ⟨q, 2, none⟩) (Nat.le_refl _) _).setCell (p := ⟨q, 3, none⟩) (Nat.le_refl _) _).setCell (p := ⟨q, 4, none⟩) (Nat.le_refl _) _).setCell (p := ⟨q, 5, none⟩) (Nat.le_refl _) _).setCell (p := ⟨q, 6, none⟩) (Nat.le_refl _) _).setCell (p := ⟨q, 7, none⟩) (Nat.le_refl _) _).setCell (p := ⟨q, 8, none⟩) (Nat.le_refl _) _).setCell (p := ⟨q, 9, none⟩) (Nat.le_refl _) _).setCell (p := ⟨q, 10, none⟩) (Nat.le_refl _) _ : Below q w4 _).mono (by rw [HQ.out]; exact Nat.le_refl _))
      rw [← hw5]
      clear hw5 K11 O11
      have hr0 := hres5.cell 0
      have hr1 := hres5.cell 1
      have hr2 := hres5.cell 2
      have hr3 := hres5.cell 3
      have hr4 := hres5.cell 4
      have hr5 := hres5.cell 5
      have hr6 := hres5.cell 6
      have hr7 := hres5.cell 7
      have hr8 := hres5.cell 8
      have hr9 := hres5.cell 9
      have hr10 := hres5.cell 10
      simp only [List.getElem?_toArray, List.getElem?_cons_zero, List.getElem?_cons_succ] at hr0 hr1 hr2 hr3 hr4 hr5 hr6 hr7 hr8 hr9 hr10
      exact bodyPost_ret (v := .tuple #[.agg #[.int .i64 (s : Int), .int .i64 (x1 : Int), .int .i64 (L : Int), .int .i64 (x4 : Int), .int .i64 (x6 : Int), .int .i64 (x7 : Int), .int .i64 (x8 : Int), .int .i64 (x9 : Int), .int .i64 (x10 : Int), .int .u32 (x12 : Int), .int .u32 (x16 : Int)], .slice A' 0 c', .int .i64 0]) (by simp [results, Try.results16, go_sem, hr0, hr1, hr2, hr3, hr4, hr5, hr6, hr7, hr8, hr9, hr10]) rfl ⟨HR.out _ _ _ hown5, hB5⟩
    · have e2 := HC2.out hcs
      subst e2
      clear HC HC2
      go_enter Try.func16, Try.ntmps16
      go_wp2_with fail
      refine (C1.out _ ((Below.refl _ _).alloc (Nat.le_refl _) _)).mono ?_
      rintro e w1 ⟨he, hb1⟩
      rw [HV.out.1, HV.out.2] at he
      subst he
      have hB1 : Below w.heap.size w w1 := ((Below.refl _ _).alloc (Nat.le_refl _) _).trans (hb1.mono (by simp))
      have hres := (Blk.new w 24 #[.int .i64 0, .int .i64 0, .int .i64 0, .int .i64 0, .int .i64 0, .int .i64 0, .int .i64 0, .int .i64 0, .int .i64 0, .int .u32 0, .int .u32 0]).below hb1 (by simp)
      clear hb1 C1
      obtain ⟨q, hq⟩ : ∃ q, q = w.heap.size := ⟨_, rfl⟩
      rw [← hq] at hres ⊢
      have HQ := Lib.hid hq
      clear hq
      go_wp2_with fail
      refine (CN.out _ (hB1.alloc hB1.size _)).mono ?_
      rintro e w' ⟨rfl, rfl⟩
      go_wp2_with fail
      have hres2 := hres.alloc (.cells #[.int .i64 (s : Int), .int .i64 (x1 : Int), .int .i64 (L : Int), .int .i64 (x4 : Int), .int .i64 (x6 : Int), .int .i64 (x7 : Int), .int .i64 (x8 : Int), .int .i64 (x9 : Int), .int .i64 (x10 : Int), .int .u32 (x12 : Int), .int .u32 (x16 : Int)] 24)
      have hbh2 := Blk.new w1 24 #[.int .i64 (s : Int), .int .i64 (x1 : Int), .int .i64 (L : Int), .int .i64 (x4 : Int), .int .i64 (x6 : Int), .int .i64 (x7 : Int), .int .i64 (x8 : Int), .int .i64 (x9 : Int), .int .i64 (x10 : Int), .int .u32 (x12 : Int), .int .u32 (x16 : Int)]
      have hB2 : Below w.heap.size w (w1.alloc (.cells #[.int .i64 (s : Int), .int .i64 (x1 : Int), .int .i64 (L : Int), .int .i64 (x4 : Int), .int .i64 (x6 : Int), .int .i64 (x7 : Int), .int .i64 (x8 : Int), .int .i64 (x9 : Int), .int .i64 (x10 : Int), .int .u32 (x12 : Int), .int .u32 (x16 : Int)] 24)) := hB1.alloc hB1.size _
      have hqp0 : ¬ q = w1.heap.size := by have := hres.lt; omega
      generalize w1.alloc (.cells #[.int .i64 (s : Int), .int .i64 (x1 : Int), .int .i64 (L : Int), .int .i64 (x4 : Int), .int .i64 (x6 : Int), .int .i64 (x7 : Int), .int .i64 (x8 : Int), .int .i64 (x9 : Int), .int .i64 (x10 : Int), .int .u32 (x12 : Int), .int .u32 (x16 : Int)] 24) = w2 at *
      generalize w1.heap.size = ph at *
      clear hres CN hB1
      have hc0 := hbh2.cell 0
      have hc1 := hbh2.cell 1
      have hc2 := hbh2.cell 2
      have hc3 := hbh2.cell 3
      have hc4 := hbh2.cell 4
      have hc5 := hbh2.cell 5
      have hc6 := hbh2.cell 6
      have hc7 := hbh2.cell 7
      have hc8 := hbh2.cell 8
      have hc9 := hbh2.cell 9
      have hc10 := hbh2.cell 10
      simp only [List.getElem?_toArray, List.getElem?_cons_zero, List.getElem?_cons_succ] at hc0 hc1 hc2 hc3 hc4 hc5 hc6 hc7 hc8 hc9 hc10
      have hlt2 := hbh2.lt
      have hqlt : q < w2.heap.size := hres2.lt
      have hqp : ¬ q = ph := hqp0
      have hqp' : ¬ ph = q := fun e => hqp e.symm
      have hd0 := hbh2.drew.cell 0
      have hd1 := hbh2.drew.cell 1
      have hd2 := hbh2.drew.cell 2
      have hd3 := hbh2.drew.cell 3
      have hd4 := hbh2.drew.cell 4
      have hd5 := hbh2.drew.cell 5
      have hd6 := hbh2.drew.cell 6
      have hd7 := hbh2.drew.cell 7
      have hd8 := hbh2.drew.cell 8
      have hd9 := hbh2.drew.cell 9
      have hd10 := hbh2.drew.cell 10
      simp only [List.getElem?_toArray, List.getElem?_cons_zero, List.getElem?_cons_succ] at hd0 hd1 hd2 hd3 hd4 hd5 hd6 hd7 hd8 hd9 hd10
      have i1 : (0 : Int) ≤ 4 * (s : Int) := by omega
      have i2 : 4 * (s : Int) ≤ (L : Int) := by omega
      have i3 : (L : Int) ≤ ((c : Nat) : Int) := by omega
      have i4 : (4 * (s : Int)).toNat = 4 * s := by omega
      have i5 : ¬ (4 * (s : Int) < 0) := by omega
      have i6 : ¬ ((L : Int) < 4 * (s : Int)) := by omega
      clear HV
      go_region_held3 (fun wS => wS.cell? ⟨ph, 0, none⟩ = some (.int .i64 (s : Int)) ∧ wS.cell? ⟨ph, 1, none⟩ = some (.int .i64 (x1 : Int)) ∧ wS.cell? ⟨ph, 2, none⟩ = some (.int .i64 (L : Int)) ∧ wS.cell? ⟨ph, 3, none⟩ = some (.int .i64 (x4 : Int)) ∧ wS.cell? ⟨ph, 4, none⟩ = some (.int .i64 (x6 : Int)) ∧ wS.cell? ⟨ph, 5, none⟩ = some (.int .i64 (x7 : Int)) ∧ wS.cell? ⟨ph, 6, none⟩ = some (.int .i64 (x8 : Int)) ∧ wS.cell? ⟨ph, 7, none⟩ = some (.int .i64 (x9 : Int)) ∧ wS.cell? ⟨ph, 8, none⟩ = some (.int .i64 (x10 : Int)) ∧ wS.cell? ⟨ph, 9, none⟩ = some (.int .u32 (x12 : Int)) ∧ wS.cell? ⟨ph, 10, none⟩ = some (.int .u32 (x16 : Int))) (first | with_reducible exact ⟨hc0, hc1, hc2, hc3, hc4, hc5, hc6, hc7, hc8, hc9, hc10⟩ | with_reducible exact ⟨hd0, hd1, hd2, hd3, hd4, hd5, hd6, hd7, hd8, hd9, hd10⟩ | with_reducible exact ⟨hk0, hk1, hk2, hk3, hk4, hk5, hk6, hk7, hk8, hk9, hk10⟩ | (simp only [cell_far hqp', hk0, hk1, hk2, hk3, hk4, hk5, hk6, hk7, hk8, hk9, hk10, and_self]))
        (first | (go_at_call 42; refine (CC.out _ (hB2.drew)).mono ?_; rintro e w4 ⟨A', c', rfl, hown, hb4⟩; have hbh4 := hbh2.drew.below hb4 hlt2; have hres4 := hres2.drew.below hb4 hqlt; have hk0 := hbh4.cell 0; have hk1 := hbh4.cell 1; have hk2 := hbh4.cell 2; have hk3 := hbh4.cell 3; have hk4 := hbh4.cell 4; have hk5 := hbh4.cell 5; have hk6 := hbh4.cell 6; have hk7 := hbh4.cell 7; have hk8 := hbh4.cell 8; have hk9 := hbh4.cell 9; have hk10 := hbh4.cell 10; simp only [List.getElem?_toArray, List.getElem?_cons_zero, List.getElem?_cons_succ] at hk0 hk1 hk2 hk3 hk4 hk5 hk6 hk7 hk8 hk9 hk10; have he0 := hres4.cell 0; have he1 := hres4.cell 1; have he2 := hres4.cell 2; have he3 := hres4.cell 3; have he4 := hres4.cell 4; have he5 := hres4.cell 5; have he6 := hres4.cell 6; have he7 := hres4.cell 7; have he8 := hres4.cell 8; have he9 := hres4.cell 9; have he10 := hres4.cell 10; simp only [List.getElem?_toArray, List.getElem?_cons_zero, List.getElem?_cons_succ] at he0 he1 he2 he3 he4 he5 he6 he7 he8 he9 he10; have hf0 := hres4.frozen 0; have hf1 := hres4.frozen 1; have hf2 := hres4.frozen 2; have hf3 := hres4.frozen 3; have hf4 := hres4.frozen 4; have hf5 := hres4.frozen 5; have hf6 := hres4.frozen 6; have hf7 := hres4.frozen 7; have hf8 := hres4.frozen 8; have hf9 := hres4.frozen 9; have hf10 := hres4.frozen 10))
      go_wp2_with fail
      obtain ⟨w5, hw5⟩ : ∃ w5, w5 = (((((((((((w4).setCell ⟨q, 0, none⟩ (.int .i64 (s : Int))).setCell ⟨q, 1, none⟩ (.int .i64 (x1 : Int))).setCell ⟨q, 2, none⟩ (.int .i64 (L : Int))).setCell ⟨q, 3, none⟩ (.int .i64 (x4 : Int))).setCell ⟨q, 4, none⟩ (.int .i64 (x6 : Int))).setCell ⟨q, 5, none⟩ (.int .i64 (x7 : Int))).setCell ⟨q, 6, none⟩ (.int .i64 (x8 : Int))).setCell ⟨q, 7, none⟩ (.int .i64 (x9 : Int))).setCell ⟨q, 8, none⟩ (.int .i64 (x10 : Int))).setCell ⟨q, 9, none⟩ (.int .u32 (x12 : Int))).setCell ⟨q, 10, none⟩ (.int .u32 (x16 : Int)) := ⟨_, rfl⟩
      have K0 := hres4
      have O0 := hown
      have O1 := own_set_far O0 K0 (by decide) 0 (.int .i64 (s : Int))
      have K1 := K0.set_ 0 (.int .i64 (s : Int))
      clear O0
      have O2 := own_set_far O1 K1 (by decide) 1 (.int .i64 (x1 : Int))
      have K2 := K1.set_ 1 (.int .i64 (x1 : Int))
      clear O1
      have O3 := own_set_far O2 K2 (by decide) 2 (.int .i64 (L : Int))
      have K3 := K2.set_ 2 (.int .i64 (L : Int))
      clear O2
      have O4 := own_set_far O3 K3 (by decide) 3 (.int .i64 (x4 : Int))
      have K4 := K3.set_ 3 (.int .i64 (x4 : Int))
      clear O3
      have O5 := own_set_far O4 K4 (by decide) 4 (.int .i64 (x6 : Int))
      have K5 := K4.set_ 4 (.int .i64 (x6 : Int))
      clear O4
      have O6 := own_set_far O5 K5 (by decide) 5 (.int .i64 (x7 : Int))
      have K6 := K5.set_ 5 (.int .i64 (x7 : Int))
      clear O5
      have O7 := own_set_far O6 K6 (by decide) 6 (.int .i64 (x8 : Int))
      have K7 := K6.set_ 6 (.int .i64 (x8 : Int))
      clear O6
      have O8 := own_set_far O7 K7 (by decide) 7 (.int .i64 (x9 : Int))
      have K8 := K7.set_ 7 (.int .i64 (x9 : Int))
      clear O7
      have O9 := own_set_far O8 K8 (by decide) 8 (.int .i64 (x10 : Int))
      have K9 := K8.set_ 8 (.int .i64 (x10 : Int))
      clear O8
      have O10 := own_set_far O9 K9 (by decide) 9 (.int .u32 (x12 : Int))
      have K10 := K9.set_ 9 (.int .u32 (x12 : Int))
      clear O9
      have O11 := own_set_far O10 K10 (by decide) 10 (.int .u32 (x16 : Int))
      have K11 := K10.set_ 10 (.int .u32 (x16 : Int))
      clear O10
      have hres5 : Blk w5 q 24 #[.int .i64 (s : Int), .int .i64 (x1 : Int), .int .i64 (L : Int), .int .i64 (x4 : Int), .int .i64 (x6 : Int), .int .i64 (x7 : Int), .int .i64 (x8 : Int), .int .i64 (x9 : Int), .int .i64 (x10 : Int), .int .u32 (x12 : Int), .int .u32 (x16 : Int)] := by
        rw [hw5]
        simp only [List.setIfInBounds_toArray, List.set_cons_zero, List.set_cons_succ] at K11
        exact K11
      have hown5 : w5.ownsRow w.heap.size 5 1 (.slice A' (L - 4 * s) c') (L - 4 * s) (bv (bodyP l)) := by
        rw [hw5]
        exact own_lower O11 (by have := hB2.drew.size; exact this)
      have hB5 : Below w.heap.size w w5 := by
        rw [hw5]
        exact (hB2.drew.trans (hb4.mono hB2.drew.size)).trans (((((((((((((Below.refl q w4).setCell (p := ⟨q, 0, none⟩) (Nat.le_refl _) _).setCell (p := ⟨q, 1, none⟩) (Nat.le_refl _) _).setCell (p := ⟨q, 2, none⟩) (Nat.le_refl _) _).setCell (p := ⟨q, 3, none⟩) (Nat.le_refl _) _).setCell (p := ⟨q, 4, none⟩) (Nat.le_refl _) _).setCell (p := ⟨q, 5, none⟩) (Nat.le_refl _) _).setCell (p := ⟨q, 6, none⟩) (Nat.le_refl _) _).setCell (p := ⟨q, 7, none⟩) (Nat.le_refl _) _).setCell (p := ⟨q, 8, none⟩) (Nat.le_refl _) _).setCell (p := ⟨q, 9, none⟩) (Nat.le_refl _) _).setCell (p := ⟨q, 10, none⟩) (Nat.le_refl _) _ : Below q w4 _).mono (by rw [HQ.out]; exact Nat.le_refl _))
      rw [← hw5]
      clear hw5 K11 O11
      have hr0 := hres5.cell 0
      have hr1 := hres5.cell 1
      have hr2 := hres5.cell 2
      have hr3 := hres5.cell 3
      have hr4 := hres5.cell 4
      have hr5 := hres5.cell 5
      have hr6 := hres5.cell 6
      have hr7 := hres5.cell 7
      have hr8 := hres5.cell 8
      have hr9 := hres5.cell 9
      have hr10 := hres5.cell 10
      simp only [List.getElem?_toArray, List.getElem?_cons_zero, List.getElem?_cons_succ] at hr0 hr1 hr2 hr3 hr4 hr5 hr6 hr7 hr8 hr9 hr10
      exact bodyPost_ret (v := .tuple #[.agg #[.int .i64 (s : Int), .int .i64 (x1 : Int), .int .i64 (L : Int), .int .i64 (x4 : Int), .int .i64 (x6 : Int), .int .i64 (x7 : Int), .int .i64 (x8 : Int), .int .i64 (x9 : Int), .int .i64 (x10 : Int), .int .u32 (x12 : Int), .int .u32 (x16 : Int)], .slice A' (L - 4 * s) c', .int .i64 0]) (by simp [results, Try.results16, go_sem, hr0, hr1, hr2, hr3, hr4, hr5, hr6, hr7, hr8, hr9, hr10]) rfl ⟨HR.out _ _ _ hown5, hB5⟩
  exact both _ rfl
end Go.Proofs.Ytpgbldpppdmdoaa
