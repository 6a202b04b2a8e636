/- The walk of encap.Unwrap (wip/genencap.py). -/
import Derived.Test.YtpgbldpppdmdoaaWrap
namespace Go.Proofs.Ytpgbldpppdmdoaa
set_option linter.unusedVariables false
set_option linter.unusedSimpArgs false
open Go.RowKit

def UnwrapRet (l : List Nat) (w : World) (e : Ending) (w' : World) : Prop :=
  (whyU l = 0 ∧ ∃ A c, e = .returned (.tuple #[.slice A (lenP (bodyP l)) c, .int .u32 (four' l 12 : Nat), .int .u32 (four' l 16 : Nat), .int .i64 0]) ∧ lenP (bodyP l) ≤ c ∧ Reads w' w'.heap.size 1 A (lenP (bodyP l)) (bv (innerU l))) ∨
  (whyU l ≠ 0 ∧ e = .returned (.tuple #[.slice none 0 0, .int .u32 0, .int .u32 0, .int .i64 (whyU l : Nat)]))

set_option maxHeartbeats 8000000 in
set_option maxRecDepth 100000 in
theorem unwrap_any (A : Option Addr) (n c B : Nat) (l : List Nat) (w : World) (hr : Reads w B 1 A n (bv l)) (hB : B ≤ w.heap.size) (hn : n ≤ 1000000) (hnc : n ≤ c) (ha : AllB l) :
    Calls Try.prog 32 #[.slice A n c] w fun e w' => UnwrapRet l w e w' ∧ Below w.heap.size w w' := by
  have CP := Lib.hid (parse_any A n c B l w hr hB (by omega) hnc ha)
  by_cases hy : whyP l = 0
  · obtain ⟨k1, k2, k3, k4, k5, k6, k7⟩ := why_zero hy
    have hlen := hr.length
    obtain ⟨L, hL⟩ : ∃ x, x = lenP l := ⟨_, rfl⟩
    obtain ⟨x8, hx8⟩ : ∃ x, x = at' l 8 := ⟨_, rfl⟩
    obtain ⟨s, hs1⟩ : ∃ x, x = ihlP l := ⟨_, rfl⟩
    obtain ⟨x1, hx1⟩ : ∃ x, x = at' l 1 := ⟨_, rfl⟩
    obtain ⟨x4, hx4⟩ : ∃ x, x = two' l 4 := ⟨_, rfl⟩
    obtain ⟨f, hf⟩ : ∃ x, x = two' l 6 / 8192 := ⟨_, rfl⟩
    obtain ⟨o, ho⟩ : ∃ x, x = two' l 6 % 8192 := ⟨_, rfl⟩
    obtain ⟨x9, hx9⟩ : ∃ x, x = at' l 9 := ⟨_, rfl⟩
    obtain ⟨x10, hx10⟩ : ∃ x, x = two' l 10 := ⟨_, rfl⟩
    obtain ⟨x12, hx12⟩ : ∃ x, x = four' l 12 := ⟨_, rfl⟩
    obtain ⟨x16, hx16⟩ : ∃ x, x = four' l 16 := ⟨_, rfl⟩
    have hvals : (hdP l).vals = #[.int .i64 (s : Int), .int .i64 (x1 : Int), .int .i64 (L : Int), .int .i64 (x4 : Int), .int .i64 (f : Int), .int .i64 (o : Int), .int .i64 (x8 : Int), .int .i64 (x9 : Int), .int .i64 (x10 : Int), .int .u32 (x12 : Int), .int .u32 (x16 : Int)] := by
      unfold hdP Hd.vals
      dsimp only
      rw [← hL, ← hx8, ← hs1, ← hx1, ← hx4, ← hf, ← ho, ← hx9, ← hx10, ← hx12, ← hx16]
    have HV := Lib.hid hvals
    have hba : Hid (AllB (bodyP l)) := (ha.take _).drop _
    have hbl : lenP l - 4 * ihlP l ≤ 1000000 := by omega
    have hbl2 : (bodyP l).length = lenP l - 4 * ihlP l := by unfold bodyP; rw [List.length_drop, List.length_take]; omega
    obtain ⟨m, hm⟩ : ∃ m, m = lenP l - 4 * ihlP l := ⟨_, rfl⟩
    have hml : Hid ((bodyP l).length = m) := by show _ = _; rw [hm]; exact hbl2
    rw [← hm] at hbl
    obtain ⟨bd, hbd⟩ : ∃ b, b = bodyP l := ⟨_, rfl⟩
    have HU : Hid ((x9 ≠ 4 → whyU l = 8) ∧ (x9 = 4 → whyU l = whyP bd)) := by
      unfold whyU
      rw [← hx9, hbd, if_neg (by omega)]
      exact ⟨fun h => by rw [if_pos h], fun h => by rw [if_neg (by omega)]⟩
    have HRU : Hid (∀ A' c' w', x9 = 4 → whyP bd = 0 → lenP bd ≤ c' → Reads w' w'.heap.size 1 A' (lenP bd) (bv (bd.take (lenP bd))) → UnwrapRet l w (.returned (.tuple #[.slice A' (lenP bd) c', .int .u32 (x12 : Int), .int .u32 (x16 : Int), .int .i64 0])) w') := by
      intro A' c' w' h1 h2 h3 h4
      have h5 := HU.out.2 h1
      refine .inl ⟨by rw [h5]; exact h2, A', c', ?_, ?_, ?_⟩
      · rw [← hbd, ← hx12, ← hx16]
      · rw [← hbd]; exact h3
      · unfold innerU; rw [← hbd]; exact h4
    have HM := Lib.hid hm
    rw [← hbd] at hba hml
    have HBD := Lib.hid hbd
    have HYE := Lib.hid hy
    clear hr ha hL hx8 hs1 hx1 hx4 hf ho hx9 hx10 hx12 hx16 hvals k1 k2 k3 k4 k5 k6 k7 hlen hy hbl2 hm hbd
    go_enter Try.func32, Try.ntmps32
    go_wp2_with fail
    refine CP.out.mono ?_
    rintro e w1 ⟨hret, hb1⟩
    obtain ⟨A1, c1, rfl, hown1⟩ := hret.yes HYE.out
    rw [HV.out, ← HM.out]
    rw [← HM.out, ← HBD.out] at hown1
    have hmc := own_cap hown1
    have hB2 := hb1.alloc hb1.size (.cells #[.int .i64 (s : Int), .int .i64 (x1 : Int), .int .i64 (L : Int), .int .i64 (x4 : Int), .int .i64 (f : Int), .int .i64 (o : Int), .int .i64 (x8 : Int), .int .i64 (x9 : Int), .int .i64 (x10 : Int), .int .u32 (x12 : Int), .int .u32 (x16 : Int)] 24)
    have hh2 := Blk.new w1 24 #[.int .i64 (s : Int), .int .i64 (x1 : Int), .int .i64 (L : Int), .int .i64 (x4 : Int), .int .i64 (f : Int), .int .i64 (o : Int), .int .i64 (x8 : Int), .int .i64 (x9 : Int), .int .i64 (x10 : Int), .int .u32 (x12 : Int), .int .u32 (x16 : Int)]
    have hs2 := hB2.size
    have CP2 := Lib.hid (parse_any A1 m c1 w1.heap.size bd (w1.alloc (.cells #[.int .i64 (s : Int), .int .i64 (x1 : Int), .int .i64 (L : Int), .int .i64 (x4 : Int), .int .i64 (f : Int), .int .i64 (o : Int), .int .i64 (x8 : Int), .int .i64 (x9 : Int), .int .i64 (x10 : Int), .int .u32 (x12 : Int), .int .u32 (x16 : Int)] 24)) ((Reads.of_own hown1).alloc (Nat.le_refl _) _) (by simp) (by omega) hmc hba.out)
    have HO := Lib.hid (hown1.alloc (.cells #[.int .i64 (s : Int), .int .i64 (x1 : Int), .int .i64 (L : Int), .int .i64 (x4 : Int), .int .i64 (f : Int), .int .i64 (o : Int), .int .i64 (x8 : Int), .int .i64 (x9 : Int), .int .i64 (x10 : Int), .int .u32 (x12 : Int), .int .u32 (x16 : Int)] 24))
    clear hret hb1 CP hown1
    by_cases h4 : x9 = 4
    · have hb4 : ((x9 : Int) != 4) = false := by simp; omega
      have hb4' : ((x9 : Int) == 4) = true := by simp; omega
      have H4 := Lib.hid h4
      clear h4
      go_wp2_with fail
      generalize w1.alloc (.cells #[.int .i64 (s : Int), .int .i64 (x1 : Int), .int .i64 (L : Int), .int .i64 (x4 : Int), .int .i64 (f : Int), .int .i64 (o : Int), .int .i64 (x8 : Int), .int .i64 (x9 : Int), .int .i64 (x10 : Int), .int .u32 (x12 : Int), .int .u32 (x16 : Int)] 24) = w2 at *
      refine CP2.out.mono ?_
      rintro e w3 ⟨hret, hb3⟩
      have hh3 := hh2.below hb3 hh2.lt
      have hO3 := own_below HO.out hb3
      have hB3 := hB2.trans (hb3.mono hB2.size)
      by_cases hy2 : whyP bd = 0
      · obtain ⟨j1, j2, j3, j4, j5, j6, j7⟩ := why_zero hy2
        obtain ⟨A3, c3, rfl, _⟩ := hret.yes hy2
        obtain ⟨L2, hL2⟩ : ∃ x, x = lenP bd := ⟨_, rfl⟩
        obtain ⟨y0, y1, y2, y3, y4, y5, y6, y7, y8, y9, y10, hv, e2⟩ : ∃ (y0 y1 y2 y3 y4 y5 y6 y7 y8 : Int) (y9 y10 : Nat), (hdP bd).vals = #[.int .i64 y0, .int .i64 y1, .int .i64 y2, .int .i64 y3, .int .i64 y4, .int .i64 y5, .int .i64 y6, .int .i64 y7, .int .i64 y8, .int .u32 (y9 : Int), .int .u32 (y10 : Int)] ∧ y2 = ((lenP bd : Nat) : Int) := ⟨_, _, _, _, _, _, _, _, _, _, _, rfl, rfl⟩
        rw [← hL2] at e2
        subst e2
        rw [hv]
        have hL2m : L2 ≤ m := by have := hml.out; omega
        have HRU2 := Lib.hid (HRU.out A1 c1)
        rw [← hL2] at HRU2
        have HY2 := Lib.hid hy2
        have hB4 := hB3.alloc hB3.size (.cells #[.int .i64 y0, .int .i64 y1, .int .i64 (L2 : Int), .int .i64 y3, .int .i64 y4, .int .i64 y5, .int .i64 y6, .int .i64 y7, .int .i64 y8, .int .u32 (y9 : Int), .int .u32 (y10 : Int)] 24)
        have hi4 := Blk.new w3 24 #[.int .i64 y0, .int .i64 y1, .int .i64 (L2 : Int), .int .i64 y3, .int .i64 y4, .int .i64 y5, .int .i64 y6, .int .i64 y7, .int .i64 y8, .int .u32 (y9 : Int), .int .u32 (y10 : Int)]
        have hh4 := hh3.alloc (.cells #[.int .i64 y0, .int .i64 y1, .int .i64 (L2 : Int), .int .i64 y3, .int .i64 y4, .int .i64 y5, .int .i64 y6, .int .i64 y7, .int .i64 y8, .int .u32 (y9 : Int), .int .u32 (y10 : Int)] 24)
        have hr4 := Lib.hid (((Reads.of_own hO3).alloc (Nat.le_refl _) (.cells #[.int .i64 y0, .int .i64 y1, .int .i64 (L2 : Int), .int .i64 y3, .int .i64 y4, .int .i64 y5, .int .i64 y6, .int .i64 y7, .int .i64 y8, .int .u32 (y9 : Int), .int .u32 (y10 : Int)] 24)).takeb (k := L2) hL2m)
        have hs4 : w3.heap.size ≤ (w3.alloc (.cells #[.int .i64 y0, .int .i64 y1, .int .i64 (L2 : Int), .int .i64 y3, .int .i64 y4, .int .i64 y5, .int .i64 y6, .int .i64 y7, .int .i64 y8, .int .u32 (y9 : Int), .int .u32 (y10 : Int)] 24)).heap.size := by simp
        have HL2 : Hid (bd.take L2 = bd.take L2) := rfl
        clear hret hb3 hv hL2 hy2 j1 j2 j3 j4 j5 j6 j7 HU HRU HO hh2 hh3 hO3 hB3 hB2 CP2 hml HM HV
        have e2 := hi4.cell 2
        have e9 := hh4.cell 9
        have e10 := hh4.cell 10
        simp only [List.getElem?_toArray, List.getElem?_cons_zero, List.getElem?_cons_succ] at e2 e9 e10
        have i0 : (0 : Int) ≤ (L2 : Int) := by omega
        have i1 : (L2 : Int) ≤ (c1 : Int) := by omega
        clear hi4 hh4
        go_wp2_with fail
        generalize w3.alloc (.cells #[.int .i64 y0, .int .i64 y1, .int .i64 (L2 : Int), .int .i64 y3, .int .i64 y4, .int .i64 y5, .int .i64 y6, .int .i64 y7, .int .i64 y8, .int .u32 (y9 : Int), .int .u32 (y10 : Int)] 24) = w4 at *
        go_quiet (fail)
        go_wp2_with fail
        exact bodyPost_ret (v := .tuple #[.slice A1 L2 c1, .int .u32 (x12 : Int), .int .u32 (x16 : Int), .int .i64 0]) (by simp [results, Try.results32, go_sem]) rfl ⟨HRU2.out _ H4.out HY2.out (by omega) (hr4.out.more hs4), hB4.trans ⟨rfl, rfl, rfl, Nat.le_refl _, fun _ _ => rfl⟩⟩
      · obtain ⟨r, hrr, hr0⟩ : ∃ r, whyP bd = r ∧ r ≠ 0 := ⟨_, rfl, hy2⟩
        obtain rfl := hret.no hy2
        rw [hrr]
        have HW : Hid (whyU l = r) := by show _ = _; rw [HU.out.2 H4.out]; exact hrr
        have HR0 := Lib.hid hr0
        have hb0 : ((r : Int) != 0) = true := by simp; omega
        have hB4 := hB3.alloc hB3.size (.cells #[.int .i64 0, .int .i64 0, .int .i64 0, .int .i64 0, .int .i64 0, .int .i64 0, .int .i64 0, .int .i64 0, .int .i64 0, .int .u32 0, .int .u32 0] 24)
        unfold hd0 Hd.vals
        clear hret hb3 hrr hr0 hy2 HU HRU HO hh2 hh3 hO3 hB3 hB2 CP2
        go_wp2_with fail
        exact bodyPost_ret (v := .tuple #[.slice none 0 0, .int .u32 0, .int .u32 0, .int .i64 (r : Int)]) (by simp [results, Try.results32, go_sem]) rfl ⟨.inr ⟨by rw [HW.out]; exact HR0.out, by rw [HW.out]⟩, hB4⟩
    · have hb4 : ((x9 : Int) != 4) = true := by simp; omega
      have hb4' : ((x9 : Int) == 4) = false := by simp; omega
      have HW : Hid (whyU l = 8) := HU.out.1 h4
      clear h4 HU HRU CP2
      go_wp2_with fail
      exact bodyPost_ret (v := .tuple #[.slice none 0 0, .int .u32 0, .int .u32 0, .int .i64 8]) (by simp [results, Try.results32, go_sem]) rfl ⟨.inr ⟨by rw [HW.out]; omega, by rw [HW.out]; rfl⟩, hB2⟩
  · obtain ⟨r, hrr, hr0⟩ : ∃ r, whyP l = r ∧ r ≠ 0 := ⟨_, rfl, hy⟩
    have HW : Hid (whyU l = r) := by show _ = _; unfold whyU; rw [if_pos hy, hrr]
    have HR := Lib.hid hrr
    have HY := Lib.hid hy
    have hb0 : ((r : Int) != 0) = true := by simp; omega
    have HR0 := Lib.hid hr0
    clear hr hrr hy hr0
    go_enter Try.func32, Try.ntmps32
    go_wp2_with fail
    refine CP.out.mono ?_
    rintro e w1 ⟨hret, hb1⟩
    obtain rfl := hret.no HY.out
    rw [HR.out]
    have hB2 := hb1.alloc hb1.size (.cells #[.int .i64 0, .int .i64 0, .int .i64 0, .int .i64 0, .int .i64 0, .int .i64 0, .int .i64 0, .int .i64 0, .int .i64 0, .int .u32 0, .int .u32 0] 24)
    unfold hd0 Hd.vals
    clear hret CP hb1
    go_wp2_with fail
    exact bodyPost_ret (v := .tuple #[.slice none 0 0, .int .u32 0, .int .u32 0, .int .i64 (r : Int)]) (by simp [results, Try.results32, go_sem]) rfl ⟨.inr ⟨by rw [HW.out]; exact HR0.out, by rw [HW.out]⟩, hB2⟩
end Go.Proofs.Ytpgbldpppdmdoaa
