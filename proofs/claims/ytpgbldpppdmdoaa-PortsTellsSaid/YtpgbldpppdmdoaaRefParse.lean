/- The walk of goitref20.Parse: it hands back what ip.Parse does (wip/genrefparse.py). -/
import Derived.Test.YtpgbldpppdmdoaaRefReader
import Derived.Test.YtpgbldpppdmdoaaIpParse
import Derived.Deep.RegionHeld3
import Derived.Test.YtpgbldpppdmdoaaRegAlloc
namespace Go.Proofs.Ytpgbldpppdmdoaa
set_option linter.unusedVariables false
set_option linter.unusedSimpArgs false
open Go.RowKit

theorem u8_and (x m : Nat) (hx : x < 256) (hm : m < 256) : bits .and .u8 (x : Int) (m : Int) = ((x &&& m : Nat) : Int) :=
  (bits_nat .u8 8 (by decide) (fun n h0 h1 => by
    have e : (2 : Int) ^ 8 = 256 := by decide
    rw [IntKind.wrap_u8]
    omega) x m (by omega) (by omega)).1
theorem or_bytes (a b : Nat) (ha : a < 65536) (hb : b < 256) : bits .or .i64 ((a : Int) * 256) (b : Int) = ((a * 256 + b : Nat) : Int) := by
  have := i64_or_nat (a * 256) b (by omega) (by omega)
  rw [nat_join 8 (a * 256) b (by omega) (by omega)] at this
  exact this
theorem at_cell {w : World} {b off j : Nat} {l : List Nat} (h : ∀ j u, (bv l)[j]? = some u → w.cell? ⟨b, off + j, none⟩ = some u) (hj : j < l.length) : w.cell? ⟨b, off + j, none⟩ = some (.int .u8 ((at' l j : Nat) : Int)) := by
  have := h j _ (bv_get hj)
  rw [this]
  unfold at'
  simp [List.getD_eq_getElem?_getD, List.getElem?_eq_getElem hj]
/-- a struct of 11 cells, stored over another one -/
theorem set11_blk {w : World} {q : Nat} {t : TypeId} {d0 d1 d2 d3 d4 d5 d6 d7 d8 d9 d10 c0 c1 c2 c3 c4 c5 c6 c7 c8 c9 c10 : Value} (h : Blk w q t #[d0, d1, d2, d3, d4, d5, d6, d7, d8, d9, d10]) :
    Blk ((((((((((((w).setCell ⟨q, 0, none⟩ c0).setCell ⟨q, 1, none⟩ c1).setCell ⟨q, 2, none⟩ c2).setCell ⟨q, 3, none⟩ c3).setCell ⟨q, 4, none⟩ c4).setCell ⟨q, 5, none⟩ c5).setCell ⟨q, 6, none⟩ c6).setCell ⟨q, 7, none⟩ c7).setCell ⟨q, 8, none⟩ c8).setCell ⟨q, 9, none⟩ c9).setCell ⟨q, 10, none⟩ c10) q t #[c0, c1, c2, c3, c4, c5, c6, c7, c8, c9, c10] := by
  have hset := (((((((((((h).set_ 0 c0).set_ 1 c1).set_ 2 c2).set_ 3 c3).set_ 4 c4).set_ 5 c5).set_ 6 c6).set_ 7 c7).set_ 8 c8).set_ 9 c9).set_ 10 c10
  simp only [List.setIfInBounds_toArray, List.set_cons_zero, List.set_cons_succ] at hset
  exact hset
theorem set11_below {w : World} {q : Nat} {c0 c1 c2 c3 c4 c5 c6 c7 c8 c9 c10 : Value} : Below q w ((((((((((((w).setCell ⟨q, 0, none⟩ c0).setCell ⟨q, 1, none⟩ c1).setCell ⟨q, 2, none⟩ c2).setCell ⟨q, 3, none⟩ c3).setCell ⟨q, 4, none⟩ c4).setCell ⟨q, 5, none⟩ c5).setCell ⟨q, 6, none⟩ c6).setCell ⟨q, 7, none⟩ c7).setCell ⟨q, 8, none⟩ c8).setCell ⟨q, 9, none⟩ c9).setCell ⟨q, 10, none⟩ c10) := (((((((((((Below.refl q w).setCell (p := ⟨q, 0, none⟩) (Nat.le_refl _) _).setCell (p := ⟨q, 1, none⟩) (Nat.le_refl _) _).setCell (p := ⟨q, 2, none⟩) (Nat.le_refl _) _).setCell (p := ⟨q, 3, none⟩) (Nat.le_refl _) _).setCell (p := ⟨q, 4, none⟩) (Nat.le_refl _) _).setCell (p := ⟨q, 5, none⟩) (Nat.le_refl _) _).setCell (p := ⟨q, 6, none⟩) (Nat.le_refl _) _).setCell (p := ⟨q, 7, none⟩) (Nat.le_refl _) _).setCell (p := ⟨q, 8, none⟩) (Nat.le_refl _) _).setCell (p := ⟨q, 9, none⟩) (Nat.le_refl _) _).setCell (p := ⟨q, 10, none⟩) (Nat.le_refl _) _
theorem set11_own {w : World} {q base n size : Nat} {e t : TypeId} {v : Value} {xs : List Value} {d0 d1 d2 d3 d4 d5 d6 d7 d8 d9 d10 c0 c1 c2 c3 c4 c5 c6 c7 c8 c9 c10 : Value} (h : Blk w q t #[d0, d1, d2, d3, d4, d5, d6, d7, d8, d9, d10]) (hne : e ≠ t) (ho : w.ownsRow base e size v n xs) :
    ((((((((((((w).setCell ⟨q, 0, none⟩ c0).setCell ⟨q, 1, none⟩ c1).setCell ⟨q, 2, none⟩ c2).setCell ⟨q, 3, none⟩ c3).setCell ⟨q, 4, none⟩ c4).setCell ⟨q, 5, none⟩ c5).setCell ⟨q, 6, none⟩ c6).setCell ⟨q, 7, none⟩ c7).setCell ⟨q, 8, none⟩ c8).setCell ⟨q, 9, none⟩ c9).setCell ⟨q, 10, none⟩ c10).ownsRow base e size v n xs := by
  have K0 := h
  have O0 := ho
  have O1 := own_set_far O0 K0 hne 0 c0
  have K1 := K0.set_ 0 c0
  have O2 := own_set_far O1 K1 hne 1 c1
  have K2 := K1.set_ 1 c1
  have O3 := own_set_far O2 K2 hne 2 c2
  have K3 := K2.set_ 2 c2
  have O4 := own_set_far O3 K3 hne 3 c3
  have K4 := K3.set_ 3 c3
  have O5 := own_set_far O4 K4 hne 4 c4
  have K5 := K4.set_ 4 c4
  have O6 := own_set_far O5 K5 hne 5 c5
  have K6 := K5.set_ 5 c5
  have O7 := own_set_far O6 K6 hne 6 c6
  have K7 := K6.set_ 6 c6
  have O8 := own_set_far O7 K7 hne 7 c7
  have K8 := K7.set_ 7 c7
  have O9 := own_set_far O8 K8 hne 8 c8
  have K9 := K8.set_ 8 c8
  have O10 := own_set_far O9 K9 hne 9 c9
  have K10 := K9.set_ 9 c9
  have O11 := own_set_far O10 K10 hne 10 c10
  exact O11

set_option maxHeartbeats 8000000 in
set_option maxRecDepth 100000 in
theorem refparse_short (A : Option Addr) (n c B : Nat) (l : List Nat) (w : World) (hr : Reads w B 1 A n (bv l)) (h20 : n < 20) :
    Calls Try.prog 18 #[.slice A n c] w fun e w' => ParseRet l w e w' ∧ Below w.heap.size w w' := by
  have hwhy := why_short (l := l) (by have := hr.length; omega)
  have HR : Hid (∀ w', ParseRet l w (.returned (.tuple #[.agg #[.int .i64 0, .int .i64 0, .int .i64 0, .int .i64 0, .int .i64 0, .int .i64 0, .int .i64 0, .int .i64 0, .int .i64 0, .int .u32 0, .int .u32 0], .slice none 0 0, .int .i64 1])) w') := fun w' => .inr ⟨by omega, by rw [hwhy]; rfl⟩
  clear hr hwhy
  have hq := (Blk.new w 24 #[.int .i64 0, .int .i64 0, .int .i64 0, .int .i64 0, .int .i64 0, .int .i64 0, .int .i64 0, .int .i64 0, .int .i64 0, .int .u32 0, .int .u32 0]).alloc (.cells #[.int .i64 0, .int .i64 0, .int .i64 0, .int .i64 0, .int .i64 0, .int .i64 0, .int .i64 0, .int .i64 0, .int .i64 0, .int .u32 0, .int .u32 0] 24)
  have hq1 : Blk ((w.alloc (.cells #[.int .i64 0, .int .i64 0, .int .i64 0, .int .i64 0, .int .i64 0, .int .i64 0, .int .i64 0, .int .i64 0, .int .i64 0, .int .u32 0, .int .u32 0] 24)).alloc (.cells #[.int .i64 0, .int .i64 0, .int .i64 0, .int .i64 0, .int .i64 0, .int .i64 0, .int .i64 0, .int .i64 0, .int .i64 0, .int .u32 0, .int .u32 0] 24)) (w.heap.size + 1) 24 #[.int .i64 0, .int .i64 0, .int .i64 0, .int .i64 0, .int .i64 0, .int .i64 0, .int .i64 0, .int .i64 0, .int .i64 0, .int .u32 0, .int .u32 0] := Blk.new_ (by simp)
  have hB := ((Below.refl w.heap.size w).alloc (Nat.le_refl _) (.cells #[.int .i64 0, .int .i64 0, .int .i64 0, .int .i64 0, .int .i64 0, .int .i64 0, .int .i64 0, .int .i64 0, .int .i64 0, .int .u32 0, .int .u32 0] 24)).alloc (by simp) (.cells #[.int .i64 0, .int .i64 0, .int .i64 0, .int .i64 0, .int .i64 0, .int .i64 0, .int .i64 0, .int .i64 0, .int .i64 0, .int .u32 0, .int .u32 0] 24)
  go_enter Try.func18, Try.ntmps18
  go_upto_region 2 with fail
  obtain ⟨q, hqe⟩ : ∃ q, q = w.heap.size := ⟨_, rfl⟩
  rw [← hqe] at hq hq1 ⊢
  have HQ := Lib.hid hqe
  clear hqe
  generalize (w.alloc (.cells #[.int .i64 0, .int .i64 0, .int .i64 0, .int .i64 0, .int .i64 0, .int .i64 0, .int .i64 0, .int .i64 0, .int .i64 0, .int .u32 0, .int .u32 0] 24)).alloc (.cells #[.int .i64 0, .int .i64 0, .int .i64 0, .int .i64 0, .int .i64 0, .int .i64 0, .int .i64 0, .int .i64 0, .int .i64 0, .int .u32 0, .int .u32 0] 24) = w2 at *
  have he0 := hq1.cell 0
  have he1 := hq1.cell 1
  have he2 := hq1.cell 2
  have he3 := hq1.cell 3
  have he4 := hq1.cell 4
  have he5 := hq1.cell 5
  have he6 := hq1.cell 6
  have he7 := hq1.cell 7
  have he8 := hq1.cell 8
  have he9 := hq1.cell 9
  have he10 := hq1.cell 10
  simp only [List.getElem?_toArray, List.getElem?_cons_zero, List.getElem?_cons_succ] at he0 he1 he2 he3 he4 he5 he6 he7 he8 he9 he10
  have hc0 := hq.cell 0
  have hc1 := hq.cell 1
  have hc2 := hq.cell 2
  have hc3 := hq.cell 3
  have hc4 := hq.cell 4
  have hc5 := hq.cell 5
  have hc6 := hq.cell 6
  have hc7 := hq.cell 7
  have hc8 := hq.cell 8
  have hc9 := hq.cell 9
  have hc10 := hq.cell 10
  simp only [List.getElem?_toArray, List.getElem?_cons_zero, List.getElem?_cons_succ] at hc0 hc1 hc2 hc3 hc4 hc5 hc6 hc7 hc8 hc9 hc10
  have hf0 := hq.frozen 0
  have hf1 := hq.frozen 1
  have hf2 := hq.frozen 2
  have hf3 := hq.frozen 3
  have hf4 := hq.frozen 4
  have hf5 := hq.frozen 5
  have hf6 := hq.frozen 6
  have hf7 := hq.frozen 7
  have hf8 := hq.frozen 8
  have hf9 := hq.frozen 9
  have hf10 := hq.frozen 10
  go_wp2_with fail
  obtain ⟨w9, hw9⟩ : ∃ w9, w9 = (((((((((((w2).setCell ⟨q, 0, none⟩ (.int .i64 0)).setCell ⟨q, 1, none⟩ (.int .i64 0)).setCell ⟨q, 2, none⟩ (.int .i64 0)).setCell ⟨q, 3, none⟩ (.int .i64 0)).setCell ⟨q, 4, none⟩ (.int .i64 0)).setCell ⟨q, 5, none⟩ (.int .i64 0)).setCell ⟨q, 6, none⟩ (.int .i64 0)).setCell ⟨q, 7, none⟩ (.int .i64 0)).setCell ⟨q, 8, none⟩ (.int .i64 0)).setCell ⟨q, 9, none⟩ (.int .u32 0)).setCell ⟨q, 10, none⟩ (.int .u32 0) := ⟨_, rfl⟩
  have hK9 : Blk w9 q 24 #[.int .i64 0, .int .i64 0, .int .i64 0, .int .i64 0, .int .i64 0, .int .i64 0, .int .i64 0, .int .i64 0, .int .i64 0, .int .u32 0, .int .u32 0] := by rw [hw9]; exact set11_blk hq
  have hB9 : Below w.heap.size w w9 := by
    rw [hw9]
    exact hB.trans (set11_below.mono (by rw [HQ.out]; exact Nat.le_refl _))
  rw [← hw9]
  clear hw9
  have hz0 := hK9.cell 0
  have hz1 := hK9.cell 1
  have hz2 := hK9.cell 2
  have hz3 := hK9.cell 3
  have hz4 := hK9.cell 4
  have hz5 := hK9.cell 5
  have hz6 := hK9.cell 6
  have hz7 := hK9.cell 7
  have hz8 := hK9.cell 8
  have hz9 := hK9.cell 9
  have hz10 := hK9.cell 10
  simp only [List.getElem?_toArray, List.getElem?_cons_zero, List.getElem?_cons_succ] at hz0 hz1 hz2 hz3 hz4 hz5 hz6 hz7 hz8 hz9 hz10
  exact bodyPost_ret (v := .tuple #[.agg #[.int .i64 0, .int .i64 0, .int .i64 0, .int .i64 0, .int .i64 0, .int .i64 0, .int .i64 0, .int .i64 0, .int .i64 0, .int .u32 0, .int .u32 0], .slice none 0 0, .int .i64 1]) (by simp [results, Try.results18, go_sem, hz0, hz1, hz2, hz3, hz4, hz5, hz6, hz7, hz8, hz9, hz10]) rfl ⟨HR.out _, hB9⟩

set_option maxHeartbeats 16000000 in
set_option maxRecDepth 100000 in
theorem refparse_long (A : Option Addr) (n c B : Nat) (l : List Nat) (w : World) (hr : Reads w B 1 A n (bv l)) (hB : B ≤ w.heap.size) (hn : n ≤ 140737488355328) (hnc : n ≤ c) (h20 : 20 ≤ n) (ha : AllB l) :
    Calls Try.prog 18 #[.slice A n c] w fun e w' => ParseRet l w e w' ∧ Below w.heap.size w w' := by
  have hlen := hr.length
  obtain ⟨b, off, rfl, hbB, hcell⟩ := hr.plain (by omega) (by omega)
  obtain ⟨x0, hx0, hy0⟩ : ∃ x, at' l 0 = x ∧ x < 256 := ⟨_, rfl, at_lt ha 0⟩
  obtain ⟨x1, hx1, hy1⟩ : ∃ x, at' l 1 = x ∧ x < 256 := ⟨_, rfl, at_lt ha 1⟩
  obtain ⟨x2, hx2, hy2⟩ : ∃ x, at' l 2 = x ∧ x < 256 := ⟨_, rfl, at_lt ha 2⟩
  obtain ⟨x3, hx3, hy3⟩ : ∃ x, at' l 3 = x ∧ x < 256 := ⟨_, rfl, at_lt ha 3⟩
  obtain ⟨x4, hx4, hy4⟩ : ∃ x, at' l 4 = x ∧ x < 256 := ⟨_, rfl, at_lt ha 4⟩
  obtain ⟨x5, hx5, hy5⟩ : ∃ x, at' l 5 = x ∧ x < 256 := ⟨_, rfl, at_lt ha 5⟩
  obtain ⟨x6, hx6, hy6⟩ : ∃ x, at' l 6 = x ∧ x < 256 := ⟨_, rfl, at_lt ha 6⟩
  obtain ⟨x7, hx7, hy7⟩ : ∃ x, at' l 7 = x ∧ x < 256 := ⟨_, rfl, at_lt ha 7⟩
  obtain ⟨x8, hx8, hy8⟩ : ∃ x, at' l 8 = x ∧ x < 256 := ⟨_, rfl, at_lt ha 8⟩
  obtain ⟨x9, hx9, hy9⟩ : ∃ x, at' l 9 = x ∧ x < 256 := ⟨_, rfl, at_lt ha 9⟩
  obtain ⟨x10, hx10, hy10⟩ : ∃ x, at' l 10 = x ∧ x < 256 := ⟨_, rfl, at_lt ha 10⟩
  obtain ⟨x11, hx11, hy11⟩ : ∃ x, at' l 11 = x ∧ x < 256 := ⟨_, rfl, at_lt ha 11⟩
  have g0 := at_cell hcell (j := 0) (by omega)
  rw [hx0] at g0
  have g1 := at_cell hcell (j := 1) (by omega)
  rw [hx1] at g1
  have g2 := at_cell hcell (j := 2) (by omega)
  rw [hx2] at g2
  have g3 := at_cell hcell (j := 3) (by omega)
  rw [hx3] at g3
  have g4 := at_cell hcell (j := 4) (by omega)
  rw [hx4] at g4
  have g5 := at_cell hcell (j := 5) (by omega)
  rw [hx5] at g5
  have g6 := at_cell hcell (j := 6) (by omega)
  rw [hx6] at g6
  have g7 := at_cell hcell (j := 7) (by omega)
  rw [hx7] at g7
  have g8 := at_cell hcell (j := 8) (by omega)
  rw [hx8] at g8
  have g9 := at_cell hcell (j := 9) (by omega)
  rw [hx9] at g9
  have g10 := at_cell hcell (j := 10) (by omega)
  rw [hx10] at g10
  have g11 := at_cell hcell (j := 11) (by omega)
  rw [hx11] at g11
  rw [Nat.add_zero] at g0
  obtain ⟨v, hv⟩ : ∃ v, v = x0 / 16 := ⟨_, rfl⟩
  obtain ⟨s, hs⟩ : ∃ s, s = x0 % 16 := ⟨_, rfl⟩
  obtain ⟨L, hL⟩ : ∃ L, L = x2 * 256 + x3 := ⟨_, rfl⟩
  obtain ⟨x4n, hx4n⟩ : ∃ z, z = x4 * 256 + x5 := ⟨_, rfl⟩
  obtain ⟨Fl, hFl⟩ : ∃ z, z = x6 / 32 := ⟨_, rfl⟩
  obtain ⟨y6, hy6'⟩ : ∃ z, z = x6 % 32 := ⟨_, rfl⟩
  obtain ⟨O, hO⟩ : ∃ z, z = y6 * 256 + x7 := ⟨_, rfl⟩
  obtain ⟨S, hS⟩ : ∃ z, z = x10 * 256 + x11 := ⟨_, rfl⟩
  obtain ⟨P, hP⟩ : ∃ z, z = four' l 12 := ⟨_, rfl⟩
  obtain ⟨Q, hQ⟩ : ∃ z, z = four' l 16 := ⟨_, rfl⟩
  have m0 : bits .and .u8 (x0 : Int) 15 = (s : Int) := by rw [hs, ← nat_mask4]; exact u8_and x0 15 hy0 (by omega)
  have m6 : bits .and .u8 (x6 : Int) 31 = (y6 : Int) := by rw [hy6', ← nat_mask5]; exact u8_and x6 31 hy6 (by omega)
  have o2 : bits .or .i64 ((x2 : Int) * 256) (x3 : Int) = (L : Int) := by rw [hL]; exact or_bytes x2 x3 (by omega) hy3
  have o4 : bits .or .i64 ((x4 : Int) * 256) (x5 : Int) = (x4n : Int) := by rw [hx4n]; exact or_bytes x4 x5 (by omega) hy5
  have o6 : bits .or .i64 ((y6 : Int) * 256) (x7 : Int) = (O : Int) := by rw [hO]; exact or_bytes y6 x7 (by omega) hy7
  have o10 : bits .or .i64 ((x10 : Int) * 256) (x11 : Int) = (S : Int) := by rw [hS]; exact or_bytes x10 x11 (by omega) hy11
  have d6 : (x6 : Int) / 32 = (Fl : Int) := by omega
  have d0 : (x0 : Int) / 16 = (v : Int) := by omega
  have hvals : (hdP l).vals = #[.int .i64 (s : Int), .int .i64 (x1 : Int), .int .i64 (L : Int), .int .i64 (x4n : Int), .int .i64 (Fl : Int), .int .i64 (O : Int), .int .i64 (x8 : Int), .int .i64 (x9 : Int), .int .i64 (S : Int), .int .u32 (P : Int), .int .u32 (Q : Int)] := by
    unfold hdP Hd.vals ihlP lenP two'
    dsimp only
    rw [hx0, hx1, hx2, hx3, hx4, hx5, hx6, hx7, hx8, hx9, hx10, hx11, ← hP, ← hQ, ← hs, ← hL, ← hx4n, ← hS, show (x6 * 256 + x7) / 8192 = Fl from by omega, show (x6 * 256 + x7) % 8192 = O from by omega]
  have e0 : at' l 0 / 16 = v := by rw [hx0, hv]
  have e1 : ihlP l = s := by unfold ihlP; rw [hx0, hs]
  have e2 : lenP l = L := by unfold lenP two'; rw [hx2, hx3, hL]
  obtain ⟨z, hz⟩ : ∃ z, netN (l.take (4 * s)) = z := ⟨_, rfl⟩
  have hcases := why_cases h20 hlen e0 e1 e2 hz
  have CN := Lib.hid (fun w' (hb : Below w.heap.size w w') (h4 : 4 * s ≤ n) => R1.net_any w' w'.heap.size (some ⟨b, off, none⟩) (4 * s) c (l.take (4 * s)) (((hr.below (hb.mono hB)).more (Nat.le_trans hB hb.size)).takeb h4) (by omega) (ha.take _))
  rw [hz] at CN
  have hbody : bodyP l = (l.take L).drop (4 * s) := by unfold bodyP; rw [e2, e1]
  have CC := Lib.hid (fun w' (hb : Below w.heap.size w w') (b1 : 4 * s ≤ L) (b2 : L ≤ n) => show Reads w' w'.heap.size 1 (if c = 4 * s then some ⟨b, off, none⟩ else some ⟨b, off + 4 * s, none⟩) (L - 4 * s) (bv (bodyP l)) from by
    have h1 := (((hr.below (hb.mono hB)).more (Nat.le_trans hB hb.size)).takeb b2).cut (k := 4 * s) (cap := c) b1 (by omega)
    rw [Nat.mul_one] at h1
    rw [hbody, show bv ((l.take L).drop (4 * s)) = (bv (l.take L)).drop (4 * s) from by simp [bv]]
    simpa [Addr.add_lit] using h1)
  have HRok : Hid (whyP l = 0 → ∀ A' c' w', w'.ownsRow w.heap.size 5 1 (.slice A' (L - 4 * s) c') (L - 4 * s) (bv (bodyP l)) → ParseRet l w (.returned (.tuple #[.agg #[.int .i64 (s : Int), .int .i64 (x1 : Int), .int .i64 (L : Int), .int .i64 (x4n : Int), .int .i64 (Fl : Int), .int .i64 (O : Int), .int .i64 (x8 : Int), .int .i64 (x9 : Int), .int .i64 (S : Int), .int .u32 (P : Int), .int .u32 (Q : Int)], .slice A' (L - 4 * s) c', .int .i64 0])) w') := by
    intro hyes A' c' w' ho
    refine .inl ⟨hyes, A', c', ?_, ?_⟩
    · rw [hvals, e2, e1]
    · rw [e2, e1]; exact ho
  have HRno : Hid (∀ r : Nat, whyP l = r → r ≠ 0 → ∀ w', ParseRet l w (.returned (.tuple #[.agg #[.int .i64 0, .int .i64 0, .int .i64 0, .int .i64 0, .int .i64 0, .int .i64 0, .int .i64 0, .int .i64 0, .int .i64 0, .int .u32 0, .int .u32 0], .slice none 0 0, .int .i64 (r : Int)])) w') := fun r hwr hr0 w' => .inr ⟨by rw [hwr]; exact hr0, by rw [hwr]; rfl⟩
  have HC := Lib.hid hcases
  -- the reader
  obtain ⟨l', hl'⟩ : ∃ l', l' = (l.take 20).drop 12 := ⟨_, rfl⟩
  have hl8 : l'.length = 8 := by rw [hl', List.length_drop, List.length_take]; omega
  have hal : AllB l' := by rw [hl']; exact (ha.take 20).drop 12
  have hn1 : nb (l'.take 4) = P := by
    rw [hl', hP, ← nb_four (b := l) (j := 12) (by omega), List.drop_take, List.take_take]; rfl
  have hn2 : nb ((l'.drop 4).take 4) = Q := by
    rw [hl', hQ, ← nb_four (b := l) (j := 16) (by omega), List.drop_drop, List.drop_take, List.take_take]; rfl
  have HRR := Lib.hid (fun w' p (hb : Below w.heap.size w w') (hp : w.heap.size ≤ p) (hk : Blk w' p 75 #[.slice (some ⟨b, off + 12, none⟩) 8 (c - 12), .int .i64 0]) => show RR w' p l' from by
    have h1 := ((hr.below (hb.mono hB)).takeb h20).cut (k := 12) (cap := c) (by omega) (by omega)
    rw [if_neg (by omega)] at h1
    simp only [Option.map_some, Addr.add_lit, Nat.mul_one] at h1
    rw [show (bv (l.take 20)).drop 12 = bv l' from by rw [hl']; simp [bv]] at h1
    exact ⟨B, some ⟨b, off + 12, none⟩, c - 12, by omega, by rw [hl8]; exact hk, by rw [hl8]; exact h1, by omega⟩)
  have HU1 := Lib.hid (fun p w' (h : RR w' p l') => u32rr_any p l' w' (by omega) (by omega) hal h)
  have HU2 := Lib.hid (fun p w' (h : RR w' p (l'.drop 4)) => u32rr_any p (l'.drop 4) w' (by rw [List.length_drop]; omega) (by rw [List.length_drop]; omega) (hal.drop 4) h)
  rw [hn1] at HU1
  rw [hn2] at HU2
  have Hg0 : Hid (∀ w', Below w.heap.size w w' → w'.cell? ⟨b, off, none⟩ = some (.int .u8 (x0 : Int))) := fun w' hb => (hb.cell (p := ⟨b, off, none⟩) (show b < w.heap.size by omega)).trans g0
  have hbl : b < w.heap.size := by omega
  have v16 : v < 16 := by omega
  have s16 : s < 16 := by omega
  have L16 : L < 65536 := by omega
  have hPl : P < 4294967296 := by rw [hP]; exact four_lt ha 12
  have hQl : Q < 4294967296 := by rw [hQ]; exact four_lt ha 16
  have y6l : y6 < 32 := by omega
  clear hx0 hx1 hx2 hx3 hx4 hx5 hx6 hx7 hx8 hx9 hx10 hx11 hv hs hL hx4n hFl hy6' hO hS hP hQ hvals e0 e1 e2 hz hcases hbody hl' hl8 hal hn1 hn2 hlen hcell ha hr
  have hq := (Blk.new w 24 #[.int .i64 0, .int .i64 0, .int .i64 0, .int .i64 0, .int .i64 0, .int .i64 0, .int .i64 0, .int .i64 0, .int .i64 0, .int .u32 0, .int .u32 0]).alloc (.cells #[.int .i64 0, .int .i64 0, .int .i64 0, .int .i64 0, .int .i64 0, .int .i64 0, .int .i64 0, .int .i64 0, .int .i64 0, .int .u32 0, .int .u32 0] 24)
  have hq1 : Blk ((w.alloc (.cells #[.int .i64 0, .int .i64 0, .int .i64 0, .int .i64 0, .int .i64 0, .int .i64 0, .int .i64 0, .int .i64 0, .int .i64 0, .int .u32 0, .int .u32 0] 24)).alloc (.cells #[.int .i64 0, .int .i64 0, .int .i64 0, .int .i64 0, .int .i64 0, .int .i64 0, .int .i64 0, .int .i64 0, .int .i64 0, .int .u32 0, .int .u32 0] 24)) (w.heap.size + 1) 24 #[.int .i64 0, .int .i64 0, .int .i64 0, .int .i64 0, .int .i64 0, .int .i64 0, .int .i64 0, .int .i64 0, .int .i64 0, .int .u32 0, .int .u32 0] := Blk.new_ (by simp)
  have hBa := ((Below.refl w.heap.size w).alloc (Nat.le_refl _) (.cells #[.int .i64 0, .int .i64 0, .int .i64 0, .int .i64 0, .int .i64 0, .int .i64 0, .int .i64 0, .int .i64 0, .int .i64 0, .int .u32 0, .int .u32 0] 24)).alloc (by simp) (.cells #[.int .i64 0, .int .i64 0, .int .i64 0, .int .i64 0, .int .i64 0, .int .i64 0, .int .i64 0, .int .i64 0, .int .i64 0, .int .u32 0, .int .u32 0] 24)
  have hsa : ((w.alloc (.cells #[.int .i64 0, .int .i64 0, .int .i64 0, .int .i64 0, .int .i64 0, .int .i64 0, .int .i64 0, .int .i64 0, .int .i64 0, .int .u32 0, .int .u32 0] 24)).alloc (.cells #[.int .i64 0, .int .i64 0, .int .i64 0, .int .i64 0, .int .i64 0, .int .i64 0, .int .i64 0, .int .i64 0, .int .i64 0, .int .u32 0, .int .u32 0] 24)).heap.size = w.heap.size + 2 := by simp
  have G0 : ((w.alloc (.cells #[.int .i64 0, .int .i64 0, .int .i64 0, .int .i64 0, .int .i64 0, .int .i64 0, .int .i64 0, .int .i64 0, .int .i64 0, .int .u32 0, .int .u32 0] 24)).alloc (.cells #[.int .i64 0, .int .i64 0, .int .i64 0, .int .i64 0, .int .i64 0, .int .i64 0, .int .i64 0, .int .i64 0, .int .i64 0, .int .u32 0, .int .u32 0] 24)).cell? ⟨b, off, none⟩ = some (.int .u8 (x0 : Int)) := (hBa.cell (p := ⟨b, off, none⟩) hbl).trans g0
  have G1 : ((w.alloc (.cells #[.int .i64 0, .int .i64 0, .int .i64 0, .int .i64 0, .int .i64 0, .int .i64 0, .int .i64 0, .int .i64 0, .int .i64 0, .int .u32 0, .int .u32 0] 24)).alloc (.cells #[.int .i64 0, .int .i64 0, .int .i64 0, .int .i64 0, .int .i64 0, .int .i64 0, .int .i64 0, .int .i64 0, .int .i64 0, .int .u32 0, .int .u32 0] 24)).cell? ⟨b, off + 1, none⟩ = some (.int .u8 (x1 : Int)) := (hBa.cell (p := ⟨b, off + 1, none⟩) hbl).trans g1
  have G2 : ((w.alloc (.cells #[.int .i64 0, .int .i64 0, .int .i64 0, .int .i64 0, .int .i64 0, .int .i64 0, .int .i64 0, .int .i64 0, .int .i64 0, .int .u32 0, .int .u32 0] 24)).alloc (.cells #[.int .i64 0, .int .i64 0, .int .i64 0, .int .i64 0, .int .i64 0, .int .i64 0, .int .i64 0, .int .i64 0, .int .i64 0, .int .u32 0, .int .u32 0] 24)).cell? ⟨b, off + 2, none⟩ = some (.int .u8 (x2 : Int)) := (hBa.cell (p := ⟨b, off + 2, none⟩) hbl).trans g2
  have G3 : ((w.alloc (.cells #[.int .i64 0, .int .i64 0, .int .i64 0, .int .i64 0, .int .i64 0, .int .i64 0, .int .i64 0, .int .i64 0, .int .i64 0, .int .u32 0, .int .u32 0] 24)).alloc (.cells #[.int .i64 0, .int .i64 0, .int .i64 0, .int .i64 0, .int .i64 0, .int .i64 0, .int .i64 0, .int .i64 0, .int .i64 0, .int .u32 0, .int .u32 0] 24)).cell? ⟨b, off + 3, none⟩ = some (.int .u8 (x3 : Int)) := (hBa.cell (p := ⟨b, off + 3, none⟩) hbl).trans g3
  have G4 : ((w.alloc (.cells #[.int .i64 0, .int .i64 0, .int .i64 0, .int .i64 0, .int .i64 0, .int .i64 0, .int .i64 0, .int .i64 0, .int .i64 0, .int .u32 0, .int .u32 0] 24)).alloc (.cells #[.int .i64 0, .int .i64 0, .int .i64 0, .int .i64 0, .int .i64 0, .int .i64 0, .int .i64 0, .int .i64 0, .int .i64 0, .int .u32 0, .int .u32 0] 24)).cell? ⟨b, off + 4, none⟩ = some (.int .u8 (x4 : Int)) := (hBa.cell (p := ⟨b, off + 4, none⟩) hbl).trans g4
  have G5 : ((w.alloc (.cells #[.int .i64 0, .int .i64 0, .int .i64 0, .int .i64 0, .int .i64 0, .int .i64 0, .int .i64 0, .int .i64 0, .int .i64 0, .int .u32 0, .int .u32 0] 24)).alloc (.cells #[.int .i64 0, .int .i64 0, .int .i64 0, .int .i64 0, .int .i64 0, .int .i64 0, .int .i64 0, .int .i64 0, .int .i64 0, .int .u32 0, .int .u32 0] 24)).cell? ⟨b, off + 5, none⟩ = some (.int .u8 (x5 : Int)) := (hBa.cell (p := ⟨b, off + 5, none⟩) hbl).trans g5
  have G6 : ((w.alloc (.cells #[.int .i64 0, .int .i64 0, .int .i64 0, .int .i64 0, .int .i64 0, .int .i64 0, .int .i64 0, .int .i64 0, .int .i64 0, .int .u32 0, .int .u32 0] 24)).alloc (.cells #[.int .i64 0, .int .i64 0, .int .i64 0, .int .i64 0, .int .i64 0, .int .i64 0, .int .i64 0, .int .i64 0, .int .i64 0, .int .u32 0, .int .u32 0] 24)).cell? ⟨b, off + 6, none⟩ = some (.int .u8 (x6 : Int)) := (hBa.cell (p := ⟨b, off + 6, none⟩) hbl).trans g6
  have G7 : ((w.alloc (.cells #[.int .i64 0, .int .i64 0, .int .i64 0, .int .i64 0, .int .i64 0, .int .i64 0, .int .i64 0, .int .i64 0, .int .i64 0, .int .u32 0, .int .u32 0] 24)).alloc (.cells #[.int .i64 0, .int .i64 0, .int .i64 0, .int .i64 0, .int .i64 0, .int .i64 0, .int .i64 0, .int .i64 0, .int .i64 0, .int .u32 0, .int .u32 0] 24)).cell? ⟨b, off + 7, none⟩ = some (.int .u8 (x7 : Int)) := (hBa.cell (p := ⟨b, off + 7, none⟩) hbl).trans g7
  have G8 : ((w.alloc (.cells #[.int .i64 0, .int .i64 0, .int .i64 0, .int .i64 0, .int .i64 0, .int .i64 0, .int .i64 0, .int .i64 0, .int .i64 0, .int .u32 0, .int .u32 0] 24)).alloc (.cells #[.int .i64 0, .int .i64 0, .int .i64 0, .int .i64 0, .int .i64 0, .int .i64 0, .int .i64 0, .int .i64 0, .int .i64 0, .int .u32 0, .int .u32 0] 24)).cell? ⟨b, off + 8, none⟩ = some (.int .u8 (x8 : Int)) := (hBa.cell (p := ⟨b, off + 8, none⟩) hbl).trans g8
  have G9 : ((w.alloc (.cells #[.int .i64 0, .int .i64 0, .int .i64 0, .int .i64 0, .int .i64 0, .int .i64 0, .int .i64 0, .int .i64 0, .int .i64 0, .int .u32 0, .int .u32 0] 24)).alloc (.cells #[.int .i64 0, .int .i64 0, .int .i64 0, .int .i64 0, .int .i64 0, .int .i64 0, .int .i64 0, .int .i64 0, .int .i64 0, .int .u32 0, .int .u32 0] 24)).cell? ⟨b, off + 9, none⟩ = some (.int .u8 (x9 : Int)) := (hBa.cell (p := ⟨b, off + 9, none⟩) hbl).trans g9
  have G10 : ((w.alloc (.cells #[.int .i64 0, .int .i64 0, .int .i64 0, .int .i64 0, .int .i64 0, .int .i64 0, .int .i64 0, .int .i64 0, .int .i64 0, .int .u32 0, .int .u32 0] 24)).alloc (.cells #[.int .i64 0, .int .i64 0, .int .i64 0, .int .i64 0, .int .i64 0, .int .i64 0, .int .i64 0, .int .i64 0, .int .i64 0, .int .u32 0, .int .u32 0] 24)).cell? ⟨b, off + 10, none⟩ = some (.int .u8 (x10 : Int)) := (hBa.cell (p := ⟨b, off + 10, none⟩) hbl).trans g10
  have G11 : ((w.alloc (.cells #[.int .i64 0, .int .i64 0, .int .i64 0, .int .i64 0, .int .i64 0, .int .i64 0, .int .i64 0, .int .i64 0, .int .i64 0, .int .u32 0, .int .u32 0] 24)).alloc (.cells #[.int .i64 0, .int .i64 0, .int .i64 0, .int .i64 0, .int .i64 0, .int .i64 0, .int .i64 0, .int .i64 0, .int .i64 0, .int .u32 0, .int .u32 0] 24)).cell? ⟨b, off + 11, none⟩ = some (.int .u8 (x11 : Int)) := (hBa.cell (p := ⟨b, off + 11, none⟩) hbl).trans g11
  clear g0 g1 g2 g3 g4 g5 g6 g7 g8 g9 g10 g11
  have hb2 : b < ((w.alloc (.cells #[.int .i64 0, .int .i64 0, .int .i64 0, .int .i64 0, .int .i64 0, .int .i64 0, .int .i64 0, .int .i64 0, .int .i64 0, .int .u32 0, .int .u32 0] 24)).alloc (.cells #[.int .i64 0, .int .i64 0, .int .i64 0, .int .i64 0, .int .i64 0, .int .i64 0, .int .i64 0, .int .i64 0, .int .i64 0, .int .u32 0, .int .u32 0] 24)).heap.size := by rw [hsa]; omega
  go_enter Try.func18, Try.ntmps18
  go_upto_region 4 with fail
  obtain ⟨q, hqe⟩ : ∃ q, q = w.heap.size := ⟨_, rfl⟩
  rw [← hqe] at hq hq1 hsa ⊢
  have HQ := Lib.hid hqe
  clear hqe
  generalize (w.alloc (.cells #[.int .i64 0, .int .i64 0, .int .i64 0, .int .i64 0, .int .i64 0, .int .i64 0, .int .i64 0, .int .i64 0, .int .i64 0, .int .u32 0, .int .u32 0] 24)).alloc (.cells #[.int .i64 0, .int .i64 0, .int .i64 0, .int .i64 0, .int .i64 0, .int .i64 0, .int .i64 0, .int .i64 0, .int .i64 0, .int .u32 0, .int .u32 0] 24) = w2 at *
  have hc12 : ¬ c = 12 := by omega
  have hc20 : (20 : Int) ≤ (c : Int) := by omega
  dsimp only [List.append]
  have LL := Lib.hid (fun w' (h : w' = w2.drew ∨ w' = (w2.drew).alloc (.cells #[.int .i64 0, .int .i64 0, .int .i64 0, .int .i64 0, .int .i64 0, .int .i64 0, .int .i64 0, .int .i64 0, .int .i64 0, .int .u32 0, .int .u32 0] 24)) => show w'.cell? ⟨b, off, none⟩ = some (.int .u8 (x0 : Int)) ∧ w'.cell? ⟨b, off + 1, none⟩ = some (.int .u8 (x1 : Int)) ∧ w'.cell? ⟨b, off + 2, none⟩ = some (.int .u8 (x2 : Int)) ∧ w'.cell? ⟨b, off + 3, none⟩ = some (.int .u8 (x3 : Int)) ∧ w'.cell? ⟨b, off + 4, none⟩ = some (.int .u8 (x4 : Int)) ∧ w'.cell? ⟨b, off + 5, none⟩ = some (.int .u8 (x5 : Int)) ∧ w'.cell? ⟨b, off + 6, none⟩ = some (.int .u8 (x6 : Int)) ∧ w'.cell? ⟨b, off + 7, none⟩ = some (.int .u8 (x7 : Int)) ∧ w'.cell? ⟨b, off + 8, none⟩ = some (.int .u8 (x8 : Int)) ∧ w'.cell? ⟨b, off + 9, none⟩ = some (.int .u8 (x9 : Int)) ∧ w'.cell? ⟨b, off + 10, none⟩ = some (.int .u8 (x10 : Int)) ∧ w'.cell? ⟨b, off + 11, none⟩ = some (.int .u8 (x11 : Int)) from by
    rcases h with rfl | rfl
    · exact ⟨G0, G1, G2, G3, G4, G5, G6, G7, G8, G9, G10, G11⟩
    · exact ⟨(World.cell?_alloc_lt (w2.drew) _ ⟨b, off, none⟩ hb2).trans G0, (World.cell?_alloc_lt (w2.drew) _ ⟨b, off + 1, none⟩ hb2).trans G1, (World.cell?_alloc_lt (w2.drew) _ ⟨b, off + 2, none⟩ hb2).trans G2, (World.cell?_alloc_lt (w2.drew) _ ⟨b, off + 3, none⟩ hb2).trans G3, (World.cell?_alloc_lt (w2.drew) _ ⟨b, off + 4, none⟩ hb2).trans G4, (World.cell?_alloc_lt (w2.drew) _ ⟨b, off + 5, none⟩ hb2).trans G5, (World.cell?_alloc_lt (w2.drew) _ ⟨b, off + 6, none⟩ hb2).trans G6, (World.cell?_alloc_lt (w2.drew) _ ⟨b, off + 7, none⟩ hb2).trans G7, (World.cell?_alloc_lt (w2.drew) _ ⟨b, off + 8, none⟩ hb2).trans G8, (World.cell?_alloc_lt (w2.drew) _ ⟨b, off + 9, none⟩ hb2).trans G9, (World.cell?_alloc_lt (w2.drew) _ ⟨b, off + 10, none⟩ hb2).trans G10, (World.cell?_alloc_lt (w2.drew) _ ⟨b, off + 11, none⟩ hb2).trans G11⟩)
  clear G0 G1 G2 G3 G4 G5 G6 G7 G8 G9 G10 G11
  refine wp_region_alloc_lit (p := .pointer (some ⟨q + 2, 0, none⟩)) (W1 := (w2.drew).alloc (.cells #[.int .i64 0, .int .i64 0, .int .i64 0, .int .i64 0, .int .i64 0, .int .i64 0, .int .i64 0, .int .i64 0, .int .i64 0, .int .u32 0, .int .u32 0] 24)) 64 (by rfl) (by kernel_rfl) (by decide +kernel) (by decide +kernel) (by decide +kernel) (fun a => by go_simp) ?_
  simp only [List.take_succ_cons, List.take_zero]
  repeat (go_big_quiet_step (fail))
  go_big_quiet_want
  refine ⟨.int .u8 (x0 : Int), fun w' hw' => ?_, ?_⟩
  · obtain ⟨k0, k1, k2, k3, k4, k5, k6, k7, k8, k9, k10, k11⟩ := LL.out w' hw'
    clear LL hw'
    unfold Oper.quietAt
    go_simp
  go_simp
  go_big_quiet_on
  repeat (go_big_quiet_step (fail))
  go_big_quiet_want
  refine ⟨.int .u8 (x1 : Int), fun w' hw' => ?_, ?_⟩
  · obtain ⟨k0, k1, k2, k3, k4, k5, k6, k7, k8, k9, k10, k11⟩ := LL.out w' hw'
    clear LL hw'
    unfold Oper.quietAt
    go_simp
  go_simp
  go_big_quiet_on
  repeat (go_big_quiet_step (fail))
  go_big_quiet_want
  refine ⟨.int .u8 (x2 : Int), fun w' hw' => ?_, ?_⟩
  · obtain ⟨k0, k1, k2, k3, k4, k5, k6, k7, k8, k9, k10, k11⟩ := LL.out w' hw'
    clear LL hw'
    unfold Oper.quietAt
    go_simp
  go_simp
  go_big_quiet_on
  repeat (go_big_quiet_step (fail))
  go_big_quiet_want
  refine ⟨.int .u8 (x3 : Int), fun w' hw' => ?_, ?_⟩
  · obtain ⟨k0, k1, k2, k3, k4, k5, k6, k7, k8, k9, k10, k11⟩ := LL.out w' hw'
    clear LL hw'
    unfold Oper.quietAt
    go_simp
  go_simp
  go_big_quiet_on
  repeat (go_big_quiet_step (fail))
  go_big_quiet_want
  refine ⟨.int .u8 (x4 : Int), fun w' hw' => ?_, ?_⟩
  · obtain ⟨k0, k1, k2, k3, k4, k5, k6, k7, k8, k9, k10, k11⟩ := LL.out w' hw'
    clear LL hw'
    unfold Oper.quietAt
    go_simp
  go_simp
  go_big_quiet_on
  repeat (go_big_quiet_step (fail))
  go_big_quiet_want
  refine ⟨.int .u8 (x5 : Int), fun w' hw' => ?_, ?_⟩
  · obtain ⟨k0, k1, k2, k3, k4, k5, k6, k7, k8, k9, k10, k11⟩ := LL.out w' hw'
    clear LL hw'
    unfold Oper.quietAt
    go_simp
  go_simp
  go_big_quiet_on
  repeat (go_big_quiet_step (fail))
  go_big_quiet_want
  refine ⟨.int .u8 (x6 : Int), fun w' hw' => ?_, ?_⟩
  · obtain ⟨k0, k1, k2, k3, k4, k5, k6, k7, k8, k9, k10, k11⟩ := LL.out w' hw'
    clear LL hw'
    unfold Oper.quietAt
    go_simp
  go_simp
  go_big_quiet_on
  repeat (go_big_quiet_step (fail))
  go_big_quiet_want
  refine ⟨.int .u8 (x6 : Int), fun w' hw' => ?_, ?_⟩
  · obtain ⟨k0, k1, k2, k3, k4, k5, k6, k7, k8, k9, k10, k11⟩ := LL.out w' hw'
    clear LL hw'
    unfold Oper.quietAt
    go_simp
  go_simp
  go_big_quiet_on
  repeat (go_big_quiet_step (fail))
  go_big_quiet_want
  refine ⟨.int .u8 (x7 : Int), fun w' hw' => ?_, ?_⟩
  · obtain ⟨k0, k1, k2, k3, k4, k5, k6, k7, k8, k9, k10, k11⟩ := LL.out w' hw'
    clear LL hw'
    unfold Oper.quietAt
    go_simp
  go_simp
  go_big_quiet_on
  repeat (go_big_quiet_step (fail))
  go_big_quiet_want
  refine ⟨.int .u8 (x8 : Int), fun w' hw' => ?_, ?_⟩
  · obtain ⟨k0, k1, k2, k3, k4, k5, k6, k7, k8, k9, k10, k11⟩ := LL.out w' hw'
    clear LL hw'
    unfold Oper.quietAt
    go_simp
  go_simp
  go_big_quiet_on
  repeat (go_big_quiet_step (fail))
  go_big_quiet_want
  refine ⟨.int .u8 (x9 : Int), fun w' hw' => ?_, ?_⟩
  · obtain ⟨k0, k1, k2, k3, k4, k5, k6, k7, k8, k9, k10, k11⟩ := LL.out w' hw'
    clear LL hw'
    unfold Oper.quietAt
    go_simp
  go_simp
  go_big_quiet_on
  repeat (go_big_quiet_step (fail))
  go_big_quiet_want
  refine ⟨.int .u8 (x10 : Int), fun w' hw' => ?_, ?_⟩
  · obtain ⟨k0, k1, k2, k3, k4, k5, k6, k7, k8, k9, k10, k11⟩ := LL.out w' hw'
    clear LL hw'
    unfold Oper.quietAt
    go_simp
  go_simp
  go_big_quiet_on
  repeat (go_big_quiet_step (fail))
  go_big_quiet_want
  refine ⟨.int .u8 (x11 : Int), fun w' hw' => ?_, ?_⟩
  · obtain ⟨k0, k1, k2, k3, k4, k5, k6, k7, k8, k9, k10, k11⟩ := LL.out w' hw'
    clear LL hw'
    unfold Oper.quietAt
    go_simp
  go_simp
  go_big_quiet_on
  repeat (go_big_quiet_step (fail))
  refine wpQuiet_nil ?_
  clear LL m0 m6 o2 o4 o6 o10 d6
  go_wp2_with fail
  have hk2 := ((Blk.new w2 24 #[.int .i64 (s : Int), .int .i64 (x1 : Int), .int .i64 (L : Int), .int .i64 (x4n : Int), .int .i64 (Fl : Int), .int .i64 (O : Int), .int .i64 (x8 : Int), .int .i64 (x9 : Int), .int .i64 (S : Int), .int .u32 0, .int .u32 0]).alloc (.cells #[.slice (some ⟨b, off + 12, none⟩) 8 (c - 12), .int .i64 0] 75)).drew
  rw [hsa] at hk2
  have hrd : Blk ((w2.alloc (.cells #[.int .i64 (s : Int), .int .i64 (x1 : Int), .int .i64 (L : Int), .int .i64 (x4n : Int), .int .i64 (Fl : Int), .int .i64 (O : Int), .int .i64 (x8 : Int), .int .i64 (x9 : Int), .int .i64 (S : Int), .int .u32 0, .int .u32 0] 24)).alloc (.cells #[.slice (some ⟨b, off + 12, none⟩) 8 (c - 12), .int .i64 0] 75)).drew (q + 2 + 1) 75 #[.slice (some ⟨b, off + 12, none⟩) 8 (c - 12), .int .i64 0] := (Blk.new_ (by simp [hsa])).drew
  have hq5 := ((hq.alloc (.cells #[.int .i64 (s : Int), .int .i64 (x1 : Int), .int .i64 (L : Int), .int .i64 (x4n : Int), .int .i64 (Fl : Int), .int .i64 (O : Int), .int .i64 (x8 : Int), .int .i64 (x9 : Int), .int .i64 (S : Int), .int .u32 0, .int .u32 0] 24)).alloc (.cells #[.slice (some ⟨b, off + 12, none⟩) 8 (c - 12), .int .i64 0] 75)).drew
  have hq15 := ((hq1.alloc (.cells #[.int .i64 (s : Int), .int .i64 (x1 : Int), .int .i64 (L : Int), .int .i64 (x4n : Int), .int .i64 (Fl : Int), .int .i64 (O : Int), .int .i64 (x8 : Int), .int .i64 (x9 : Int), .int .i64 (S : Int), .int .u32 0, .int .u32 0] 24)).alloc (.cells #[.slice (some ⟨b, off + 12, none⟩) 8 (c - 12), .int .i64 0] 75)).drew
  have hB5 := ((hBa.alloc hBa.size (.cells #[.int .i64 (s : Int), .int .i64 (x1 : Int), .int .i64 (L : Int), .int .i64 (x4n : Int), .int .i64 (Fl : Int), .int .i64 (O : Int), .int .i64 (x8 : Int), .int .i64 (x9 : Int), .int .i64 (S : Int), .int .u32 0, .int .u32 0] 24)).alloc (by have := hBa.size; simp; omega) (.cells #[.slice (some ⟨b, off + 12, none⟩) 8 (c - 12), .int .i64 0] 75)).drew
  generalize ((w2.alloc (.cells #[.int .i64 (s : Int), .int .i64 (x1 : Int), .int .i64 (L : Int), .int .i64 (x4n : Int), .int .i64 (Fl : Int), .int .i64 (O : Int), .int .i64 (x8 : Int), .int .i64 (x9 : Int), .int .i64 (S : Int), .int .u32 0, .int .u32 0] 24)).alloc (.cells #[.slice (some ⟨b, off + 12, none⟩) 8 (c - 12), .int .i64 0] 75)).drew = v5 at *
  have CU1 := Lib.hid (HU1.out (q + 2 + 1) v5 (HRR.out v5 _ hB5 (by rw [← HQ.out]; omega) hrd))
  clear hq hq1 hBa hsa HRR HU1 hrd
  refine CU1.out.mono ?_
  rintro e v6 ⟨rfl, hr6, hb6⟩
  have hk26 := hk2.below hb6 (by omega)
  have hq6 := hq5.below hb6 (by omega)
  have hq16 := hq15.below hb6 (by omega)
  have hB6 := hB5.trans (hb6.mono (by rw [← HQ.out]; omega))
  have CU2 := Lib.hid (HU2.out (q + 2 + 1) v6 hr6)
  clear hk2 hq5 hq15 hB5 hb6 hr6 CU1 HU2
  go_wp2_with fail
  refine CU2.out.mono ?_
  rintro e v7 ⟨rfl, _, hb7⟩
  have hk27 := hk26.below hb7 (by omega)
  have hq7 := hq6.below hb7 (by omega)
  have hq17 := hq16.below hb7 (by omega)
  have hB7 := hB6.trans (hb7.mono (by rw [← HQ.out]; omega))
  clear hk26 hq6 hq16 hB6 hb7 CU2
  have c9 := hk27.cell 9
  have c10 := hk27.cell 10
  simp only [List.getElem?_toArray, List.getElem?_cons_zero, List.getElem?_cons_succ] at c9 c10
  have f9 := hk27.frozen 9
  have f10 := hk27.frozen 10
  go_upto_region 7 with fail
  have hk8 := (hk27.set_ 9 (.int .u32 (P : Int))).set_ 10 (.int .u32 (Q : Int))
  simp only [List.setIfInBounds_toArray, List.set_cons_zero, List.set_cons_succ] at hk8
  have hq8 := (hq7.far (p := ⟨q + 2, 9, none⟩) (by show q ≠ q + 2; omega) (.int .u32 (P : Int))).far (p := ⟨q + 2, 10, none⟩) (by show q ≠ q + 2; omega) (.int .u32 (Q : Int))
  have hq18 := (hq17.far (p := ⟨q + 2, 9, none⟩) (by show q + 1 ≠ q + 2; omega) (.int .u32 (P : Int))).far (p := ⟨q + 2, 10, none⟩) (by show q + 1 ≠ q + 2; omega) (.int .u32 (Q : Int))
  have hB8 := (hB7.setCell (p := ⟨q + 2, 9, none⟩) (by rw [← HQ.out]; show q ≤ q + 2; omega) (.int .u32 (P : Int))).setCell (p := ⟨q + 2, 10, none⟩) (by rw [← HQ.out]; show q ≤ q + 2; omega) (.int .u32 (Q : Int))
  generalize (v7.setCell ⟨q + 2, 9, none⟩ (.int .u32 (P : Int))).setCell ⟨q + 2, 10, none⟩ (.int .u32 (Q : Int)) = w8 at *
  clear hk27 hq7 hq17 hB7 c9 c10 f9 f10
  have G0 := Hg0.out w8 hB8
  have s0 := hk8.cell 0
  have s2 := hk8.cell 2
  simp only [List.getElem?_toArray, List.getElem?_cons_zero, List.getElem?_cons_succ] at s0 s2
  have HK := Lib.hid (And.intro hk8 (And.intro hq8 (And.intro hq18 hB8)))
  clear hk8 hq8 hq18 hB8 Hg0
  have he0 := HK.out.2.2.1.cell 0
  have he1 := HK.out.2.2.1.cell 1
  have he2 := HK.out.2.2.1.cell 2
  have he3 := HK.out.2.2.1.cell 3
  have he4 := HK.out.2.2.1.cell 4
  have he5 := HK.out.2.2.1.cell 5
  have he6 := HK.out.2.2.1.cell 6
  have he7 := HK.out.2.2.1.cell 7
  have he8 := HK.out.2.2.1.cell 8
  have he9 := HK.out.2.2.1.cell 9
  have he10 := HK.out.2.2.1.cell 10
  simp only [List.getElem?_toArray, List.getElem?_cons_zero, List.getElem?_cons_succ] at he0 he1 he2 he3 he4 he5 he6 he7 he8 he9 he10
  have hc0 := HK.out.2.1.cell 0
  have hc1 := HK.out.2.1.cell 1
  have hc2 := HK.out.2.1.cell 2
  have hc3 := HK.out.2.1.cell 3
  have hc4 := HK.out.2.1.cell 4
  have hc5 := HK.out.2.1.cell 5
  have hc6 := HK.out.2.1.cell 6
  have hc7 := HK.out.2.1.cell 7
  have hc8 := HK.out.2.1.cell 8
  have hc9 := HK.out.2.1.cell 9
  have hc10 := HK.out.2.1.cell 10
  simp only [List.getElem?_toArray, List.getElem?_cons_zero, List.getElem?_cons_succ] at hc0 hc1 hc2 hc3 hc4 hc5 hc6 hc7 hc8 hc9 hc10
  have hf0 := HK.out.2.1.frozen 0
  have hf1 := HK.out.2.1.frozen 1
  have hf2 := HK.out.2.1.frozen 2
  have hf3 := HK.out.2.1.frozen 3
  have hf4 := HK.out.2.1.frozen 4
  have hf5 := HK.out.2.1.frozen 5
  have hf6 := HK.out.2.1.frozen 6
  have hf7 := HK.out.2.1.frozen 7
  have hf8 := HK.out.2.1.frozen 8
  have hf9 := HK.out.2.1.frozen 9
  have hf10 := HK.out.2.1.frozen 10
  rcases HC.out with ⟨a1, h⟩ | ⟨a1, a2, h⟩ | ⟨a1, a2, a3, h⟩ | ⟨a1, a2, a3, a4, h⟩ | ⟨a1, a2, a3, a4, a5, h⟩ | ⟨a1, a2, a3, a4, a5, a6, h⟩ | ⟨a1, a2, a3, a4, a5, a6, h⟩
  · have hb : ((v : Int) != 4) = true := by simp; omega
    have HH := Lib.hid h
    clear a1 h CN CC HRok HC
    go_wp2_with fail
    obtain ⟨w9, hw9⟩ : ∃ w9, w9 = (((((((((((w8).setCell ⟨q, 0, none⟩ (.int .i64 0)).setCell ⟨q, 1, none⟩ (.int .i64 0)).setCell ⟨q, 2, none⟩ (.int .i64 0)).setCell ⟨q, 3, none⟩ (.int .i64 0)).setCell ⟨q, 4, none⟩ (.int .i64 0)).setCell ⟨q, 5, none⟩ (.int .i64 0)).setCell ⟨q, 6, none⟩ (.int .i64 0)).setCell ⟨q, 7, none⟩ (.int .i64 0)).setCell ⟨q, 8, none⟩ (.int .i64 0)).setCell ⟨q, 9, none⟩ (.int .u32 0)).setCell ⟨q, 10, none⟩ (.int .u32 0) := ⟨_, rfl⟩
    have hK9 : Blk w9 q 24 #[.int .i64 0, .int .i64 0, .int .i64 0, .int .i64 0, .int .i64 0, .int .i64 0, .int .i64 0, .int .i64 0, .int .i64 0, .int .u32 0, .int .u32 0] := by rw [hw9]; exact set11_blk HK.out.2.1
    have hB9 : Below w.heap.size w w9 := by
      rw [hw9]
      exact HK.out.2.2.2.trans (set11_below.mono (by rw [HQ.out]; exact Nat.le_refl _))
    rw [← hw9]
    clear hw9
    have hz0 := hK9.cell 0
    have hz1 := hK9.cell 1
    have hz2 := hK9.cell 2
    have hz3 := hK9.cell 3
    have hz4 := hK9.cell 4
    have hz5 := hK9.cell 5
    have hz6 := hK9.cell 6
    have hz7 := hK9.cell 7
    have hz8 := hK9.cell 8
    have hz9 := hK9.cell 9
    have hz10 := hK9.cell 10
    simp only [List.getElem?_toArray, List.getElem?_cons_zero, List.getElem?_cons_succ] at hz0 hz1 hz2 hz3 hz4 hz5 hz6 hz7 hz8 hz9 hz10
    exact bodyPost_ret (v := .tuple #[.agg #[.int .i64 0, .int .i64 0, .int .i64 0, .int .i64 0, .int .i64 0, .int .i64 0, .int .i64 0, .int .i64 0, .int .i64 0, .int .u32 0, .int .u32 0], .slice none 0 0, .int .i64 2]) (by simp [results, Try.results18, go_sem, hz0, hz1, hz2, hz3, hz4, hz5, hz6, hz7, hz8, hz9, hz10]) rfl ⟨HRno.out 2 HH.out (by omega) _, hB9⟩
  · have hb : ((v : Int) != 4) = false := by simp; omega
    have HH := Lib.hid h
    clear a1 h CN CC HRok HC
    go_wp2_with fail
    obtain ⟨w9, hw9⟩ : ∃ w9, w9 = (((((((((((w8).setCell ⟨q, 0, none⟩ (.int .i64 0)).setCell ⟨q, 1, none⟩ (.int .i64 0)).setCell ⟨q, 2, none⟩ (.int .i64 0)).setCell ⟨q, 3, none⟩ (.int .i64 0)).setCell ⟨q, 4, none⟩ (.int .i64 0)).setCell ⟨q, 5, none⟩ (.int .i64 0)).setCell ⟨q, 6, none⟩ (.int .i64 0)).setCell ⟨q, 7, none⟩ (.int .i64 0)).setCell ⟨q, 8, none⟩ (.int .i64 0)).setCell ⟨q, 9, none⟩ (.int .u32 0)).setCell ⟨q, 10, none⟩ (.int .u32 0) := ⟨_, rfl⟩
    have hK9 : Blk w9 q 24 #[.int .i64 0, .int .i64 0, .int .i64 0, .int .i64 0, .int .i64 0, .int .i64 0, .int .i64 0, .int .i64 0, .int .i64 0, .int .u32 0, .int .u32 0] := by rw [hw9]; exact set11_blk HK.out.2.1
    have hB9 : Below w.heap.size w w9 := by
      rw [hw9]
      exact HK.out.2.2.2.trans (set11_below.mono (by rw [HQ.out]; exact Nat.le_refl _))
    rw [← hw9]
    clear hw9
    have hz0 := hK9.cell 0
    have hz1 := hK9.cell 1
    have hz2 := hK9.cell 2
    have hz3 := hK9.cell 3
    have hz4 := hK9.cell 4
    have hz5 := hK9.cell 5
    have hz6 := hK9.cell 6
    have hz7 := hK9.cell 7
    have hz8 := hK9.cell 8
    have hz9 := hK9.cell 9
    have hz10 := hK9.cell 10
    simp only [List.getElem?_toArray, List.getElem?_cons_zero, List.getElem?_cons_succ] at hz0 hz1 hz2 hz3 hz4 hz5 hz6 hz7 hz8 hz9 hz10
    exact bodyPost_ret (v := .tuple #[.agg #[.int .i64 0, .int .i64 0, .int .i64 0, .int .i64 0, .int .i64 0, .int .i64 0, .int .i64 0, .int .i64 0, .int .i64 0, .int .u32 0, .int .u32 0], .slice none 0 0, .int .i64 3]) (by simp [results, Try.results18, go_sem, hz0, hz1, hz2, hz3, hz4, hz5, hz6, hz7, hz8, hz9, hz10]) rfl ⟨HRno.out 3 HH.out (by omega) _, hB9⟩
  · have hb : ((v : Int) != 4) = false := by simp; omega
    have HH := Lib.hid h
    clear a1 h CN CC HRok HC
    go_wp2_with fail
    obtain ⟨w9, hw9⟩ : ∃ w9, w9 = (((((((((((w8).setCell ⟨q, 0, none⟩ (.int .i64 0)).setCell ⟨q, 1, none⟩ (.int .i64 0)).setCell ⟨q, 2, none⟩ (.int .i64 0)).setCell ⟨q, 3, none⟩ (.int .i64 0)).setCell ⟨q, 4, none⟩ (.int .i64 0)).setCell ⟨q, 5, none⟩ (.int .i64 0)).setCell ⟨q, 6, none⟩ (.int .i64 0)).setCell ⟨q, 7, none⟩ (.int .i64 0)).setCell ⟨q, 8, none⟩ (.int .i64 0)).setCell ⟨q, 9, none⟩ (.int .u32 0)).setCell ⟨q, 10, none⟩ (.int .u32 0) := ⟨_, rfl⟩
    have hK9 : Blk w9 q 24 #[.int .i64 0, .int .i64 0, .int .i64 0, .int .i64 0, .int .i64 0, .int .i64 0, .int .i64 0, .int .i64 0, .int .i64 0, .int .u32 0, .int .u32 0] := by rw [hw9]; exact set11_blk HK.out.2.1
    have hB9 : Below w.heap.size w w9 := by
      rw [hw9]
      exact HK.out.2.2.2.trans (set11_below.mono (by rw [HQ.out]; exact Nat.le_refl _))
    rw [← hw9]
    clear hw9
    have hz0 := hK9.cell 0
    have hz1 := hK9.cell 1
    have hz2 := hK9.cell 2
    have hz3 := hK9.cell 3
    have hz4 := hK9.cell 4
    have hz5 := hK9.cell 5
    have hz6 := hK9.cell 6
    have hz7 := hK9.cell 7
    have hz8 := hK9.cell 8
    have hz9 := hK9.cell 9
    have hz10 := hK9.cell 10
    simp only [List.getElem?_toArray, List.getElem?_cons_zero, List.getElem?_cons_succ] at hz0 hz1 hz2 hz3 hz4 hz5 hz6 hz7 hz8 hz9 hz10
    exact bodyPost_ret (v := .tuple #[.agg #[.int .i64 0, .int .i64 0, .int .i64 0, .int .i64 0, .int .i64 0, .int .i64 0, .int .i64 0, .int .i64 0, .int .i64 0, .int .u32 0, .int .u32 0], .slice none 0 0, .int .i64 1]) (by simp [results, Try.results18, go_sem, hz0, hz1, hz2, hz3, hz4, hz5, hz6, hz7, hz8, hz9, hz10]) rfl ⟨HRno.out 1 HH.out (by omega) _, hB9⟩
  · have hb : ((v : Int) != 4) = false := by simp; omega
    have hb2 : ((z : Int) != 0) = true := by simp; omega
    have HH := Lib.hid h
    have HN := Lib.hid (CN.out w8 HK.out.2.2.2 a3)
    clear a4
    clear a1 h CN CC HRok HC
    go_wp2_with fail
    refine HN.out.mono ?_
    rintro e w' ⟨rfl, rfl⟩
    clear HN
    go_wp2_with fail
    obtain ⟨w9, hw9⟩ : ∃ w9, w9 = (((((((((((w8).setCell ⟨q, 0, none⟩ (.int .i64 0)).setCell ⟨q, 1, none⟩ (.int .i64 0)).setCell ⟨q, 2, none⟩ (.int .i64 0)).setCell ⟨q, 3, none⟩ (.int .i64 0)).setCell ⟨q, 4, none⟩ (.int .i64 0)).setCell ⟨q, 5, none⟩ (.int .i64 0)).setCell ⟨q, 6, none⟩ (.int .i64 0)).setCell ⟨q, 7, none⟩ (.int .i64 0)).setCell ⟨q, 8, none⟩ (.int .i64 0)).setCell ⟨q, 9, none⟩ (.int .u32 0)).setCell ⟨q, 10, none⟩ (.int .u32 0) := ⟨_, rfl⟩
    have hK9 : Blk w9 q 24 #[.int .i64 0, .int .i64 0, .int .i64 0, .int .i64 0, .int .i64 0, .int .i64 0, .int .i64 0, .int .i64 0, .int .i64 0, .int .u32 0, .int .u32 0] := by rw [hw9]; exact set11_blk HK.out.2.1
    have hB9 : Below w.heap.size w w9 := by
      rw [hw9]
      exact HK.out.2.2.2.trans (set11_below.mono (by rw [HQ.out]; exact Nat.le_refl _))
    rw [← hw9]
    clear hw9
    have hz0 := hK9.cell 0
    have hz1 := hK9.cell 1
    have hz2 := hK9.cell 2
    have hz3 := hK9.cell 3
    have hz4 := hK9.cell 4
    have hz5 := hK9.cell 5
    have hz6 := hK9.cell 6
    have hz7 := hK9.cell 7
    have hz8 := hK9.cell 8
    have hz9 := hK9.cell 9
    have hz10 := hK9.cell 10
    simp only [List.getElem?_toArray, List.getElem?_cons_zero, List.getElem?_cons_succ] at hz0 hz1 hz2 hz3 hz4 hz5 hz6 hz7 hz8 hz9 hz10
    exact bodyPost_ret (v := .tuple #[.agg #[.int .i64 0, .int .i64 0, .int .i64 0, .int .i64 0, .int .i64 0, .int .i64 0, .int .i64 0, .int .i64 0, .int .i64 0, .int .u32 0, .int .u32 0], .slice none 0 0, .int .i64 4]) (by simp [results, Try.results18, go_sem, hz0, hz1, hz2, hz3, hz4, hz5, hz6, hz7, hz8, hz9, hz10]) rfl ⟨HRno.out 4 HH.out (by omega) _, hB9⟩
  · have hb : ((v : Int) != 4) = false := by simp; omega
    have hb2 : ((z : Int) != 0) = false := by simp; omega
    have HH := Lib.hid h
    have HN := Lib.hid (CN.out w8 HK.out.2.2.2 a3)
    clear a4
    clear a1 h CN CC HRok HC
    go_wp2_with fail
    refine HN.out.mono ?_
    rintro e w' ⟨rfl, rfl⟩
    clear HN
    go_wp2_with fail
    obtain ⟨w9, hw9⟩ : ∃ w9, w9 = (((((((((((w8).setCell ⟨q, 0, none⟩ (.int .i64 0)).setCell ⟨q, 1, none⟩ (.int .i64 0)).setCell ⟨q, 2, none⟩ (.int .i64 0)).setCell ⟨q, 3, none⟩ (.int .i64 0)).setCell ⟨q, 4, none⟩ (.int .i64 0)).setCell ⟨q, 5, none⟩ (.int .i64 0)).setCell ⟨q, 6, none⟩ (.int .i64 0)).setCell ⟨q, 7, none⟩ (.int .i64 0)).setCell ⟨q, 8, none⟩ (.int .i64 0)).setCell ⟨q, 9, none⟩ (.int .u32 0)).setCell ⟨q, 10, none⟩ (.int .u32 0) := ⟨_, rfl⟩
    have hK9 : Blk w9 q 24 #[.int .i64 0, .int .i64 0, .int .i64 0, .int .i64 0, .int .i64 0, .int .i64 0, .int .i64 0, .int .i64 0, .int .i64 0, .int .u32 0, .int .u32 0] := by rw [hw9]; exact set11_blk HK.out.2.1
    have hB9 : Below w.heap.size w w9 := by
      rw [hw9]
      exact HK.out.2.2.2.trans (set11_below.mono (by rw [HQ.out]; exact Nat.le_refl _))
    rw [← hw9]
    clear hw9
    have hz0 := hK9.cell 0
    have hz1 := hK9.cell 1
    have hz2 := hK9.cell 2
    have hz3 := hK9.cell 3
    have hz4 := hK9.cell 4
    have hz5 := hK9.cell 5
    have hz6 := hK9.cell 6
    have hz7 := hK9.cell 7
    have hz8 := hK9.cell 8
    have hz9 := hK9.cell 9
    have hz10 := hK9.cell 10
    simp only [List.getElem?_toArray, List.getElem?_cons_zero, List.getElem?_cons_succ] at hz0 hz1 hz2 hz3 hz4 hz5 hz6 hz7 hz8 hz9 hz10
    exact bodyPost_ret (v := .tuple #[.agg #[.int .i64 0, .int .i64 0, .int .i64 0, .int .i64 0, .int .i64 0, .int .i64 0, .int .i64 0, .int .i64 0, .int .i64 0, .int .u32 0, .int .u32 0], .slice none 0 0, .int .i64 3]) (by simp [results, Try.results18, go_sem, hz0, hz1, hz2, hz3, hz4, hz5, hz6, hz7, hz8, hz9, hz10]) rfl ⟨HRno.out 3 HH.out (by omega) _, hB9⟩
  · have hb : ((v : Int) != 4) = false := by simp; omega
    have hb2 : ((z : Int) != 0) = false := by simp; omega
    have HH := Lib.hid h
    have HN := Lib.hid (CN.out w8 HK.out.2.2.2 a3)
    clear a4
    clear a1 h CN CC HRok HC
    go_wp2_with fail
    refine HN.out.mono ?_
    rintro e w' ⟨rfl, rfl⟩
    clear HN
    go_wp2_with fail
    obtain ⟨w9, hw9⟩ : ∃ w9, w9 = (((((((((((w8).setCell ⟨q, 0, none⟩ (.int .i64 0)).setCell ⟨q, 1, none⟩ (.int .i64 0)).setCell ⟨q, 2, none⟩ (.int .i64 0)).setCell ⟨q, 3, none⟩ (.int .i64 0)).setCell ⟨q, 4, none⟩ (.int .i64 0)).setCell ⟨q, 5, none⟩ (.int .i64 0)).setCell ⟨q, 6, none⟩ (.int .i64 0)).setCell ⟨q, 7, none⟩ (.int .i64 0)).setCell ⟨q, 8, none⟩ (.int .i64 0)).setCell ⟨q, 9, none⟩ (.int .u32 0)).setCell ⟨q, 10, none⟩ (.int .u32 0) := ⟨_, rfl⟩
    have hK9 : Blk w9 q 24 #[.int .i64 0, .int .i64 0, .int .i64 0, .int .i64 0, .int .i64 0, .int .i64 0, .int .i64 0, .int .i64 0, .int .i64 0, .int .u32 0, .int .u32 0] := by rw [hw9]; exact set11_blk HK.out.2.1
    have hB9 : Below w.heap.size w w9 := by
      rw [hw9]
      exact HK.out.2.2.2.trans (set11_below.mono (by rw [HQ.out]; exact Nat.le_refl _))
    rw [← hw9]
    clear hw9
    have hz0 := hK9.cell 0
    have hz1 := hK9.cell 1
    have hz2 := hK9.cell 2
    have hz3 := hK9.cell 3
    have hz4 := hK9.cell 4
    have hz5 := hK9.cell 5
    have hz6 := hK9.cell 6
    have hz7 := hK9.cell 7
    have hz8 := hK9.cell 8
    have hz9 := hK9.cell 9
    have hz10 := hK9.cell 10
    simp only [List.getElem?_toArray, List.getElem?_cons_zero, List.getElem?_cons_succ] at hz0 hz1 hz2 hz3 hz4 hz5 hz6 hz7 hz8 hz9 hz10
    exact bodyPost_ret (v := .tuple #[.agg #[.int .i64 0, .int .i64 0, .int .i64 0, .int .i64 0, .int .i64 0, .int .i64 0, .int .i64 0, .int .i64 0, .int .i64 0, .int .u32 0, .int .u32 0], .slice none 0 0, .int .i64 5]) (by simp [results, Try.results18, go_sem, hz0, hz1, hz2, hz3, hz4, hz5, hz6, hz7, hz8, hz9, hz10]) rfl ⟨HRno.out 5 HH.out (by omega) _, hB9⟩
  · subst a4
    subst a1
    have HH := Lib.hid h
    have HN := Lib.hid (CN.out w8 HK.out.2.2.2 a3)
    have HRD := Lib.hid (CC.out w8.drew HK.out.2.2.2.drew a5 a6)
    clear h CN CC HRno HC he0 he1 he2 he3 he4 he5 he6 he7 he8 he9 he10 hf0 hf1 hf2 hf3 hf4 hf5 hf6 hf7 hf8 hf9 hf10 hc0 hc1 hc2 hc3 hc4 hc5 hc6 hc7 hc8 hc9 hc10
    have a7 : L ≤ c := by omega
    have a8 : 4 * s ≤ c := by omega
    have hqp : ¬ q = q + 2 := by omega
    have hqp' : ¬ q + 2 = q := by omega
    go_wp2_with fail
    refine HN.out.mono ?_
    rintro e w' ⟨rfl, rfl⟩
    clear HN
    go_wp2_with fail
    clear s0 s2
    have hd0 := HK.out.1.drew.cell 0
    have hd1 := HK.out.1.drew.cell 1
    have hd2 := HK.out.1.drew.cell 2
    have hd3 := HK.out.1.drew.cell 3
    have hd4 := HK.out.1.drew.cell 4
    have hd5 := HK.out.1.drew.cell 5
    have hd6 := HK.out.1.drew.cell 6
    have hd7 := HK.out.1.drew.cell 7
    have hd8 := HK.out.1.drew.cell 8
    have hd9 := HK.out.1.drew.cell 9
    have hd10 := HK.out.1.drew.cell 10
    simp only [List.getElem?_toArray, List.getElem?_cons_zero, List.getElem?_cons_succ] at hd0 hd1 hd2 hd3 hd4 hd5 hd6 hd7 hd8 hd9 hd10
    by_cases hcs : c = 4 * s
    · subst hcs
      have hL4 : L - 4 * s = 0 := by omega
      rw [hL4, if_pos rfl] at HRD
      rw [hL4] at HRok
      clear hL4
      have i1 : (0 : Int) ≤ 4 * (s : Int) := by omega
      have i2 : 4 * (s : Int) ≤ (L : Int) := by omega
      have i3 : (L : Int) ≤ ((4 * s : Nat) : Int) := by omega
      have i4 : (4 * (s : Int)).toNat = 4 * s := by omega
      have i5 : ¬ (4 * (s : Int) < 0) := by omega
      have i6 : ¬ ((L : Int) < 4 * (s : Int)) := by omega
      have i7 : (L : Int) ≤ 4 * (s : Int) := by omega
      have i8 : L ≤ 4 * s := by omega
      have i9 : L - 4 * s = 0 := by omega
      have i10 : ¬ (4 * (s : Int) < (L : Int)) := by omega
      go_region_held3 (fun wS => wS.cell? ⟨q + 2, 0, none⟩ = some (.int .i64 (s : Int)) ∧ wS.cell? ⟨q + 2, 1, none⟩ = some (.int .i64 (x1 : Int)) ∧ wS.cell? ⟨q + 2, 2, none⟩ = some (.int .i64 (L : Int)) ∧ wS.cell? ⟨q + 2, 3, none⟩ = some (.int .i64 (x4n : Int)) ∧ wS.cell? ⟨q + 2, 4, none⟩ = some (.int .i64 (Fl : Int)) ∧ wS.cell? ⟨q + 2, 5, none⟩ = some (.int .i64 (O : Int)) ∧ wS.cell? ⟨q + 2, 6, none⟩ = some (.int .i64 (x8 : Int)) ∧ wS.cell? ⟨q + 2, 7, none⟩ = some (.int .i64 (x9 : Int)) ∧ wS.cell? ⟨q + 2, 8, none⟩ = some (.int .i64 (S : Int)) ∧ wS.cell? ⟨q + 2, 9, none⟩ = some (.int .u32 (P : Int)) ∧ wS.cell? ⟨q + 2, 10, none⟩ = some (.int .u32 (Q : Int))) (first | with_reducible exact ⟨hd0, hd1, hd2, hd3, hd4, hd5, hd6, hd7, hd8, hd9, hd10⟩ | with_reducible exact ⟨hk0, hk1, hk2, hk3, hk4, hk5, hk6, hk7, hk8, hk9, hk10⟩ | (simp only [cell_far hqp', hk0, hk1, hk2, hk3, hk4, hk5, hk6, hk7, hk8, hk9, hk10, and_self]))
        (first | (refine step_append_b rfl (.const (.slice none 0 0)) (.tmp 134) _ rfl 5 infoB Try.underlying25 w8.heap.size (.slice none 0 0) 0 [] (by simp [Act.eval, Act.put]) (World.ownsRow_nil _ _ _ _) w8.heap.size (some ⟨b, off, none⟩) 0 0 (bodyP l) (by simp [Act.eval, Act.put]) HRD.out 0 (by omega) (by omega) (Nat.le_refl _) ?_; intro A' c' w4 hown hb4 _ _; have hbh4 := HK.out.1.drew.below hb4 HK.out.1.lt; have hres4 := HK.out.2.1.drew.below hb4 HK.out.2.1.lt; have hk0 := hbh4.cell 0; have hk1 := hbh4.cell 1; have hk2 := hbh4.cell 2; have hk3 := hbh4.cell 3; have hk4 := hbh4.cell 4; have hk5 := hbh4.cell 5; have hk6 := hbh4.cell 6; have hk7 := hbh4.cell 7; have hk8 := hbh4.cell 8; have hk9 := hbh4.cell 9; have hk10 := hbh4.cell 10; simp only [List.getElem?_toArray, List.getElem?_cons_zero, List.getElem?_cons_succ] at hk0 hk1 hk2 hk3 hk4 hk5 hk6 hk7 hk8 hk9 hk10; have he0 := hres4.cell 0; have he1 := hres4.cell 1; have he2 := hres4.cell 2; have he3 := hres4.cell 3; have he4 := hres4.cell 4; have he5 := hres4.cell 5; have he6 := hres4.cell 6; have he7 := hres4.cell 7; have he8 := hres4.cell 8; have he9 := hres4.cell 9; have he10 := hres4.cell 10; simp only [List.getElem?_toArray, List.getElem?_cons_zero, List.getElem?_cons_succ] at he0 he1 he2 he3 he4 he5 he6 he7 he8 he9 he10; have hf0 := hres4.frozen 0; have hf1 := hres4.frozen 1; have hf2 := hres4.frozen 2; have hf3 := hres4.frozen 3; have hf4 := hres4.frozen 4; have hf5 := hres4.frozen 5; have hf6 := hres4.frozen 6; have hf7 := hres4.frozen 7; have hf8 := hres4.frozen 8; have hf9 := hres4.frozen 9; have hf10 := hres4.frozen 10))
      go_wp2_with fail
      rw [List.nil_append] at hown
      obtain ⟨w9, hw9⟩ : ∃ w9, w9 = (((((((((((w4).setCell ⟨q, 0, none⟩ (.int .i64 (s : Int))).setCell ⟨q, 1, none⟩ (.int .i64 (x1 : Int))).setCell ⟨q, 2, none⟩ (.int .i64 (L : Int))).setCell ⟨q, 3, none⟩ (.int .i64 (x4n : Int))).setCell ⟨q, 4, none⟩ (.int .i64 (Fl : Int))).setCell ⟨q, 5, none⟩ (.int .i64 (O : Int))).setCell ⟨q, 6, none⟩ (.int .i64 (x8 : Int))).setCell ⟨q, 7, none⟩ (.int .i64 (x9 : Int))).setCell ⟨q, 8, none⟩ (.int .i64 (S : Int))).setCell ⟨q, 9, none⟩ (.int .u32 (P : Int))).setCell ⟨q, 10, none⟩ (.int .u32 (Q : Int)) := ⟨_, rfl⟩
      have hK9 : Blk w9 q 24 #[.int .i64 (s : Int), .int .i64 (x1 : Int), .int .i64 (L : Int), .int .i64 (x4n : Int), .int .i64 (Fl : Int), .int .i64 (O : Int), .int .i64 (x8 : Int), .int .i64 (x9 : Int), .int .i64 (S : Int), .int .u32 (P : Int), .int .u32 (Q : Int)] := by rw [hw9]; exact set11_blk hres4
      have hown9 : w9.ownsRow w.heap.size 5 1 (.slice A' 0 c') 0 (bv (bodyP l)) := by
        rw [hw9]
        exact set11_own hres4 (by decide) (own_lower hown HK.out.2.2.2.size)
      have hB9 : Below w.heap.size w w9 := by
        rw [hw9]
        exact (HK.out.2.2.2.drew.trans (hb4.mono HK.out.2.2.2.size)).trans (set11_below.mono (by rw [HQ.out]; exact Nat.le_refl _))
      rw [← hw9]
      clear hw9
      have hz0 := hK9.cell 0
      have hz1 := hK9.cell 1
      have hz2 := hK9.cell 2
      have hz3 := hK9.cell 3
      have hz4 := hK9.cell 4
      have hz5 := hK9.cell 5
      have hz6 := hK9.cell 6
      have hz7 := hK9.cell 7
      have hz8 := hK9.cell 8
      have hz9 := hK9.cell 9
      have hz10 := hK9.cell 10
      simp only [List.getElem?_toArray, List.getElem?_cons_zero, List.getElem?_cons_succ] at hz0 hz1 hz2 hz3 hz4 hz5 hz6 hz7 hz8 hz9 hz10
      exact bodyPost_ret (v := .tuple #[.agg #[.int .i64 (s : Int), .int .i64 (x1 : Int), .int .i64 (L : Int), .int .i64 (x4n : Int), .int .i64 (Fl : Int), .int .i64 (O : Int), .int .i64 (x8 : Int), .int .i64 (x9 : Int), .int .i64 (S : Int), .int .u32 (P : Int), .int .u32 (Q : Int)], .slice A' 0 c', .int .i64 0]) (by simp [results, Try.results18, go_sem, hz0, hz1, hz2, hz3, hz4, hz5, hz6, hz7, hz8, hz9, hz10]) rfl ⟨HRok.out HH.out _ _ _ hown9, hB9⟩
    · rw [if_neg hcs] at HRD
      have i1 : (0 : Int) ≤ 4 * (s : Int) := by omega
      have i2 : 4 * (s : Int) ≤ (L : Int) := by omega
      have i3 : (L : Int) ≤ ((c : Nat) : Int) := by omega
      have i4 : (4 * (s : Int)).toNat = 4 * s := by omega
      have i5 : ¬ (4 * (s : Int) < 0) := by omega
      have i6 : ¬ ((L : Int) < 4 * (s : Int)) := by omega
      go_region_held3 (fun wS => wS.cell? ⟨q + 2, 0, none⟩ = some (.int .i64 (s : Int)) ∧ wS.cell? ⟨q + 2, 1, none⟩ = some (.int .i64 (x1 : Int)) ∧ wS.cell? ⟨q + 2, 2, none⟩ = some (.int .i64 (L : Int)) ∧ wS.cell? ⟨q + 2, 3, none⟩ = some (.int .i64 (x4n : Int)) ∧ wS.cell? ⟨q + 2, 4, none⟩ = some (.int .i64 (Fl : Int)) ∧ wS.cell? ⟨q + 2, 5, none⟩ = some (.int .i64 (O : Int)) ∧ wS.cell? ⟨q + 2, 6, none⟩ = some (.int .i64 (x8 : Int)) ∧ wS.cell? ⟨q + 2, 7, none⟩ = some (.int .i64 (x9 : Int)) ∧ wS.cell? ⟨q + 2, 8, none⟩ = some (.int .i64 (S : Int)) ∧ wS.cell? ⟨q + 2, 9, none⟩ = some (.int .u32 (P : Int)) ∧ wS.cell? ⟨q + 2, 10, none⟩ = some (.int .u32 (Q : Int))) (first | with_reducible exact ⟨hd0, hd1, hd2, hd3, hd4, hd5, hd6, hd7, hd8, hd9, hd10⟩ | with_reducible exact ⟨hk0, hk1, hk2, hk3, hk4, hk5, hk6, hk7, hk8, hk9, hk10⟩ | (simp only [cell_far hqp', hk0, hk1, hk2, hk3, hk4, hk5, hk6, hk7, hk8, hk9, hk10, and_self]))
        (first | (refine step_append_b rfl (.const (.slice none 0 0)) (.tmp 134) _ rfl 5 infoB Try.underlying25 w8.heap.size (.slice none 0 0) 0 [] (by simp [Act.eval, Act.put]) (World.ownsRow_nil _ _ _ _) w8.heap.size (some ⟨b, off + 4 * s, none⟩) (L - 4 * s) (c - 4 * s) (bodyP l) (by simp [Act.eval, Act.put]) HRD.out (L - 4 * s) (by omega) (by omega) (Nat.le_refl _) ?_; intro A' c' w4 hown hb4 _ _; have hbh4 := HK.out.1.drew.below hb4 HK.out.1.lt; have hres4 := HK.out.2.1.drew.below hb4 HK.out.2.1.lt; have hk0 := hbh4.cell 0; have hk1 := hbh4.cell 1; have hk2 := hbh4.cell 2; have hk3 := hbh4.cell 3; have hk4 := hbh4.cell 4; have hk5 := hbh4.cell 5; have hk6 := hbh4.cell 6; have hk7 := hbh4.cell 7; have hk8 := hbh4.cell 8; have hk9 := hbh4.cell 9; have hk10 := hbh4.cell 10; simp only [List.getElem?_toArray, List.getElem?_cons_zero, List.getElem?_cons_succ] at hk0 hk1 hk2 hk3 hk4 hk5 hk6 hk7 hk8 hk9 hk10; have he0 := hres4.cell 0; have he1 := hres4.cell 1; have he2 := hres4.cell 2; have he3 := hres4.cell 3; have he4 := hres4.cell 4; have he5 := hres4.cell 5; have he6 := hres4.cell 6; have he7 := hres4.cell 7; have he8 := hres4.cell 8; have he9 := hres4.cell 9; have he10 := hres4.cell 10; simp only [List.getElem?_toArray, List.getElem?_cons_zero, List.getElem?_cons_succ] at he0 he1 he2 he3 he4 he5 he6 he7 he8 he9 he10; have hf0 := hres4.frozen 0; have hf1 := hres4.frozen 1; have hf2 := hres4.frozen 2; have hf3 := hres4.frozen 3; have hf4 := hres4.frozen 4; have hf5 := hres4.frozen 5; have hf6 := hres4.frozen 6; have hf7 := hres4.frozen 7; have hf8 := hres4.frozen 8; have hf9 := hres4.frozen 9; have hf10 := hres4.frozen 10))
      go_wp2_with fail
      rw [List.nil_append] at hown
      obtain ⟨w9, hw9⟩ : ∃ w9, w9 = (((((((((((w4).setCell ⟨q, 0, none⟩ (.int .i64 (s : Int))).setCell ⟨q, 1, none⟩ (.int .i64 (x1 : Int))).setCell ⟨q, 2, none⟩ (.int .i64 (L : Int))).setCell ⟨q, 3, none⟩ (.int .i64 (x4n : Int))).setCell ⟨q, 4, none⟩ (.int .i64 (Fl : Int))).setCell ⟨q, 5, none⟩ (.int .i64 (O : Int))).setCell ⟨q, 6, none⟩ (.int .i64 (x8 : Int))).setCell ⟨q, 7, none⟩ (.int .i64 (x9 : Int))).setCell ⟨q, 8, none⟩ (.int .i64 (S : Int))).setCell ⟨q, 9, none⟩ (.int .u32 (P : Int))).setCell ⟨q, 10, none⟩ (.int .u32 (Q : Int)) := ⟨_, rfl⟩
      have hK9 : Blk w9 q 24 #[.int .i64 (s : Int), .int .i64 (x1 : Int), .int .i64 (L : Int), .int .i64 (x4n : Int), .int .i64 (Fl : Int), .int .i64 (O : Int), .int .i64 (x8 : Int), .int .i64 (x9 : Int), .int .i64 (S : Int), .int .u32 (P : Int), .int .u32 (Q : Int)] := by rw [hw9]; exact set11_blk hres4
      have hown9 : w9.ownsRow w.heap.size 5 1 (.slice A' (L - 4 * s) c') (L - 4 * s) (bv (bodyP l)) := by
        rw [hw9]
        exact set11_own hres4 (by decide) (own_lower hown HK.out.2.2.2.size)
      have hB9 : Below w.heap.size w w9 := by
        rw [hw9]
        exact (HK.out.2.2.2.drew.trans (hb4.mono HK.out.2.2.2.size)).trans (set11_below.mono (by rw [HQ.out]; exact Nat.le_refl _))
      rw [← hw9]
      clear hw9
      have hz0 := hK9.cell 0
      have hz1 := hK9.cell 1
      have hz2 := hK9.cell 2
      have hz3 := hK9.cell 3
      have hz4 := hK9.cell 4
      have hz5 := hK9.cell 5
      have hz6 := hK9.cell 6
      have hz7 := hK9.cell 7
      have hz8 := hK9.cell 8
      have hz9 := hK9.cell 9
      have hz10 := hK9.cell 10
      simp only [List.getElem?_toArray, List.getElem?_cons_zero, List.getElem?_cons_succ] at hz0 hz1 hz2 hz3 hz4 hz5 hz6 hz7 hz8 hz9 hz10
      exact bodyPost_ret (v := .tuple #[.agg #[.int .i64 (s : Int), .int .i64 (x1 : Int), .int .i64 (L : Int), .int .i64 (x4n : Int), .int .i64 (Fl : Int), .int .i64 (O : Int), .int .i64 (x8 : Int), .int .i64 (x9 : Int), .int .i64 (S : Int), .int .u32 (P : Int), .int .u32 (Q : Int)], .slice A' (L - 4 * s) c', .int .i64 0]) (by simp [results, Try.results18, go_sem, hz0, hz1, hz2, hz3, hz4, hz5, hz6, hz7, hz8, hz9, hz10]) rfl ⟨HRok.out HH.out _ _ _ hown9, hB9⟩

theorem refparse_any (A : Option Addr) (n c B : Nat) (l : List Nat) (w : World) (hr : Reads w B 1 A n (bv l)) (hB : B ≤ w.heap.size) (hn : n ≤ 140737488355328) (hnc : n ≤ c) (ha : AllB l) :
    Calls Try.prog 18 #[.slice A n c] w fun e w' => ParseRet l w e w' ∧ Below w.heap.size w w' := by
  by_cases h20 : n < 20
  · exact refparse_short A n c B l w hr h20
  · exact refparse_long A n c B l w hr hB hn hnc (by omega) ha
end Go.Proofs.Ytpgbldpppdmdoaa
