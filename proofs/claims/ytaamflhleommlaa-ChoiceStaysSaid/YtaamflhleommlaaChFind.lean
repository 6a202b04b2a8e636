/- The walks of (*choice.Chooser).Find, of Table and Made at nil, of goitlaw19.gone. -/
import Derived.Test.YtaamflhleommlaaChSet
import Derived.Test.YtaamflhleommlaaGFind
namespace Go.Proofs.Ytaamflhleommlaa
set_option linter.unusedVariables false
set_option linter.unusedSimpArgs false
open Go.RowKit

set_option maxHeartbeats 4000000 in
theorem chfind_nil (id : Int) (w : World) :
    Calls Try.prog 26 #[.pointer none, .int .i64 id] w fun e w' => e = .returned (.tuple #[.agg #[.int .i64 0, .int .u32 0, .int .i64 0], .bool false]) ∧ Below w.heap.size w w' := by
  have hq0 := Blk.new w 27 #[.int .i64 0, .int .u32 0, .int .i64 0]
  have hb0 := (Below.refl w.heap.size w).alloc (Nat.le_refl _) (.cells #[.int .i64 0, .int .u32 0, .int .i64 0] 27)
  have f0 := hq0.frozen 0
  have f1 := hq0.frozen 1
  have f2 := hq0.frozen 2
  have d0 := hq0.cell 0
  have d1 := hq0.cell 1
  have d2 := hq0.cell 2
  simp only [List.getElem?_toArray, List.getElem?_cons_zero, List.getElem?_cons_succ] at d0 d1 d2
  have HB := Lib.hid hb0
  clear hq0 hb0
  go_enter Try.func26, Try.ntmps26
  go_wp2_with fail
  exact bodyPost_ret (v := .tuple #[.agg #[.int .i64 0, .int .u32 0, .int .i64 0], .bool false]) (by simp [results, Try.results26, go_sem, d0, d1, d2]) rfl ⟨rfl, HB.out⟩

set_option maxHeartbeats 4000000 in
theorem chpick_nil (k : Tu) (w : World) :
    Calls Try.prog 23 #[.pointer none, .agg k.vals] w fun e w' => e = .returned (.tuple #[.agg #[.int .i64 0, .int .u32 0, .int .i64 0], .bool false]) ∧ Below w.heap.size w w' := by
  obtain ⟨src, dst, proto, sport, dport⟩ := k
  dsimp only [Tu.vals]
  have hq0 := Blk.new (w.alloc (.cells #[.int .u32 (src : Int), .int .u32 (dst : Int), .int .i64 proto, .int .i64 sport, .int .i64 dport] 54)) 27 #[.int .i64 0, .int .u32 0, .int .i64 0]
  have hb0 := ((Below.refl w.heap.size w).alloc (Nat.le_refl _) (.cells #[.int .u32 (src : Int), .int .u32 (dst : Int), .int .i64 proto, .int .i64 sport, .int .i64 dport] 54)).alloc (by simp) (.cells #[.int .i64 0, .int .u32 0, .int .i64 0] 27)
  have hs0 : (w.alloc (.cells #[.int .u32 (src : Int), .int .u32 (dst : Int), .int .i64 proto, .int .i64 sport, .int .i64 dport] 54)).heap.size = w.heap.size + 1 := by simp
  rw [hs0] at hq0
  have f0 := hq0.frozen 0
  have f1 := hq0.frozen 1
  have f2 := hq0.frozen 2
  have d0 := hq0.cell 0
  have d1 := hq0.cell 1
  have d2 := hq0.cell 2
  simp only [List.getElem?_toArray, List.getElem?_cons_zero, List.getElem?_cons_succ] at d0 d1 d2
  have HB := Lib.hid hb0
  clear hq0 hb0 hs0
  go_enter Try.func23, Try.ntmps23
  go_wp2_with fail
  exact bodyPost_ret (v := .tuple #[.agg #[.int .i64 0, .int .u32 0, .int .i64 0], .bool false]) (by simp [results, Try.results23, go_sem, d0, d1, d2]) rfl ⟨rfl, HB.out⟩

theorem chtable_nil (w : World) : Calls Try.prog 27 #[.pointer none] w fun e w' => e = .returned (.slice none 0 0) ∧ w = w' := by
  go_enter Try.func27, Try.ntmps27
  go_wp2_with fail
  go_ret
  exact ⟨rfl, rfl⟩

theorem chmade_nil (w : World) : Calls Try.prog 28 #[.pointer none] w fun e w' => e = .returned (.int .i64 0) ∧ w = w' := by
  go_enter Try.func28, Try.ntmps28
  go_wp2_with fail
  go_ret
  exact ⟨rfl, rfl⟩

theorem gone_any (A : Option Addr) (n c : Nat) (w : World) : Calls Try.prog 21 #[.slice A n c] w fun e w' => e = .returned (.func (.func 39) #[] #[.pointer (some ⟨w.heap.size, 0, none⟩)]) ∧ w' = w.alloc (.cells #[.slice A n c] 22) := by
  go_enter Try.func21, Try.ntmps21
  go_wp2_with fail
  go_ret
  exact ⟨rfl, rfl⟩

theorem own_big {w : World} {p slots : Nat} {l : List Be} {t : List Int} {made : Int} {A : Option Addr} {n c : Nat} {A2 : Option Addr} {c2 : Nat} (h : ChAt w p slots l t made A n c A2 c2) : Reads w w.heap.size 3 A n (bks l) := Reads.of_own h.bes

set_option maxHeartbeats 4000000 in
set_option maxRecDepth 100000 in
theorem chfind_yes (p slots : Nat) (l : List Be) (t : List Int) (made : Int) (id : Int) (w : World) (hch : Ch w p slots l t made) :
    Calls Try.prog 26 #[.pointer (some ⟨p, 0, none⟩), .int .i64 id] w fun e w' => e = .returned (.tuple #[.agg (findBe l id).1.cells.toArray, .bool (findBe l id).2]) ∧ Below w.heap.size w w' := by
  obtain ⟨A, n, c, A2, c2, h1, h2, h3, h4⟩ := hch
  have hr := Reads.of_own h2
  have hq0 := Blk.new w 27 #[.int .i64 0, .int .u32 0, .int .i64 0]
  have hb0 := (Below.refl w.heap.size w).alloc (Nat.le_refl _) (.cells #[.int .i64 0, .int .u32 0, .int .i64 0] 27)
  have CF := Lib.hid (gfind_any A n c _ l id _ (hr.below hb0) hb0.size (by omega))
  have hp0 := h1.below hb0 h1.lt
  have g1 := hp0.cell 1
  simp only [List.getElem?_toArray, List.getElem?_cons_zero, List.getElem?_cons_succ] at g1
  obtain ⟨⟨⟨x, ad, wt⟩, ok⟩, hf⟩ : ∃ r, findBe l id = r := ⟨_, rfl⟩
  rw [hf] at CF
  rw [hf]
  dsimp only [Be.cells] at CF ⊢
  have HB := Lib.hid (And.intro hq0 hb0)
  clear hq0 hb0 h1 h2 h3 h4 hr hp0 hf
  go_enter Try.func26, Try.ntmps26
  go_wp2_with fail
  refine CF.out.mono ?_
  rintro e w1 ⟨rfl, hb1⟩
  have hq1 := HB.out.1.below hb1 HB.out.1.lt
  have hB1 := HB.out.2.trans (hb1.mono HB.out.2.size)
  have f0 := hq1.frozen 0
  have f1 := hq1.frozen 1
  have f2 := hq1.frozen 2
  have d0 := hq1.cell 0
  have d1 := hq1.cell 1
  have d2 := hq1.cell 2
  simp only [List.getElem?_toArray, List.getElem?_cons_zero, List.getElem?_cons_succ] at d0 d1 d2
  obtain ⟨q, hq⟩ : ∃ q, q = w.heap.size := ⟨_, rfl⟩
  rw [← hq] at hq1 f0 f1 f2 d0 d1 d2 ⊢
  have HX := Lib.hid (And.intro hq (And.intro hq1 hB1))
  clear hq hq1 hB1 g1 hb1 HB
  go_wp2_with fail
  obtain ⟨w9, hw9⟩ : ∃ w9, w9 = ((w1.setCell ⟨q, 0, none⟩ (.int .i64 x)).setCell ⟨q, 1, none⟩ (.int .u32 (ad : Int))).setCell ⟨q, 2, none⟩ (.int .i64 wt) := ⟨_, rfl⟩
  have hz : Blk w9 q 27 #[.int .i64 x, .int .u32 (ad : Int), .int .i64 wt] := by
    rw [hw9]
    exact ((HX.out.2.1.set_ 0 (.int .i64 x)).set_ 1 (.int .u32 (ad : Int))).set_ 2 (.int .i64 wt)
  have hB9 : Below w.heap.size w w9 := by
    rw [hw9]
    have hle : w.heap.size ≤ q := Nat.le_of_eq HX.out.1.symm
    exact ((HX.out.2.2.setCell (p := ⟨q, 0, none⟩) hle _).setCell (p := ⟨q, 1, none⟩) hle _).setCell (p := ⟨q, 2, none⟩) hle _
  rw [← hw9]
  clear hw9 d0 d1 d2 f0 f1 f2
  have r0 := hz.cell 0
  have r1 := hz.cell 1
  have r2 := hz.cell 2
  simp only [List.getElem?_toArray, List.getElem?_cons_zero, List.getElem?_cons_succ] at r0 r1 r2
  rw [← HX.out.1]
  exact bodyPost_ret (v := .tuple #[.agg #[.int .i64 x, .int .u32 (ad : Int), .int .i64 wt], .bool ok]) (by simp [results, Try.results26, go_sem, r0, r1, r2]) rfl ⟨rfl, by rw [HX.out.1]; exact hB9⟩
end Go.Proofs.Ytaamflhleommlaa
