/- The walk of ports.Tuple (wip/genptuple.py). -/
import Derived.Test.YtpgbldpppdmdoaaWithin
namespace Go.Proofs.Ytpgbldpppdmdoaa
set_option linter.unusedVariables false
set_option linter.unusedSimpArgs false
open Go.RowKit

def tuT (l : List Nat) : Tu := if whyT l = 0 then tuP l else tu0
def hdT (l : List Nat) : Hd := if whyT l = 0 then hdP l else hd0
theorem WithinRet.names {l : List Nat} {w w' : World} {e : Ending} (h : WithinRet l w e w') :
    ∃ (t0 t1 : Nat) (t2 t3 t4 y0 y1 y2 y3 y4 y5 y6 y7 y8 : Int) (y9 y10 : Nat) (A : Option Addr) (m c : Nat),
      e = .returned (.tuple #[.agg #[.int .u32 (t0 : Int), .int .u32 (t1 : Int), .int .i64 t2, .int .i64 t3, .int .i64 t4], .agg #[.int .i64 y0, .int .i64 y1, .int .i64 y2, .int .i64 y3, .int .i64 y4, .int .i64 y5, .int .i64 y6, .int .i64 y7, .int .i64 y8, .int .u32 (y9 : Int), .int .u32 (y10 : Int)], .slice A m c, .int .i64 (whyT l : Nat)]) ∧ (tuT l).vals = #[.int .u32 (t0 : Int), .int .u32 (t1 : Int), .int .i64 t2, .int .i64 t3, .int .i64 t4] ∧ (hdT l).vals = #[.int .i64 y0, .int .i64 y1, .int .i64 y2, .int .i64 y3, .int .i64 y4, .int .i64 y5, .int .i64 y6, .int .i64 y7, .int .i64 y8, .int .u32 (y9 : Int), .int .u32 (y10 : Int)] ∧
      (whyT l = 0 → m = lenP l - 4 * ihlP l ∧ w'.ownsRow w.heap.size 5 1 (.slice A m c) m (bv (bodyP l))) := by
  rcases h with ⟨h0, A, c, rfl, ho⟩ | ⟨h0, rfl⟩
  · have hT : tuT l = tuP l := if_pos h0
    have hH : hdT l = hdP l := if_pos h0
    refine ⟨(tuT l).src, (tuT l).dst, (tuT l).proto, (tuT l).sport, (tuT l).dport, (hdT l).ihl, (hdT l).tos, (hdT l).len, (hdT l).id, (hdT l).flags, (hdT l).off, (hdT l).ttl, (hdT l).proto, (hdT l).sum, (hdT l).src, (hdT l).dst, A, lenP l - 4 * ihlP l, c, ?_, rfl, rfl, fun _ => ⟨rfl, ho⟩⟩
    rw [h0, ← hT, ← hH]
    rfl
  · have hT : tuT l = tu0 := if_neg h0
    have hH : hdT l = hd0 := if_neg h0
    refine ⟨(tuT l).src, (tuT l).dst, (tuT l).proto, (tuT l).sport, (tuT l).dport, (hdT l).ihl, (hdT l).tos, (hdT l).len, (hdT l).id, (hdT l).flags, (hdT l).off, (hdT l).ttl, (hdT l).proto, (hdT l).sum, (hdT l).src, (hdT l).dst, none, 0, 0, ?_, rfl, rfl, fun h => absurd h h0⟩
    rw [← hT, ← hH]
    rfl

set_option maxHeartbeats 4000000 in
set_option maxRecDepth 100000 in
theorem ptuple_any (A : Option Addr) (n c B : Nat) (l : List Nat) (w : World) (hr : Reads w B 1 A n (bv l)) (hB0 : B ≤ w.heap.size) (hn : n ≤ 140737488355328) (hnc : n ≤ c) (ha : AllB l) :
    Calls Try.prog 24 #[.slice A n c] w fun e w' => e = .returned (.tuple #[.agg (tuT l).vals, .agg (hdT l).vals, .int .i64 (whyT l : Nat)]) ∧ Below w.heap.size w w' := by
  have CP := Lib.hid (fun w' (hb : Below w.heap.size w w') => within_any A n c w'.heap.size l w' ((hr.below (hb.mono hB0)).more (Nat.le_trans hB0 hb.size)) (Nat.le_refl _) hn hnc ha)
  obtain ⟨r, hrr⟩ : ∃ r, r = whyT l := ⟨_, rfl⟩
  have HRR := Lib.hid hrr
  clear hr hrr
  go_enter Try.func24, Try.ntmps24
  go_wp2_with fail
  have hq2 := (Blk.new w 43 #[.int .u32 0, .int .u32 0, .int .i64 0, .int .i64 0, .int .i64 0]).alloc (.cells #[.int .i64 0, .int .i64 0, .int .i64 0, .int .i64 0, .int .i64 0, .int .i64 0, .int .i64 0, .int .i64 0, .int .i64 0, .int .u32 0, .int .u32 0] 24)
  have hq3 : Blk ((w.alloc (.cells #[.int .u32 0, .int .u32 0, .int .i64 0, .int .i64 0, .int .i64 0] 43)).alloc (.cells #[.int .i64 0, .int .i64 0, .int .i64 0, .int .i64 0, .int .i64 0, .int .i64 0, .int .i64 0, .int .i64 0, .int .i64 0, .int .u32 0, .int .u32 0] 24)) (w.heap.size + 1) 24 #[.int .i64 0, .int .i64 0, .int .i64 0, .int .i64 0, .int .i64 0, .int .i64 0, .int .i64 0, .int .i64 0, .int .i64 0, .int .u32 0, .int .u32 0] := Blk.new_ (by simp)
  have hB := ((Below.refl w.heap.size w).alloc (Nat.le_refl _) (.cells #[.int .u32 0, .int .u32 0, .int .i64 0, .int .i64 0, .int .i64 0] 43)).alloc (by simp) (.cells #[.int .i64 0, .int .i64 0, .int .i64 0, .int .i64 0, .int .i64 0, .int .i64 0, .int .i64 0, .int .i64 0, .int .i64 0, .int .u32 0, .int .u32 0] 24)
  refine (CP.out _ hB).mono ?_
  rintro e w1 ⟨hret, hb1⟩
  obtain ⟨t0, t1, t2, t3, t4, y0, y1, y2, y3, y4, y5, y6, y7, y8, y9, y10, A1, m, c1, rfl, htu, hhd, _⟩ := hret.names
  rw [← HRR.out]
  have HX := Lib.hid (And.intro htu hhd)
  have n2 := hq2.lt
  have n3 := hq3.lt
  have hs1 := hb1.size
  have hq2 := (hq2.below hb1 hq2.lt)
  have hq3 := (hq3.below hb1 hq3.lt)
  have hB := hB.trans (hb1.mono hB.size)
  clear hret hb1 CP htu hhd
  obtain ⟨q, hq⟩ : ∃ q, q = w.heap.size := ⟨_, rfl⟩
  rw [← hq] at hq2 hq3 n2 n3 ⊢
  have HQ := Lib.hid hq
  clear hq
  have hq5 := (Blk.new w1 43 #[.int .u32 (t0 : Int), .int .u32 (t1 : Int), .int .i64 t2, .int .i64 t3, .int .i64 t4]).alloc (.cells #[.int .i64 y0, .int .i64 y1, .int .i64 y2, .int .i64 y3, .int .i64 y4, .int .i64 y5, .int .i64 y6, .int .i64 y7, .int .i64 y8, .int .u32 (y9 : Int), .int .u32 (y10 : Int)] 24)
  have hq6 : Blk ((w1.alloc (.cells #[.int .u32 (t0 : Int), .int .u32 (t1 : Int), .int .i64 t2, .int .i64 t3, .int .i64 t4] 43)).alloc (.cells #[.int .i64 y0, .int .i64 y1, .int .i64 y2, .int .i64 y3, .int .i64 y4, .int .i64 y5, .int .i64 y6, .int .i64 y7, .int .i64 y8, .int .u32 (y9 : Int), .int .u32 (y10 : Int)] 24)) (w1.heap.size + 1) 24 #[.int .i64 y0, .int .i64 y1, .int .i64 y2, .int .i64 y3, .int .i64 y4, .int .i64 y5, .int .i64 y6, .int .i64 y7, .int .i64 y8, .int .u32 (y9 : Int), .int .u32 (y10 : Int)] := Blk.new_ (by simp)
  have hB := (hB.alloc hB.size (.cells #[.int .u32 (t0 : Int), .int .u32 (t1 : Int), .int .i64 t2, .int .i64 t3, .int .i64 t4] 43)).alloc (by have := hB.size; simp; omega) (.cells #[.int .i64 y0, .int .i64 y1, .int .i64 y2, .int .i64 y3, .int .i64 y4, .int .i64 y5, .int .i64 y6, .int .i64 y7, .int .i64 y8, .int .u32 (y9 : Int), .int .u32 (y10 : Int)] 24)
  have hq2 := (hq2.alloc (.cells #[.int .u32 (t0 : Int), .int .u32 (t1 : Int), .int .i64 t2, .int .i64 t3, .int .i64 t4] 43)).alloc (.cells #[.int .i64 y0, .int .i64 y1, .int .i64 y2, .int .i64 y3, .int .i64 y4, .int .i64 y5, .int .i64 y6, .int .i64 y7, .int .i64 y8, .int .u32 (y9 : Int), .int .u32 (y10 : Int)] 24)
  have hq3 := (hq3.alloc (.cells #[.int .u32 (t0 : Int), .int .u32 (t1 : Int), .int .i64 t2, .int .i64 t3, .int .i64 t4] 43)).alloc (.cells #[.int .i64 y0, .int .i64 y1, .int .i64 y2, .int .i64 y3, .int .i64 y4, .int .i64 y5, .int .i64 y6, .int .i64 y7, .int .i64 y8, .int .u32 (y9 : Int), .int .u32 (y10 : Int)] 24)
  go_wp2_with fail
  obtain ⟨w8, hw8⟩ : ∃ w8, w8 = (w1.alloc (.cells #[.int .u32 (t0 : Int), .int .u32 (t1 : Int), .int .i64 t2, .int .i64 t3, .int .i64 t4] 43)).alloc (.cells #[.int .i64 y0, .int .i64 y1, .int .i64 y2, .int .i64 y3, .int .i64 y4, .int .i64 y5, .int .i64 y6, .int .i64 y7, .int .i64 y8, .int .u32 (y9 : Int), .int .u32 (y10 : Int)] 24) := ⟨_, rfl⟩
  rw [← hw8] at hq2 hq3 hq5 hq6 hB ⊢
  clear hw8
  obtain ⟨q5, hq5e⟩ : ∃ q5, q5 = w1.heap.size := ⟨_, rfl⟩
  have m1 : q + 1 < q5 := by rw [hq5e]; omega
  rw [← hq5e] at hq5 hq6 ⊢
  have e1 : ¬ q5 = q := by omega
  have e2 : ¬ q5 = q + 1 := by omega
  have e5 : ¬ q = q5 := by omega
  have e6 : ¬ q + 1 = q5 := by omega
  have e3 : ¬ q5 + 1 = q := by omega
  have e7 : ¬ q = q5 + 1 := by omega
  clear hq5e m1 n2 n3 hs1
  have u0 := hq5.cell 0
  have u1 := hq5.cell 1
  have u2 := hq5.cell 2
  have u3 := hq5.cell 3
  have u4 := hq5.cell 4
  simp only [List.getElem?_toArray, List.getElem?_cons_zero, List.getElem?_cons_succ] at u0 u1 u2 u3 u4
  have v0 := hq6.cell 0
  have v1 := hq6.cell 1
  have v2 := hq6.cell 2
  have v3 := hq6.cell 3
  have v4 := hq6.cell 4
  have v5 := hq6.cell 5
  have v6 := hq6.cell 6
  have v7 := hq6.cell 7
  have v8 := hq6.cell 8
  have v9 := hq6.cell 9
  have v10 := hq6.cell 10
  simp only [List.getElem?_toArray, List.getElem?_cons_zero, List.getElem?_cons_succ] at v0 v1 v2 v3 v4 v5 v6 v7 v8 v9 v10
  have ff0 := hq2.frozen 0
  have ff1 := hq2.frozen 1
  have ff2 := hq2.frozen 2
  have ff3 := hq2.frozen 3
  have ff4 := hq2.frozen 4
  have gg0 := hq3.frozen 0
  have gg1 := hq3.frozen 1
  have gg2 := hq3.frozen 2
  have gg3 := hq3.frozen 3
  have gg4 := hq3.frozen 4
  have gg5 := hq3.frozen 5
  have gg6 := hq3.frozen 6
  have gg7 := hq3.frozen 7
  have gg8 := hq3.frozen 8
  have gg9 := hq3.frozen 9
  have gg10 := hq3.frozen 10
  have fc0 := hq2.cell 0
  have fc1 := hq2.cell 1
  have fc2 := hq2.cell 2
  have fc3 := hq2.cell 3
  have fc4 := hq2.cell 4
  simp only [List.getElem?_toArray, List.getElem?_cons_zero, List.getElem?_cons_succ] at fc0 fc1 fc2 fc3 fc4
  have gc0 := hq3.cell 0
  have gc1 := hq3.cell 1
  have gc2 := hq3.cell 2
  have gc3 := hq3.cell 3
  have gc4 := hq3.cell 4
  have gc5 := hq3.cell 5
  have gc6 := hq3.cell 6
  have gc7 := hq3.cell 7
  have gc8 := hq3.cell 8
  have gc9 := hq3.cell 9
  have gc10 := hq3.cell 10
  simp only [List.getElem?_toArray, List.getElem?_cons_zero, List.getElem?_cons_succ] at gc0 gc1 gc2 gc3 gc4 gc5 gc6 gc7 gc8 gc9 gc10
  go_region
  go_wp2_with fail
  obtain ⟨wz, hwz⟩ : ∃ wz, wz = (((((((((((((((((w8).setCell ⟨q, 0, none⟩ (.int .u32 (t0 : Int))).setCell ⟨q, 1, none⟩ (.int .u32 (t1 : Int))).setCell ⟨q, 2, none⟩ (.int .i64 t2)).setCell ⟨q, 3, none⟩ (.int .i64 t3)).setCell ⟨q, 4, none⟩ (.int .i64 t4)).setCell ⟨q + 1, 0, none⟩ (.int .i64 y0)).setCell ⟨q + 1, 1, none⟩ (.int .i64 y1)).setCell ⟨q + 1, 2, none⟩ (.int .i64 y2)).setCell ⟨q + 1, 3, none⟩ (.int .i64 y3)).setCell ⟨q + 1, 4, none⟩ (.int .i64 y4)).setCell ⟨q + 1, 5, none⟩ (.int .i64 y5)).setCell ⟨q + 1, 6, none⟩ (.int .i64 y6)).setCell ⟨q + 1, 7, none⟩ (.int .i64 y7)).setCell ⟨q + 1, 8, none⟩ (.int .i64 y8)).setCell ⟨q + 1, 9, none⟩ (.int .u32 (y9 : Int))).setCell ⟨q + 1, 10, none⟩ (.int .u32 (y10 : Int))).drew := ⟨_, rfl⟩
  have hz2 : Blk wz q 43 #[.int .u32 (t0 : Int), .int .u32 (t1 : Int), .int .i64 t2, .int .i64 t3, .int .i64 t4] := by
    rw [hwz]
    have hset := ((((((((((((((((hq2).set_ 0 (.int .u32 (t0 : Int))).set_ 1 (.int .u32 (t1 : Int))).set_ 2 (.int .i64 t2)).set_ 3 (.int .i64 t3)).set_ 4 (.int .i64 t4)).far (p := ⟨q + 1, 0, none⟩) (by show q ≠ q + 1; omega) (.int .i64 y0)).far (p := ⟨q + 1, 1, none⟩) (by show q ≠ q + 1; omega) (.int .i64 y1)).far (p := ⟨q + 1, 2, none⟩) (by show q ≠ q + 1; omega) (.int .i64 y2)).far (p := ⟨q + 1, 3, none⟩) (by show q ≠ q + 1; omega) (.int .i64 y3)).far (p := ⟨q + 1, 4, none⟩) (by show q ≠ q + 1; omega) (.int .i64 y4)).far (p := ⟨q + 1, 5, none⟩) (by show q ≠ q + 1; omega) (.int .i64 y5)).far (p := ⟨q + 1, 6, none⟩) (by show q ≠ q + 1; omega) (.int .i64 y6)).far (p := ⟨q + 1, 7, none⟩) (by show q ≠ q + 1; omega) (.int .i64 y7)).far (p := ⟨q + 1, 8, none⟩) (by show q ≠ q + 1; omega) (.int .i64 y8)).far (p := ⟨q + 1, 9, none⟩) (by show q ≠ q + 1; omega) (.int .u32 (y9 : Int))).far (p := ⟨q + 1, 10, none⟩) (by show q ≠ q + 1; omega) (.int .u32 (y10 : Int))
    simp only [List.setIfInBounds_toArray, List.set_cons_zero, List.set_cons_succ] at hset
    exact hset.drew
  have hz3 : Blk wz (q + 1) 24 #[.int .i64 y0, .int .i64 y1, .int .i64 y2, .int .i64 y3, .int .i64 y4, .int .i64 y5, .int .i64 y6, .int .i64 y7, .int .i64 y8, .int .u32 (y9 : Int), .int .u32 (y10 : Int)] := by
    rw [hwz]
    have hset := ((((((((((((((((hq3).far (p := ⟨q, 0, none⟩) (by show q + 1 ≠ q; omega) (.int .u32 (t0 : Int))).far (p := ⟨q, 1, none⟩) (by show q + 1 ≠ q; omega) (.int .u32 (t1 : Int))).far (p := ⟨q, 2, none⟩) (by show q + 1 ≠ q; omega) (.int .i64 t2)).far (p := ⟨q, 3, none⟩) (by show q + 1 ≠ q; omega) (.int .i64 t3)).far (p := ⟨q, 4, none⟩) (by show q + 1 ≠ q; omega) (.int .i64 t4)).set_ 0 (.int .i64 y0)).set_ 1 (.int .i64 y1)).set_ 2 (.int .i64 y2)).set_ 3 (.int .i64 y3)).set_ 4 (.int .i64 y4)).set_ 5 (.int .i64 y5)).set_ 6 (.int .i64 y6)).set_ 7 (.int .i64 y7)).set_ 8 (.int .i64 y8)).set_ 9 (.int .u32 (y9 : Int))).set_ 10 (.int .u32 (y10 : Int))
    simp only [List.setIfInBounds_toArray, List.set_cons_zero, List.set_cons_succ] at hset
    exact hset.drew
  have hBz : Below w.heap.size w wz := by
    rw [hwz]
    exact (((((((((((((((((hB).setCell (p := ⟨q, 0, none⟩) (by rw [HQ.out]; exact Nat.le_refl _) _).setCell (p := ⟨q, 1, none⟩) (by rw [HQ.out]; exact Nat.le_refl _) _).setCell (p := ⟨q, 2, none⟩) (by rw [HQ.out]; exact Nat.le_refl _) _).setCell (p := ⟨q, 3, none⟩) (by rw [HQ.out]; exact Nat.le_refl _) _).setCell (p := ⟨q, 4, none⟩) (by rw [HQ.out]; exact Nat.le_refl _) _).setCell (p := ⟨q + 1, 0, none⟩) (by rw [HQ.out]; exact Nat.le_succ _) _).setCell (p := ⟨q + 1, 1, none⟩) (by rw [HQ.out]; exact Nat.le_succ _) _).setCell (p := ⟨q + 1, 2, none⟩) (by rw [HQ.out]; exact Nat.le_succ _) _).setCell (p := ⟨q + 1, 3, none⟩) (by rw [HQ.out]; exact Nat.le_succ _) _).setCell (p := ⟨q + 1, 4, none⟩) (by rw [HQ.out]; exact Nat.le_succ _) _).setCell (p := ⟨q + 1, 5, none⟩) (by rw [HQ.out]; exact Nat.le_succ _) _).setCell (p := ⟨q + 1, 6, none⟩) (by rw [HQ.out]; exact Nat.le_succ _) _).setCell (p := ⟨q + 1, 7, none⟩) (by rw [HQ.out]; exact Nat.le_succ _) _).setCell (p := ⟨q + 1, 8, none⟩) (by rw [HQ.out]; exact Nat.le_succ _) _).setCell (p := ⟨q + 1, 9, none⟩) (by rw [HQ.out]; exact Nat.le_succ _) _).setCell (p := ⟨q + 1, 10, none⟩) (by rw [HQ.out]; exact Nat.le_succ _) _).drew
  rw [← hwz]
  clear hwz
  have ra0 := hz2.cell 0
  have ra1 := hz2.cell 1
  have ra2 := hz2.cell 2
  have ra3 := hz2.cell 3
  have ra4 := hz2.cell 4
  simp only [List.getElem?_toArray, List.getElem?_cons_zero, List.getElem?_cons_succ] at ra0 ra1 ra2 ra3 ra4
  have rb0 := hz3.cell 0
  have rb1 := hz3.cell 1
  have rb2 := hz3.cell 2
  have rb3 := hz3.cell 3
  have rb4 := hz3.cell 4
  have rb5 := hz3.cell 5
  have rb6 := hz3.cell 6
  have rb7 := hz3.cell 7
  have rb8 := hz3.cell 8
  have rb9 := hz3.cell 9
  have rb10 := hz3.cell 10
  simp only [List.getElem?_toArray, List.getElem?_cons_zero, List.getElem?_cons_succ] at rb0 rb1 rb2 rb3 rb4 rb5 rb6 rb7 rb8 rb9 rb10
  exact bodyPost_ret (v := .tuple #[.agg #[.int .u32 (t0 : Int), .int .u32 (t1 : Int), .int .i64 t2, .int .i64 t3, .int .i64 t4], .agg #[.int .i64 y0, .int .i64 y1, .int .i64 y2, .int .i64 y3, .int .i64 y4, .int .i64 y5, .int .i64 y6, .int .i64 y7, .int .i64 y8, .int .u32 (y9 : Int), .int .u32 (y10 : Int)], .int .i64 (r : Int)]) (by simp [results, Try.results24, go_sem, ra0, ra1, ra2, ra3, ra4, rb0, rb1, rb2, rb3, rb4, rb5, rb6, rb7, rb8, rb9, rb10]) rfl ⟨by rw [HX.out.1, HX.out.2, ← HRR.out], hBz⟩
end Go.Proofs.Ytpgbldpppdmdoaa
