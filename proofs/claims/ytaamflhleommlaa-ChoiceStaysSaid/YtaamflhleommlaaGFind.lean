/- The walk of gens.Find. -/
import Derived.Test.YtaamflhleommlaaIdxB
namespace Go.Proofs.Ytaamflhleommlaa
set_option linter.unusedVariables false
set_option linter.unusedSimpArgs false
open Go.RowKit Go.Shelf

theorem idx_find (l : List Be) (id : Int) : (idxBe (fun b => b.id == id) l = -1 ∧ findBe l id = (⟨0, 0, 0⟩, false)) ∨ ∃ k, ∃ h : k < l.length, idxBe (fun b => b.id == id) l = (k : Int) ∧ findBe l id = (l[k], true) := by
  by_cases h : ∃ k, ∃ hk : k < l.length, l[k].id = id ∧ ∀ j (hj : j < l.length), j < k → l[j].id ≠ id
  · obtain ⟨k, hk, h1, h2⟩ := h
    exact Or.inr ⟨k, hk, idxBe_yes hk (by simp [h1]) (fun j hj hjk => by simp [h2 j hj hjk]), findBe_yes hk h1 h2⟩
  · have hall : ∀ k (hk : k < l.length), l[k].id ≠ id := by
      intro k
      induction k using Nat.strongRecOn with
      | _ k ih =>
        intro hk e
        exact h ⟨k, hk, e, fun j hj hjk => ih j hjk hj⟩
    exact Or.inl ⟨idxBe_no (fun j hj => by simp [hall j hj]), findBe_no hall⟩

set_option maxHeartbeats 4000000 in
theorem find1_any (q : Nat) (id : Int) (x : Be) (w : World) (hq : w.cell? ⟨q, 0, none⟩ = some (.int .i64 id)) :
    Calls Try.prog 51 #[.agg #[.int .i64 x.id, .int .u32 (x.addr : Int), .int .i64 x.weight], .pointer (some ⟨q, 0, none⟩)] w fun e w' => e = .returned (.bool (x.id == id)) ∧ Below w.heap.size w w' := by
  have hlt := World.block_lt_of_cell? w _ hq
  have hq2 : (w.alloc (.cells #[.int .i64 x.id, .int .u32 (x.addr : Int), .int .i64 x.weight] 27)).cell? ⟨q, 0, none⟩ = some (.int .i64 id) := by
    rw [World.cell?_alloc_lt _ _ _ hlt]; exact hq
  obtain ⟨xi, xa, xw⟩ := x
  dsimp only at hq2 ⊢
  go_enter Try.func51, Try.ntmps51
  go_wp2_with fail
  go_ret
  exact ⟨rfl, (Below.refl _ _).alloc (Nat.le_refl _) _⟩
set_option maxHeartbeats 4000000 in
set_option maxRecDepth 100000 in
theorem gfind_any (A : Option Addr) (n c B : Nat) (l : List Be) (id : Int) (w : World) (hr : Reads w B 3 A n (bks l)) (hB : B ≤ w.heap.size) (hn : n ≤ 46912496118442) :
    Calls Try.prog 42 #[.slice A n c, .int .i64 id] w fun e w' => e = .returned (.tuple #[.agg (findBe l id).1.cells.toArray, .bool (findBe l id).2]) ∧ Below w.heap.size w w' := by
  have hlen := hr.be_length
  have eg : ∀ args w, (callFunc 51 args).run Try.prog w = .ok (.enter 51 args) w := enters_of Try.func51 (by kernel_rfl) rfl
  have hk0 := (Blk.new w 3 #[.int .i64 id]).alloc (.cells #[.int .i64 0, .int .u32 0, .int .i64 0] 27)
  have hq0 : Blk ((w.alloc (.cells #[.int .i64 id] 3)).alloc (.cells #[.int .i64 0, .int .u32 0, .int .i64 0] 27)) (w.heap.size + 1) 27 #[.int .i64 0, .int .u32 0, .int .i64 0] := Blk.new_ (by simp)
  have hB0 := ((Below.refl w.heap.size w).alloc (Nat.le_refl _) (.cells #[.int .i64 id] 3)).alloc (by simp) (.cells #[.int .i64 0, .int .u32 0, .int .i64 0] 27)
  have CI := Lib.hid (idx_any 51 #[.pointer (some ⟨w.heap.size, 0, none⟩)] (fun b => b.id == id) eg A n c B l _ (hr.below (hB0.mono hB)) (Nat.le_trans hB hB0.size) hn
    (fun W x hb => (find1_any w.heap.size id x W (by
      have h1 := (hk0.below hb hk0.lt).cell 0
      simpa using h1)).mono fun e w' ⟨he, hw⟩ => ⟨he, hb.trans (hw.mono hb.size)⟩))
  clear eg
  go_enter Try.func42, Try.ntmps42
  go_wp2_with fail
  refine CI.out.mono ?_
  rintro e w1 ⟨rfl, hb1⟩
  have hB1 := hB0.trans (hb1.mono hB0.size)
  have hq1 := hq0.below hb1 hq0.lt
  obtain ⟨q, hqe⟩ : ∃ q, q = w.heap.size := ⟨_, rfl⟩
  rw [← hqe] at hq1 ⊢
  have HQ := Lib.hid hqe
  have HB1 := Lib.hid hB1
  have HQ1 := Lib.hid hq1
  have f0 := hq1.frozen 0
  have f1 := hq1.frozen 1
  have f2 := hq1.frozen 2
  have d0 := hq1.cell 0
  have d1 := hq1.cell 1
  have d2 := hq1.cell 2
  simp only [List.getElem?_toArray, List.getElem?_cons_zero, List.getElem?_cons_succ] at d0 d1 d2
  rcases idx_find l id with ⟨h1, h2⟩ | ⟨k, hk, h1, h2⟩
  · rw [h1]
    have HR := Lib.hid h2
    clear h1 h2 hqe hq1 hB1 hb1 hq0 hB0 hk0 CI
    go_wp2_with fail
    obtain ⟨w9, hw9⟩ : ∃ w9, w9 = ((w1.setCell ⟨q + 1, 0, none⟩ (.int .i64 0)).setCell ⟨q + 1, 1, none⟩ (.int .u32 0)).setCell ⟨q + 1, 2, none⟩ (.int .i64 0) := ⟨_, rfl⟩
    have hz : Blk w9 (q + 1) 27 #[.int .i64 0, .int .u32 0, .int .i64 0] := by
      rw [hw9]
      exact ((HQ1.out.set_ 0 (.int .i64 0)).set_ 1 (.int .u32 0)).set_ 2 (.int .i64 0)
    have hB9 : Below w.heap.size w w9 := by
      rw [hw9]
      have hle : w.heap.size ≤ q + 1 := by rw [HQ.out]; exact Nat.le_succ _
      exact ((HB1.out.setCell (p := ⟨q + 1, 0, none⟩) hle _).setCell (p := ⟨q + 1, 1, none⟩) hle _).setCell (p := ⟨q + 1, 2, none⟩) hle _
    rw [← hw9]
    clear hw9 d0 d1 d2 f0 f1 f2
    have r0 := hz.cell 0
    have r1 := hz.cell 1
    have r2 := hz.cell 2
    simp only [List.getElem?_toArray, List.getElem?_cons_zero, List.getElem?_cons_succ] at r0 r1 r2
    exact bodyPost_ret (v := .tuple #[.agg #[.int .i64 0, .int .u32 0, .int .i64 0], .bool false]) (by simp [results, Try.results42, go_sem, r0, r1, r2]) rfl ⟨by rw [HR.out]; rfl, hB9⟩
  · obtain ⟨b, off, hl, rfl, hc0, hc1, hc2⟩ := (hr.below (hB1.mono hB)).be (j := k) (by omega)
    rw [h1]
    have hkn : (k : Int) < (n : Int) := by omega
    have HR : Hid (findBe l id = (⟨l[k].id, l[k].addr, l[k].weight⟩, true)) := h2
    clear h2
    generalize l[k].id = x at *
    generalize l[k].weight = wt at *
    generalize l[k].addr = ad at *
    clear h1 hqe hq1 hB1 hb1 hq0 hB0 hk0 CI
    go_wp2_with fail
    obtain ⟨w9, hw9⟩ : ∃ w9, w9 = ((w1.setCell ⟨q + 1, 0, none⟩ (.int .i64 x)).setCell ⟨q + 1, 1, none⟩ (.int .u32 (ad : Int))).setCell ⟨q + 1, 2, none⟩ (.int .i64 wt) := ⟨_, rfl⟩
    have hz : Blk w9 (q + 1) 27 #[.int .i64 x, .int .u32 (ad : Int), .int .i64 wt] := by
      rw [hw9]
      exact ((HQ1.out.set_ 0 (.int .i64 x)).set_ 1 (.int .u32 (ad : Int))).set_ 2 (.int .i64 wt)
    have hB9 : Below w.heap.size w w9 := by
      rw [hw9]
      have hle : w.heap.size ≤ q + 1 := by rw [HQ.out]; exact Nat.le_succ _
      exact ((HB1.out.setCell (p := ⟨q + 1, 0, none⟩) hle _).setCell (p := ⟨q + 1, 1, none⟩) hle _).setCell (p := ⟨q + 1, 2, none⟩) hle _
    rw [← hw9]
    clear hw9 d0 d1 d2 f0 f1 f2
    have r0 := hz.cell 0
    have r1 := hz.cell 1
    have r2 := hz.cell 2
    simp only [List.getElem?_toArray, List.getElem?_cons_zero, List.getElem?_cons_succ] at r0 r1 r2
    exact bodyPost_ret (v := .tuple #[.agg #[.int .i64 x, .int .u32 (ad : Int), .int .i64 wt], .bool true]) (by simp [results, Try.results42, go_sem, r0, r1, r2]) rfl ⟨by rw [HR.out]; rfl, hB9⟩
end Go.Proofs.Ytaamflhleommlaa
