/- The walk of ref10.FindBackend. -/
import Derived.Test.YtaamflhleommlaaOpenBes
import Derived.Deep.Cut
namespace Go.Proofs.Ytaamflhleommlaa
set_option linter.unusedVariables false
set_option linter.unusedSimpArgs false
open Go.RowKit

def findBe (l : List Be) (id : Int) : Be × Bool :=
  match l.find? (fun b => b.id == id) with
  | some b => (b, true)
  | none => (⟨0, 0, 0⟩, false)
theorem findBe_yes {l : List Be} {id : Int} {k : Nat} (hk : k < l.length) (h : l[k].id = id) (hall : ∀ j (hj : j < l.length), j < k → l[j].id ≠ id) : findBe l id = (l[k], true) := by
  have : l.find? (fun b => b.id == id) = some l[k] := by
    rw [List.find?_eq_some_iff_getElem]
    refine ⟨by simp [h], k, hk, rfl, fun j hj => ?_⟩
    simp [hall j (by omega) hj]
  unfold findBe
  rw [this]
theorem findBe_no {l : List Be} {id : Int} (hall : ∀ j (hj : j < l.length), l[j].id ≠ id) : findBe l id = (⟨0, 0, 0⟩, false) := by
  have : l.find? (fun b => b.id == id) = none := by
    rw [List.find?_eq_none]
    intro b hb
    obtain ⟨j, hj, rfl⟩ := List.getElem_of_mem hb
    simp [hall j hj]
  unfold findBe
  rw [this]

set_option maxHeartbeats 4000000 in
set_option maxRecDepth 100000 in
theorem findb_any (A : Option Addr) (n c B : Nat) (l : List Be) (id : Int) (w : World) (hr : Reads w B 3 A n (bks l)) (hB : B ≤ w.heap.size) (hn : n ≤ 46912496118442) :
    Calls Try.prog 25 #[.slice A n c, .int .i64 id] w fun e w' => e = .returned (.tuple #[.agg (findBe l id).1.cells.toArray, .bool (findBe l id).2]) ∧ Below w.heap.size w w' := by
  have hlen := hr.be_length
  have hq0 := Blk.new w 27 #[.int .i64 0, .int .u32 0, .int .i64 0]
  have hB0 := (Below.refl w.heap.size w).alloc (Nat.le_refl _) (.cells #[.int .i64 0, .int .u32 0, .int .i64 0] 27)
  go_enter Try.func25, Try.ntmps25
  go_wp2_with fail
  obtain ⟨q, hqe⟩ : ∃ q, q = w.heap.size := ⟨_, rfl⟩
  rw [← hqe] at hq0 ⊢
  have HQ := Lib.hid hqe
  clear hqe
  go_loopw [10] (fun i wr => ∃ k : Nat, k ≤ n ∧ i = .int .i64 (k : Int) ∧ Hid (∀ j (hj : j < l.length), j < k → l[j].id ≠ id) ∧ Below w.heap.size w wr ∧ Blk wr q 27 #[.int .i64 0, .int .u32 0, .int .i64 0]) (fun i _ => n - (intOf i).toNat)
  case atStart => exact ⟨0, by omega, rfl, (fun j _ h => by omega), hB0, hq0⟩
  case round =>
    obtain ⟨k, hk, rfl, hall, hbr, hqr⟩ := hrel
    clear hB0 hq0
    have hlt := hqr.lt
    by_cases hkn : k < n
    · obtain ⟨b, off, hl, rfl, hc0, hc1, hc2⟩ := (hr.below (hbr.mono hB)).be hkn
      have HYES : Hid (l[k].id = id → findBe l id = (⟨l[k].id, l[k].addr, l[k].weight⟩, true)) := fun h => findBe_yes hl h hall.out
      have HNO : Hid (l[k].id ≠ id → ∀ j (hj : j < l.length), j < k + 1 → l[j].id ≠ id) := by
        intro h j hj hjk
        by_cases e : j = k
        · subst e; exact h
        · exact hall.out j hj (by omega)
      generalize l[k].id = x at *
      generalize l[k].weight = wt at *
      generalize l[k].addr = ad at *
      have hb2 := hbr.alloc hbr.size (.cells #[.int .i64 x, .int .u32 (ad : Int), .int .i64 wt] 27)
      have hq2 := hqr.alloc (.cells #[.int .i64 x, .int .u32 (ad : Int), .int .i64 wt] 27)
      have HX := Lib.hid (And.intro hb2 hq2)
      by_cases hid : x = id
      · have bx : (x == id) = true := by simp [hid]
        have HR := Lib.hid (HYES.out hid)
        have hx2 := Blk.new wr 27 #[.int .i64 x, .int .u32 (ad : Int), .int .i64 wt]
        have HX2 := Lib.hid hx2
        clear hid HYES HNO hb2 hq2 hqr hall hx2
        go_upto_region 5 with fail
        obtain ⟨pn, hpn⟩ : ∃ p, p = wr.heap.size := ⟨_, rfl⟩
        rw [← hpn] at HX2 hlt ⊢
        generalize wr.alloc (.cells #[.int .i64 x, .int .u32 (ad : Int), .int .i64 wt] 27) = w2 at *
        clear hpn
        have f0 := HX.out.2.frozen 0
        have f1 := HX.out.2.frozen 1
        have f2 := HX.out.2.frozen 2
        have d0 := HX.out.2.cell 0
        have d1 := HX.out.2.cell 1
        have d2 := HX.out.2.cell 2
        have g0 := HX2.out.cell 0
        have g1 := HX2.out.cell 1
        have g2 := HX2.out.cell 2
        simp only [List.getElem?_toArray, List.getElem?_cons_zero, List.getElem?_cons_succ] at d0 d1 d2 g0 g1 g2
        go_wp2_with fail
        obtain ⟨w9, hw9⟩ : ∃ w9, w9 = ((w2.setCell ⟨q, 0, none⟩ (.int .i64 x)).setCell ⟨q, 1, none⟩ (.int .u32 (ad : Int))).setCell ⟨q, 2, none⟩ (.int .i64 wt) := ⟨_, rfl⟩
        have hz : Blk w9 q 27 #[.int .i64 x, .int .u32 (ad : Int), .int .i64 wt] := by
          rw [hw9]
          exact ((HX.out.2.set_ 0 (.int .i64 x)).set_ 1 (.int .u32 (ad : Int))).set_ 2 (.int .i64 wt)
        have hB9 : Below w.heap.size w w9 := by
          rw [hw9]
          have hle : w.heap.size ≤ q := by rw [HQ.out]; exact Nat.le_refl _
          exact ((HX.out.1.setCell (p := ⟨q, 0, none⟩) hle _).setCell (p := ⟨q, 1, none⟩) hle _).setCell (p := ⟨q, 2, none⟩) hle _
        rw [← hw9]
        clear hw9 d0 d1 d2 f0 f1 f2 g0 g1 g2
        have r0 := hz.cell 0
        have r1 := hz.cell 1
        have r2 := hz.cell 2
        simp only [List.getElem?_toArray, List.getElem?_cons_zero, List.getElem?_cons_succ] at r0 r1 r2
        exact bodyPost_ret (v := .tuple #[.agg #[.int .i64 x, .int .u32 (ad : Int), .int .i64 wt], .bool true]) (by simp [results, Try.results25, go_sem, r0, r1, r2]) rfl ⟨by rw [HR.out]; rfl, hB9⟩
      · have bx : (x == id) = false := by simp [hid]
        have HN := Lib.hid (HNO.out hid)
        clear hid HYES HNO hb2 hq2 hqr hall
        go_wp2_with fail
        go_roundw
        case rel => exact ⟨k + 1, by omega, by go_num, HN, HX.out.1, HX.out.2⟩
        case measure => simp [intOf]; omega
    · have hkk : k = n := by omega
      have HR : Hid (findBe l id = (⟨0, 0, 0⟩, false)) := findBe_no (fun j hj => hall.out j hj (by omega))
      subst hkk
      have f0 := hqr.frozen 0
      have f1 := hqr.frozen 1
      have f2 := hqr.frozen 2
      have d0 := hqr.cell 0
      have d1 := hqr.cell 1
      have d2 := hqr.cell 2
      simp only [List.getElem?_toArray, List.getElem?_cons_zero, List.getElem?_cons_succ] at d0 d1 d2
      clear hall hkn hk
      go_wp2_with fail
      obtain ⟨w9, hw9⟩ : ∃ w9, w9 = ((wr.setCell ⟨q, 0, none⟩ (.int .i64 0)).setCell ⟨q, 1, none⟩ (.int .u32 0)).setCell ⟨q, 2, none⟩ (.int .i64 0) := ⟨_, rfl⟩
      have hz : Blk w9 q 27 #[.int .i64 0, .int .u32 0, .int .i64 0] := by
        rw [hw9]
        exact ((hqr.set_ 0 (.int .i64 0)).set_ 1 (.int .u32 0)).set_ 2 (.int .i64 0)
      have hB9 : Below w.heap.size w w9 := by
        rw [hw9]
        have hle : w.heap.size ≤ q := by rw [HQ.out]; exact Nat.le_refl _
        exact ((hbr.setCell (p := ⟨q, 0, none⟩) hle _).setCell (p := ⟨q, 1, none⟩) hle _).setCell (p := ⟨q, 2, none⟩) hle _
      rw [← hw9]
      clear hw9 d0 d1 d2 f0 f1 f2
      have r0 := hz.cell 0
      have r1 := hz.cell 1
      have r2 := hz.cell 2
      simp only [List.getElem?_toArray, List.getElem?_cons_zero, List.getElem?_cons_succ] at r0 r1 r2
      exact bodyPost_ret (v := .tuple #[.agg #[.int .i64 0, .int .u32 0, .int .i64 0], .bool false]) (by simp [results, Try.results25, go_sem, r0, r1, r2]) rfl ⟨by rw [HR.out]; rfl, hB9⟩
end Go.Proofs.Ytaamflhleommlaa
