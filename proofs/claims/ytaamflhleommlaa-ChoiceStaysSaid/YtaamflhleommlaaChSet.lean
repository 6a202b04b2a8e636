/- The walk of (*choice.Chooser).Set. -/
import Derived.Test.YtaamflhleommlaaChoo
import Derived.Deep.RegionHeld3
import Derived.Deep.RegionWith
namespace Go.Proofs.Ytaamflhleommlaa
set_option linter.unusedVariables false
set_option linter.unusedSimpArgs false
open Go.RowKit

theorem besOk_keep {p : Be → Bool} {l : List Be} (h : BesOk l) : BesOk (keepBe p l) := fun b hb => h b (List.mem_filter.1 hb).1
theorem keep_le (p : Be → Bool) (l : List Be) : (keepBe p l).length ≤ l.length := List.length_filter_le _ _

set_option maxHeartbeats 4000000 in
theorem set_nil (A : Option Addr) (n c : Nat) (ov : Value) (w : World) :
    Calls Try.prog 20 #[.pointer none, .slice A n c, ov] w fun e w' => e = .returned (.int .i64 1) ∧ w = w' := by
  go_enter Try.func20, Try.ntmps20
  go_wp2_with fail
  go_ret
  exact ⟨rfl, rfl⟩

set_option maxHeartbeats 4000000 in
set_option maxRecDepth 100000 in
theorem set_yes (p slots : Nat) (l0 : List Be) (t0 : List Int) (made : Int) (ov : Value) (o : Be → Bool) (A : Option Addr) (n c B : Nat) (l : List Be) (w : World) (hch : Ch w p slots l0 t0 made) (hm : mayN slots = true)
    (hr : Reads w B 3 A n (bks l)) (hB : B ≤ w.heap.size) (hok : BesOk l) (hnc : n ≤ c) (hnil : A = none → c = 0) (hmay : MayBs n l) (hmd : 0 ≤ made ∧ made ≤ 1000000)
    (hW : ∀ W, Below B w W → Calls Try.prog 38 #[.slice A n c, ov] W fun e w' => ∃ A' m c', e = .returned (.slice A' m c') ∧ m = (keepBe o l).length ∧ m ≤ c' ∧ Reads w' w'.heap.size 3 A' m (bks (keepBe o l)) ∧ Below W.heap.size W w') :
    Calls Try.prog 20 #[.pointer (some ⟨p, 0, none⟩), .slice A n c, ov] w fun e w' => e = .returned (.int .i64 0) ∧ Ch w' p slots l (tableF (keepBe o l) slots) (made + 1) ∧ But p w w' := by
  obtain ⟨A0, n0, c0, At, ct, hblk, hbes, htab, hfew⟩ := hch
  have hn16 := hmay.1
  have CM := Lib.hid (gmay_any A n c B l w hr hB hok (by omega) hnc)
  have CMy := Lib.hid hmay
  clear hmay
  go_enter Try.func20, Try.ntmps20
  go_wp2_with fail
  refine CM.out.mono ?_
  rintro e w1 ⟨⟨b, rfl, hbm⟩, hb1⟩
  obtain rfl := hbm.2 CMy.out
  clear hbm CM
  have hb1B := hb1.mono hB
  have hBp : Hid (p < w.heap.size) := hblk.lt
  have hblk1 := hblk.below hb1 hblk.lt
  have CC := Lib.hid (fun W (hb : Below B w W) => clonebe_any A n c B l W (hr.below hb) (Nat.le_trans hB hb.size) (by omega) hnil)
  have CW := Lib.hid hW
  have CT := Lib.hid (fun (A' : Option Addr) (m c' : Nat) (W : World) (hR : Reads W W.heap.size 3 A' m (bks (keepBe o l))) (h1 : m ≤ 16) (h2 : m ≤ c') => table_may A' m c' _ slots _ W hR (Nat.le_refl _) (besOk_keep hok) (by omega) h2 hm)
  have hkl := keep_le o l
  have hll := hr.be_length
  have HK := Lib.hid (And.intro hkl hll)
  have HR := Lib.hid hr
  clear hkl hll hW hm hr hok hnil hbes htab hblk hfew
  go_wp2_with fail
  have HB := Lib.hid (And.intro hb1 (And.intro hb1B hblk1))
  clear hb1 hb1B hblk1
  have d0 : w1.drew.cell? ⟨p, 0, none⟩ = some (.int .i64 slots) := by have := HB.out.2.2.cell 0; simpa using this
  go_region_held3 (fun wS => wS.cell? ⟨p, 0, none⟩ = some (.int .i64 slots)) (first | with_reducible exact d0 | with_reducible exact z0 | with_reducible exact y0 | with_reducible exact x0 | with_reducible exact sA _ | with_reducible exact sB _ _ | fail)
    (first
    | (go_at_call 37; (with_reducible refine (CC.out _ HB.out.2.1.drew).mono ?_); rintro e w2 ⟨A2, c2, rfl, hown2, hb2⟩; have hbk2 := HB.out.2.2.drew.below hb2 HB.out.2.2.lt; have z0 := hbk2.cell 0; simp only [List.getElem?_toArray, List.getElem?_cons_zero, List.getElem?_cons_succ] at z0)
    | (go_at_call 38; have hbW := HB.out.2.1.drew.trans (hb2.mono (Nat.le_trans hB HB.out.1.size)); (with_reducible refine (CW.out _ hbW).mono ?_); rintro e w3 ⟨A3, m3, c3, rfl, hm3, hmc3, hr3, hb3⟩; have HM3 := Lib.hid hm3; clear hm3; have hbk3 := hbk2.below hb3 hbk2.lt; have y0 := hbk3.cell 0; simp only [List.getElem?_toArray, List.getElem?_cons_zero, List.getElem?_cons_succ] at y0)
    | (go_at_call 10; have hm16 : m3 ≤ 16 := (by have := HK.out; have := HM3.out; omega); (with_reducible refine (CT.out _ _ _ _ hr3 hm16 hmc3).mono ?_); rintro e w4 ⟨A4, c4, rfl, hown4, hb4⟩; have hbk4 := hbk3.below hb4 hbk3.lt; have x0 := hbk4.cell 0; have x1 := hbk4.cell 1; have x2 := hbk4.cell 2; have f1 := hbk4.frozen 1; have f2 := hbk4.frozen 2; simp only [List.getElem?_toArray, List.getElem?_cons_zero, List.getElem?_cons_succ] at x0 x1 x2; have sA : ∀ u, (w4.setCell ⟨p, 1, none⟩ u).cell? ⟨p, 0, none⟩ = some (.int .i64 slots) := (fun u => (World.cell?_setCell_other w4 ⟨p, 1, none⟩ ⟨p, 0, none⟩ u (by intro e; cases e)).trans x0); have sB : ∀ u v, ((w4.setCell ⟨p, 1, none⟩ u).setCell ⟨p, 2, none⟩ v).cell? ⟨p, 0, none⟩ = some (.int .i64 slots) := (fun u v => (World.cell?_setCell_other _ ⟨p, 2, none⟩ ⟨p, 0, none⟩ v (by intro e; cases e)).trans (sA u))))
  have q1 : w.heap.size ≤ w1.drew.heap.size := HB.out.1.size
  have q2 := Nat.le_trans q1 hb2.size
  have q3 := Nat.le_trans q2 hb3.size
  have hb24 := (hb2.mono q1).trans ((hb3.mono q2).trans (hb4.mono q3))
  have hB4 : Below w.heap.size w w4 := HB.out.1.drew.trans hb24
  have hbes4 := own_below (own_below hown2 hb3) hb4
  have H1 := (hbk4.set_ 1 (.slice A2 n c2)).set_ 2 (.slice A4 slots c4)
  have hB5 := (But.of_below (p := p) hB4).set_ 1 (.slice A2 n c2) |>.set_ 2 (.slice A4 slots c4)
  have hbes5 := own_set_far (own_set_far hbes4 hbk4 (by decide) 1 (.slice A2 n c2)) (hbk4.set_ 1 (.slice A2 n c2)) (by decide) 2 (.slice A4 slots c4)
  have htab5 := own_set_far (own_set_far hown4 hbk4 (by decide) 1 (.slice A2 n c2)) (hbk4.set_ 1 (.slice A2 n c2)) (by decide) 2 (.slice A4 slots c4)
  generalize (w4.setCell ⟨p, 1, none⟩ (.slice A2 n c2)).setCell ⟨p, 2, none⟩ (.slice A4 slots c4) = w5 at *
  have HF := Lib.hid (And.intro H1 (And.intro hB5 (And.intro hbes5 htab5)))
  have e3 := H1.cell 3
  have f3 := H1.frozen 3
  simp [List.getElem?_cons_succ] at e3
  have ew : IntKind.i64.wrap (made + 1) = made + 1 := IntWalk.i64_in _ (by omega)
  clear H1 hB5 hbes5 htab5 hbes4 hB4 hb24 f1 f2 x0 x1 x2 hbk4 hown4 hown2 hbk2 hbk3 hr3 d0 z0 y0 sA sB
  go_wp2_with fail
  go_ret
  refine ⟨rfl, ⟨A2, n, c2, A4, c4, ?_, ?_, ?_, hn16⟩, HF.out.2.1.set_ _ _⟩
  · exact HF.out.1.set_ 3 _
  · exact own_base (own_set_far HF.out.2.2.1 HF.out.1 (by decide) 3 _) (Nat.zero_le _)
  · exact own_base (own_set_far HF.out.2.2.2 HF.out.1 (by decide) 3 _) (Nat.zero_le _)
end Go.Proofs.Ytaamflhleommlaa
