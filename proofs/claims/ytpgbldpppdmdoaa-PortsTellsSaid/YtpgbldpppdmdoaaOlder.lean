/- The walks of encap's pair and older (wip/genencap.py). -/
import Derived.Test.YtpgbldpppdmdoaaEncapPlain
import Derived.Deep.QuietTactic
import Derived.BigQuiet
namespace Go.Proofs.Ytpgbldpppdmdoaa
set_option linter.unusedVariables false
set_option linter.unusedSimpArgs false
open Go.RowKit

theorem u16_join (x y : Nat) (hx : x < 256) (hy : y < 256) : bits .or .u16 ((x : Int) * 256) (y : Int) = ((x * 256 + y : Nat) : Int) := by
  have h := (bits_nat .u16 16 (by decide) (fun n h0 h1 => by
    have e : (2 : Int) ^ 16 = 65536 := by decide
    rw [IntKind.wrap_u16]
    omega) (x * 256) y (by omega) (by omega)).2
  rw [nat_join 8 (x * 256) y (by omega) (by omega)] at h
  exact h

theorem pair_any (A : Option Addr) (n c B : Nat) (l : List Nat) (j : Nat) (w : World) (hr : Reads w B 1 A n (bv l)) (hj : j + 1 < n) (hn : n ≤ 140737488355328) (ha : AllB l) :
    Calls Try.prog 62 #[.slice A n c, .int .i64 (j : Int)] w fun e w' => e = .returned (.int .u16 (two' l j : Nat)) ∧ Below w.heap.size w w' := by
  obtain ⟨b, off, rfl, hb, hcell⟩ := hr.plain (by omega) (by omega)
  have hlen := hr.length
  have g0 := at_cell hcell (j := j) (by omega)
  have g1 := at_cell hcell (j := j + 1) (by omega)
  have hx := at_lt ha j
  have hy := at_lt ha (j + 1)
  have HE : Hid (two' l j = at' l j * 256 + at' l (j + 1)) := rfl
  generalize at' l j = x at *
  generalize at' l (j + 1) = y at *
  have hor := u16_join x y hx hy
  have i0 : (0 : Int) ≤ (j : Int) := by omega
  have i1 : (j : Int) < (n : Int) := by omega
  have i2 : (j : Int) + 1 < (n : Int) := by omega
  have i3 : IntKind.i64.wrap ((j : Int) + 1) = (j : Int) + 1 := IntWalk.i64_in _ (by omega)
  have i4 : (0 : Int) ≤ (j : Int) + 1 := by omega
  have i5 : ((j : Int) + 1).toNat = j + 1 := by omega
  clear hr hcell hlen
  go_enter Try.func62, Try.ntmps62
  go_wp2_with fail
  go_quiet (fail)
  go_wp2_with fail
  go_ret
  exact ⟨by rw [HE.out]; rfl, ⟨rfl, rfl, rfl, Nat.le_refl _, fun _ _ => rfl⟩⟩

set_option maxHeartbeats 4000000 in
set_option maxRecDepth 100000 in
theorem older_any (A : Option Addr) (n c B : Nat) (l : List Nat) (w : World) (hr : Reads w B 1 A n (bv l)) (hB : B ≤ w.heap.size) (h20 : 20 ≤ n) (hn : n ≤ 140737488355328) (ha : AllB l) (h8 : 1 ≤ at' l 8) :
    Calls Try.prog 49 #[.slice A n c] w fun e w' => ∃ A' c', e = .returned (.slice A' n c') ∧ w'.ownsRow w.heap.size 5 1 (.slice A' n c') n (bv (olderB l)) ∧ Below w.heap.size w w' := by
  obtain ⟨ad, rfl, _, _⟩ := hr.2 (by omega)
  have CC := Lib.hid (clone_any (some ad) n c B l w hr hB hn (fun h => by cases h))
  have hlen := hr.length
  obtain ⟨x8, hx8⟩ : ∃ x, x = at' l 8 := ⟨_, rfl⟩
  have hx8l : x8 < 256 := by rw [hx8]; exact at_lt ha 8
  obtain ⟨y8, hy8, e8⟩ : ∃ y : Nat, (x8 : Int) - 1 = (y : Int) ∧ y = x8 - 1 := ⟨x8 - 1, by omega, rfl⟩
  have hs1 : l.set 8 (at' l 8 - 1) = l.set 8 y8 := by rw [e8, hx8]
  have ha1 := ha.set2 8 y8 (by omega)
  have hl1 : (l.set 8 y8).length = n := by rw [List.length_set]; exact hlen
  have ht1 : two' (l.set 8 y8) 10 = two' l 10 := by unfold two'; rw [at_set_ne (by omega), at_set_ne (by omega)]
  obtain ⟨z, hz⟩ : ∃ z, z = olderN l := ⟨_, rfl⟩
  have hz2 : fixN (two' l 10) (two' l 8) (two' (l.set 8 y8) 8) = z := by rw [hz]; unfold olderN; rw [hs1]
  have z16 : z < 65536 := by rw [hz]; exact olderN_lt l
  have hres : olderB l = ((l.set 8 y8).set 10 (z / 256)).set 11 (z % 256) := by unfold olderB; rw [hs1, ← hz]
  have CF := Lib.hid (fun w' => fix_any (two' l 10) (two' l 8) (two' (l.set 8 y8) 8) (two_lt ha 10) (two_lt ha 8) (two_lt ha1 8) w')
  rw [hz2] at CF
  have HA := Lib.hid (And.intro ha ha1)
  have HLN := Lib.hid (And.intro hlen hl1)
  have HX := Lib.hid hx8
  have HT := Lib.hid ht1
  have HRES := Lib.hid hres
  obtain ⟨y1, e1, hy1⟩ : ∃ y1 : Nat, (z : Int) / 256 = (y1 : Int) ∧ y1 = z / 256 := ⟨z / 256, by omega, rfl⟩
  obtain ⟨y2, e2, hy2⟩ : ∃ y2 : Nat, (z : Int) % 256 = (y2 : Int) ∧ y2 = z % 256 := ⟨z % 256, by omega, rfl⟩
  have HY := Lib.hid (And.intro hy1 hy2)
  have h8' : 1 ≤ x8 := by omega
  clear hr ha hlen hx8 hs1 ha1 hl1 ht1 hz hz2 hres e8 hy1 hy2 h8
  go_enter Try.func49, Try.ntmps49
  go_wp2_with fail
  refine CC.out.mono ?_
  rintro e w1 ⟨A1, c1, rfl, hown1, hb1⟩
  obtain ⟨g, rfl, hg1, hg2⟩ := own_head hown1 (by omega)
  have CP : Hid (∀ w', Below w1.heap.size w1 w' → Calls Try.prog 62 #[.slice (some ⟨g, 0, none⟩) n c1, .int .i64 8] w' fun e w'' => e = .returned (.int .u16 (two' l 8 : Nat)) ∧ Below w'.heap.size w' w'') :=
    fun w' hb => pair_any (some ⟨g, 0, none⟩) n c1 w1.heap.size l 8 w' ((Reads.of_own hown1).below hb) (by omega) hn HA.out.1
  have HO1 := Lib.hid hown1
  clear CC hown1
  go_wp2_with fail
  refine (CP.out w1 (Below.refl _ _)).mono ?_
  rintro e w2 ⟨rfl, hb2⟩
  have hown2 := own_below HO1.out hb2
  have hB2 := hb1.trans (hb2.mono hb1.size)
  have c8 := ownb_cell hown2 8 (by omega) (by rw [HLN.out.1]; omega)
  have f8 := hown2.frozenAt 8
  have g8 : l[8]'(by rw [HLN.out.1]; omega) = x8 := by
    rw [HX.out]
    unfold at'
    rw [List.getD_eq_getElem?_getD, List.getElem?_eq_getElem (by rw [HLN.out.1]; omega)]
    rfl
  rw [g8] at c8
  have hst := ownb_store hown2 8 y8
  have hB3 := hB2.setCell (p := ⟨g, 8, none⟩) hg1 (.int .u8 (y8 : Int))
  have HS := Lib.hid (And.intro hst hB3)
  clear hown2 hb1 hb2 hst hB3 CP HO1 g8 hB2
  go_wp2_with fail
  obtain ⟨w3, hw3⟩ : ∃ w3, w3 = w2.setCell ⟨g, 8, none⟩ (.int .u8 (y8 : Int)) := ⟨_, rfl⟩
  rw [← hw3] at HS ⊢
  clear hw3 c8 f8
  have CPa : Hid (Calls Try.prog 62 #[.slice (some ⟨g, 0, none⟩) n c1, .int .i64 10] w3 fun e w'' => e = .returned (.int .u16 (two' l 10 : Nat)) ∧ Below w3.heap.size w3 w'') := by
    have := pair_any (some ⟨g, 0, none⟩) n c1 w3.heap.size (l.set 8 y8) 10 w3 (Reads.of_own HS.out.1) (by omega) hn HA.out.2
    rw [HT.out] at this
    exact this
  have CPb : Hid (∀ w', Below w3.heap.size w3 w' → Calls Try.prog 62 #[.slice (some ⟨g, 0, none⟩) n c1, .int .i64 8] w' fun e w'' => e = .returned (.int .u16 (two' (l.set 8 y8) 8 : Nat)) ∧ Below w'.heap.size w' w'') :=
    fun w' hb => pair_any (some ⟨g, 0, none⟩) n c1 w3.heap.size (l.set 8 y8) 8 w' ((Reads.of_own HS.out.1).below hb) (by omega) hn HA.out.2
  refine CPa.out.mono ?_
  rintro e w4 ⟨rfl, hb4⟩
  go_wp2_with fail
  refine (CPb.out w4 hb4).mono ?_
  rintro e w5 ⟨rfl, hb5⟩
  have hb35 := hb4.trans (hb5.mono hb4.size)
  have hown5 := own_below HS.out.1 hb35
  have hB5 := HS.out.2.trans (hb35.mono HS.out.2.size)
  clear CPa CPb hb4 hb5 hb35 HS
  go_wp2_with fail
  refine (CF.out w5).mono ?_
  rintro e w6 ⟨rfl, hw6⟩
  subst hw6
  obtain ⟨o10, c10⟩ : ∃ o : Nat, w5.cell? ⟨g, 10, none⟩ = some (.int .u8 (o : Int)) := ⟨_, ownb_cell hown5 10 (by omega) (by rw [HLN.out.2]; omega)⟩
  obtain ⟨o11, c11⟩ : ∃ o : Nat, w5.cell? ⟨g, 11, none⟩ = some (.int .u8 (o : Int)) := ⟨_, ownb_cell hown5 11 (by omega) (by rw [HLN.out.2]; omega)⟩
  have f10 := hown5.frozenAt 10
  have f11 := hown5.frozenAt 11
  have hst5 := ownb_store (ownb_store hown5 10 y1) 11 y2
  have hB6 := (hB5.setCell (p := ⟨g, 10, none⟩) hg1 (.int .u8 (y1 : Int))).setCell (p := ⟨g, 11, none⟩) hg1 (.int .u8 (y2 : Int))
  have HF := Lib.hid (And.intro hst5 hB6)
  have HRES2 : Hid (olderB l = ((l.set 8 y8).set 10 y1).set 11 y2) := by show _ = _; rw [HRES.out, HY.out.1, HY.out.2]
  clear hst5 hB6 hown5 hB5 CF
  go_wp2_with fail
  go_ret
  refine ⟨_, c1, rfl, ?_, HF.out.2⟩
  rw [HRES2.out]
  exact HF.out.1
end Go.Proofs.Ytpgbldpppdmdoaa
