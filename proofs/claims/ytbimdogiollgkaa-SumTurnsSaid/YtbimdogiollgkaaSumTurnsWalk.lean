/- The walk of SumTurns. -/
import Derived.Test.YtbimdogiollgkaaSumAwake
import Derived.Test.YtbimdogiollgkaaCrcPlain
import Derived.Test.YtbimdogiollgkaaOpen
import Derived.BigQuiet
import Derived.BigRegion
namespace Go.Proofs.Ytbimdogiollgkaa.sumTurns
set_option linter.unusedVariables false
open Go.RowKit

theorem info5 : (Try.prog.info? 5).map (fun i => (i.zero, i.size, i.bytes)) = some (some (.int .u8 0), 1, 1) := by kernel_rfl

set_option maxRecDepth 100000 in
theorem lawWalk (A : Option Addr) (n c : Nat) (l : List Nat) (i_ j_ : Int) (s : Nat) (w : World) (hb : BytesIn w A n c l) (hi : -9223372036854775808 ≤ i_ ∧ i_ ≤ 9223372036854775807) (hj : -9223372036854775808 ≤ j_ ∧ j_ ≤ 9223372036854775807) (hs : s < 4294967296) :
    Calls Try.prog 5 #[.slice A n c, .int .i64 i_, .int .i64 j_, .int .u32 s] w fun e w' => e = .returned (.bool true) ∧ Below w.heap.size w w' := by
  have hr := hb.reads
  have ha := hb.all
  have hle := hb.le
  have hre := hb.reach
  have hlen := hr.length
  clear hb
  by_cases h2 : n < 4
  · go_enter Try.func5, Try.ntmps5
    go_wp2_with (go_at_call 13; refine (awake_any _).mono ?_; rintro e w' ⟨rfl, hb2⟩)
    go_ret
    exact ⟨rfl, hb2⟩
  by_cases h3 : 2000 < n
  · go_enter Try.func5, Try.ntmps5
    go_wp2_with (go_at_call 13; refine (awake_any _).mono ?_; rintro e w' ⟨rfl, hb2⟩)
    go_ret
    exact ⟨rfl, hb2⟩
  obtain ⟨k, hk1, hk2, hk3, hkd⟩ : ∃ k : Nat, 2 * k ≤ n ∧ n ≤ 2 * k + 1 ∧ 0 < k ∧ (n : Int) / 2 = (k : Int) := ⟨n / 2, by omega, by omega, by omega, by omega⟩
  obtain ⟨a, ha1, hae⟩ := idx_rem i_ k hk3
  obtain ⟨b, hb1, hbe⟩ := idx_rem j_ k hk3
  go_enter Try.func5, Try.ntmps5
  go_wp2_with (at_builtin; refine stop_ ?_)
  refine on_ ?_
  refine wpList_append_b rfl (.tmp 20) (.tmp 21) _ rfl 5 info5 Try.underlying22 w.heap.size (.slice (some ⟨w.heap.size, 0, none⟩) 0 0) 0 [] rfl
    (lit_own (Blk.new _ _ _) (by omega) (by decide) rfl (by simp [bv])) w.heap.size A n c l rfl (hr.alloc (Nat.le_refl _) _) n (by omega) (by omega) (by simp) ?_
  intro A1 c1 w1 hown hbw _ _
  have hbb : Below w.heap.size w w1 := ((Below.refl _ _).alloc (Nat.le_refl _) _).trans hbw
  obtain ⟨g, rfl, hg, hg1⟩ := own_head hown (by omega)
  rw [List.nil_append] at hown
  clear hbw
  go_wp2_with fail
  go_quiet (fail)
  have hb2 : Below w.heap.size w (w1.drewN nq) := ⟨hbb.os, hbb.tape, hbb.output, hbb.size, hbb.block⟩
  have hown2 : (w1.drewN nq).ownsRow w.heap.size 5 1 (.slice (some ⟨g, 0, none⟩) n c1) n (bv l) := hown
  clear hown hbb hg1
  generalize w1.drewN nq = w2 at *
  have hla : 2 * a < l.length := by omega
  have hlb : 2 * b < l.length := by omega
  have hla1 : 2 * a + 1 < l.length := by omega
  have hlb1 : 2 * b + 1 < l.length := by omega
  have HW := Lib.hid (wsum_swap l a b hla1 hlb1)
  have hcx := ownb_cell hown2 (2 * a) (by omega) hla
  have hcy := ownb_cell hown2 (2 * b) (by omega) hlb
  have hfx := hown2.frozenAt (2 * a)
  have hfy := hown2.frozenAt (2 * b)
  have hown3 := ownb_store hown2 (2 * a) l[2 * b]
  have hcy3 := ownb_cell hown3 (2 * b) (by omega) (by simpa using hlb)
  have hfy3 := hown3.frozenAt (2 * b)
  have hown4 := ownb_store hown3 (2 * b) l[2 * a]
  have hb4 : Below w.heap.size w ((w2.setCell ⟨g, 2 * a, none⟩ (.int .u8 ((l[2 * b] : Nat) : Int))).setCell ⟨g, 2 * b, none⟩ (.int .u8 ((l[2 * a] : Nat) : Int))) := (hb2.setCell hg _).setCell hg _
  have ex : ((l.set (2 * a) l[2 * b]).set (2 * b) l[2 * a])[2 * a + 1]? = some l[2 * a + 1] := by
    rw [List.getElem?_set_ne (by omega), List.getElem?_set_ne (by omega), List.getElem?_eq_getElem hla1]
  have ey : ((l.set (2 * a) l[2 * b]).set (2 * b) l[2 * a])[2 * b + 1]? = some l[2 * b + 1] := by
    rw [List.getElem?_set_ne (by omega), List.getElem?_set_ne (by omega), List.getElem?_eq_getElem hlb1]
  have hx := ha _ (List.getElem_mem hla)
  have hy := ha _ (List.getElem_mem hlb)
  have hx1 := ha _ (List.getElem_mem hla1)
  have hy1 := ha _ (List.getElem_mem hlb1)
  generalize ((l.set (2 * a) l[2 * b])[2 * b]'(by simpa using hlb)) = q at hcy3
  generalize l[2 * a] = x at *
  generalize l[2 * b] = y at *
  generalize l[2 * a + 1] = x1 at *
  generalize l[2 * b + 1] = y1 at *
  clear hown2 hown3 hb2
  go_wp2_with fail
  go_region
  have hown5 : (((w2.setCell ⟨g, 2 * a, none⟩ (.int .u8 (y : Int))).setCell ⟨g, 2 * b, none⟩ (.int .u8 (x : Int))).drew).ownsRow w.heap.size 5 1 (.slice (some ⟨g, 0, none⟩) n c1) n (bv ((l.set (2 * a) y).set (2 * b) x)) := hown4
  have hb5 : Below w.heap.size w (((w2.setCell ⟨g, 2 * a, none⟩ (.int .u8 (y : Int))).setCell ⟨g, 2 * b, none⟩ (.int .u8 (x : Int))).drew) := hb4.drew
  clear hcx hcy hfx hfy hcy3 hfy3 hown4 hb4
  generalize ((w2.setCell ⟨g, 2 * a, none⟩ (.int .u8 (y : Int))).setCell ⟨g, 2 * b, none⟩ (.int .u8 (x : Int))).drew = w3 at *
  have hm : AllB ((l.set (2 * a) y).set (2 * b) x) := by
    intro z hz
    rcases List.mem_or_eq_of_mem_set hz with hz | rfl
    · rcases List.mem_or_eq_of_mem_set hz with hz | rfl
      · exact ha z hz
      · exact hy
    · exact hx
  have hml : ((l.set (2 * a) y).set (2 * b) x).length = n := by simp [hlen]
  generalize (l.set (2 * a) y).set (2 * b) x = m at *
  have hma : 2 * a + 1 < m.length := by omega
  have hmb : 2 * b + 1 < m.length := by omega
  have hcx := ownb_cell hown5 (2 * a + 1) (by omega) hma
  have hcy := ownb_cell hown5 (2 * b + 1) (by omega) hmb
  rw [List.getElem?_eq_getElem hma, Option.some.injEq] at ex
  rw [List.getElem?_eq_getElem hmb, Option.some.injEq] at ey
  rw [ex] at hcx
  rw [ey] at hcy
  clear ex ey
  have hfx := hown5.frozenAt (2 * a + 1)
  have hfy := hown5.frozenAt (2 * b + 1)
  have hown6 := ownb_store hown5 (2 * a + 1) y1
  have hcy3 := ownb_cell hown6 (2 * b + 1) (by omega) (by simpa using hmb)
  have hfy3 := hown6.frozenAt (2 * b + 1)
  have hown7 := ownb_store hown6 (2 * b + 1) x1
  have hb7 : Below w.heap.size w ((w3.setCell ⟨g, 2 * a + 1, none⟩ (.int .u8 (y1 : Int))).setCell ⟨g, 2 * b + 1, none⟩ (.int .u8 (x1 : Int))) := (hb5.setCell hg _).setCell hg _
  generalize ((m.set (2 * a + 1) y1)[2 * b + 1]'(by simpa using hmb)) = q' at hcy3
  clear hown6 hown5 hb5
  go_wp2_with fail
  go_region
  have hr8 : Reads (((w3.setCell ⟨g, 2 * a + 1, none⟩ (.int .u8 (y1 : Int))).setCell ⟨g, 2 * b + 1, none⟩ (.int .u8 (x1 : Int))).drew) _ 1 (some ⟨g, 0, none⟩) n (bv ((m.set (2 * a + 1) y1).set (2 * b + 1) x1)) := Reads.of_own hown7
  have hb8 : Below w.heap.size w (((w3.setCell ⟨g, 2 * a + 1, none⟩ (.int .u8 (y1 : Int))).setCell ⟨g, 2 * b + 1, none⟩ (.int .u8 (x1 : Int))).drew) := hb7.drew
  clear hcx hcy hfx hfy hcy3 hfy3 hown7 hb7
  generalize ((w3.setCell ⟨g, 2 * a + 1, none⟩ (.int .u8 (y1 : Int))).setCell ⟨g, 2 * b + 1, none⟩ (.int .u8 (x1 : Int))).drew = w4 at *
  have hm2 : AllB ((m.set (2 * a + 1) y1).set (2 * b + 1) x1) := by
    intro z hz
    rcases List.mem_or_eq_of_mem_set hz with hz | rfl
    · rcases List.mem_or_eq_of_mem_set hz with hz | rfl
      · exact hm z hz
      · exact hy1
    · exact hx1
  have HN : Hid (netN ((m.set (2 * a + 1) y1).set (2 * b + 1) x1) = netN l) := by
    show _ = _
    unfold netN
    rw [HW.out]
  generalize (m.set (2 * a + 1) y1).set (2 * b + 1) x1 = m2 at *
  clear HW hla hlb hla1 hlb1 hma hmb
  have hs8 := hb8.size
  go_wp2_with fail
  refine (net_any _ _ _ _ _ l (hr.below hb8) (by omega) ha).mono ?_
  rintro e w' ⟨rfl, rfl⟩
  go_wp2_with fail
  refine (net_any _ _ _ _ _ m2 hr8 (by omega) hm2).mono ?_
  rintro e w' ⟨rfl, rfl⟩
  rw [HN.out]
  have hF : foldN (65535 - foldN s) = foldN s := by
    have := fo_le s
    have e : 65535 - foldN s = fo s := by unfold foldN; omega
    rw [e]; unfold foldN; rw [fo_fo]
  have hFl := foldN_lt s
  have hF1 := fold_any s hs
  have hF2 := fold_any (65535 - foldN s) (by omega)
  rw [hF] at hF2
  have hnot := not_u16 (foldN s) (by omega)
  have hp := partN_le s []
  have hP := part_any s hs
  generalize foldN s = F at *
  obtain ⟨F', hF'⟩ : ∃ F', F' = 65535 - F := ⟨_, rfl⟩
  rw [← hF'] at hnot hF2
  have HF2 := Lib.hid hF2
  have HF1 := Lib.hid hF1
  have hF3 : F' < 65536 := by omega
  clear hF1 hF2 hF hF'
  have hsg : IntKind.u16.signed = false := rfl
  go_wp2_with fail
  refine (HF1.out _).mono ?_
  rintro e w' ⟨rfl, rfl⟩
  go_wp2_with fail
  refine (HF2.out _).mono ?_
  rintro e w' ⟨rfl, rfl⟩
  go_wp2_with fail
  refine (HF1.out _).mono ?_
  rintro e w' ⟨rfl, rfl⟩
  go_wp2_with fail
  refine (part_any s hs _ w4.heap.size none 0 0 [] Reads.none_ (by omega) (by intro z hz; cases hz)).mono ?_
  rintro e w' ⟨rfl, rfl⟩
  generalize partN s [] = p at *
  clear hP HF1 HF2 hr8 HN
  go_wp2_with (go_at_call 13; refine (awake_any _).mono ?_; rintro e w' ⟨rfl, hbz⟩)
  go_ret
  exact ⟨rfl, hb8.trans (hbz.mono hs8)⟩
end Go.Proofs.Ytbimdogiollgkaa.sumTurns
