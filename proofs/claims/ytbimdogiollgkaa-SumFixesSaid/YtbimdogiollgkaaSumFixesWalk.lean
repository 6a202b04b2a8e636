/- The walk of SumFixes. -/
import Derived.Test.YtbimdogiollgkaaSumAwake
import Derived.Test.YtbimdogiollgkaaOpen
import Derived.BigQuiet
namespace Go.Proofs.Ytbimdogiollgkaa.sumFixes
set_option linter.unusedVariables false
open Go.RowKit

theorem info5 : (Try.prog.info? 5).map (fun i => (i.zero, i.size, i.bytes)) = some (some (.int .u8 0), 1, 1) := by kernel_rfl

set_option maxRecDepth 100000 in
theorem lawWalk (A : Option Addr) (n c : Nat) (l : List Nat) (at_ : Int) (now : Nat) (w : World) (hb : BytesIn w A n c l) (hat : -9223372036854775808 ≤ at_ ∧ at_ ≤ 9223372036854775807) (hnow : now < 65536) :
    Calls Try.prog 8 #[.slice A n c, .int .i64 at_, .int .u16 now] w fun e w' => e = .returned (.bool true) ∧ Below w.heap.size w w' := by
  have hr := hb.reads
  have ha := hb.all
  have hle := hb.le
  have hre := hb.reach
  clear hb
  by_cases h2 : n < 2
  · go_enter Try.func8, Try.ntmps8
    go_wp2_with (go_at_call 13; refine (awake_any _).mono ?_; rintro e w' ⟨rfl, hb2⟩)
    go_ret
    exact ⟨rfl, hb2⟩
  by_cases h3 : 2000 < n
  · go_enter Try.func8, Try.ntmps8
    go_wp2_with (go_at_call 13; refine (awake_any _).mono ?_; rintro e w' ⟨rfl, hb2⟩)
    go_ret
    exact ⟨rfl, hb2⟩
  obtain ⟨k, hk1, hk2, hk3⟩ : ∃ k, 2 * k ≤ n ∧ n ≤ 2 * k + 1 ∧ 0 < k := ⟨n / 2, by omega, by omega, by omega⟩
  go_enter Try.func8, Try.ntmps8
  go_wp2_with (at_builtin; refine stop_ ?_)
  refine on_ ?_
  refine wpList_append_b rfl (.tmp 20) (.tmp 26) _ rfl 5 info5 Try.underlying22 w.heap.size (.slice (some ⟨w.heap.size, 0, none⟩) 0 0) 0 [] rfl
    (lit_own (Blk.new _ _ _) (by omega) (by decide) rfl (by simp [bv])) w.heap.size A (n / 2 * 2) c (l.take (n / 2 * 2)) rfl ((hr.takeb (by omega)).alloc (Nat.le_refl _) _) (2 * k) (by omega) (by omega) (by simp) ?_
  intro A1 c1 w1 hown hbw _ _
  have hb1 : Below w.heap.size w w1 := ((Below.refl _ _).alloc (Nat.le_refl _) _).trans hbw
  obtain ⟨g, rfl, hg, hg1⟩ := own_head hown (by omega)
  rw [show n / 2 * 2 = 2 * k from by omega] at hown
  have hlen : (l.take (2 * k)).length = 2 * k := by have := hr.length; simp; omega
  have hal : AllB (l.take (2 * k)) := ha.take _
  rw [List.nil_append] at hown
  generalize l.take (2 * k) = m at hown hlen hal
  clear hr ha hbw
  obtain ⟨j, hj, hje⟩ := idx_rem at_ k hk3
  have hl0 : 2 * j < m.length := by omega
  have hl1 : 2 * j + 1 < m.length := by omega
  have hc0 := ownb_cell hown (2 * j) (by omega) hl0
  have hc1 := ownb_cell hown (2 * j + 1) (by omega) hl1
  have hf0 := hown.frozenAt (2 * j)
  have hf1 := hown.frozenAt (2 * j + 1)
  have hx := hal _ (List.getElem_mem hl0)
  have hy := hal _ (List.getElem_mem hl1)
  have hset := wsum_set j m (now / 256) (now % 256) hl1
  have HSB : Hid (AllB ((m.set (2 * j) (now / 256)).set (2 * j + 1) (now % 256))) := by
    intro z hz
    rcases List.mem_or_eq_of_mem_set hz with hz | rfl
    · rcases List.mem_or_eq_of_mem_set hz with hz | rfl
      · exact hal z hz
      · omega
    · omega
  generalize m[2 * j] = x at hc0 hx hset
  generalize m[2 * j + 1] = y at hc1 hy hset
  have hor : bits BinOp.or IntKind.u16 ((x : Int) * 256) (y : Int) = ((x * 256 + y : Nat) : Int) := by
    have := u16_or_nat (x * 256) y (by omega) (by omega)
    rw [nat_join 8 (x * 256) y (by omega) (by omega)] at this
    exact this
  have HFIX := Lib.hid (fix_net (W := wsum m) (W' := wsum ((m.set (2 * j) (now / 256)).set (2 * j + 1) (now % 256))) (old := x * 256 + y) (now := now) (by omega) (by omega))
  clear hset hl0 hl1
  rw [Nat.mul_comm 2 j] at hc0 hc1 hf0 hf1
  go_wp2_with fail
  go_quiet (fail)
  have hb2 : Below w.heap.size w (w1.drewN nq) := ⟨hb1.os, hb1.tape, hb1.output, hb1.size, hb1.block⟩
  have hown2 : (w1.drewN nq).ownsRow w.heap.size 5 1 (.slice (some ⟨g, 0, none⟩) (2 * k) c1) (2 * k) (bv m) := hown
  have hc0' : (w1.drewN nq).cell? ⟨g, j * 2, none⟩ = some (.int .u8 (x : Int)) := hc0
  have hc1' : (w1.drewN nq).cell? ⟨g, j * 2 + 1, none⟩ = some (.int .u8 (y : Int)) := hc1
  have hf0' : (w1.drewN nq).frozen? ⟨g, j * 2, none⟩ = false := hf0
  have hf1' : (w1.drewN nq).frozen? ⟨g, j * 2 + 1, none⟩ = false := hf1
  clear hc0 hc1 hf0 hf1 hown hb1 hg1
  generalize w1.drewN nq = w2 at *
  have hr2 := Reads.of_own hown2
  have hown3 := ownb_store (ownb_store hown2 (2 * j) (now / 256)) (2 * j + 1) (now % 256)
  rw [Nat.mul_comm 2 j, show ((now / 256 : Nat) : Int) = (now : Int) / 256 from rfl, show ((now % 256 : Nat) : Int) = (now : Int) % 256 from rfl] at hown3
  have hr3 := Reads.of_own hown3
  have hb3 : Below w.heap.size w ((w2.setCell ⟨g, j * 2, none⟩ (.int .u8 ((now : Int) / 256))).setCell ⟨g, j * 2 + 1, none⟩ (.int .u8 ((now : Int) % 256))) := (hb2.setCell hg _).setCell hg _
  have hs3 := hb3.size
  rw [Nat.mul_comm 2 j] at HSB HFIX
  clear hown2 hown3 hb2
  go_wp2_with fail
  refine (net_any _ _ _ _ _ m hr2 (by omega) hal).mono ?_
  rintro e w' ⟨rfl, rfl⟩
  have HN : Hid (netN m = 65535 - fo (wsum m)) := rfl
  go_wp2_with fail
  rw [HN.out]
  clear hc0' hc1' hf0' hf1' hr2
  generalize ((w2.setCell ⟨g, j * 2, none⟩ (.int .u8 ((now : Int) / 256))).setCell ⟨g, j * 2 + 1, none⟩ (.int .u8 ((now : Int) % 256))) = w3 at *
  rw [show ((x : Int) * 256 + (y : Int)) = ((x * 256 + y : Nat) : Int) from by omega]
  refine (fix_any (65535 - fo (wsum m)) (x * 256 + y) now (by omega) (by omega) hnow _).mono ?_
  rintro e w' ⟨rfl, rfl⟩
  have HX : Hid (fixN (65535 - fo (wsum m)) (x * 256 + y) now < 65536) := fixN_lt _ _ _
  have HM : Hid (netN ((m.set (j * 2) (now / 256)).set (j * 2 + 1) (now % 256)) = 65535 - fo (wsum ((m.set (j * 2) (now / 256)).set (j * 2 + 1) (now % 256)))) := rfl
  have hlen3 : ((m.set (j * 2) (now / 256)).set (j * 2 + 1) (now % 256)).length = 2 * k := by simp [hlen]
  have hal3 := HSB.out
  generalize (m.set (j * 2) (now / 256)).set (j * 2 + 1) (now % 256) = m3 at *
  generalize fixN (65535 - fo (wsum m)) (x * 256 + y) now = X at *
  clear hlen hlen3
  go_wp2_with fail
  refine (net_any _ _ _ _ _ m3 hr3 (by omega) hal3).mono ?_
  rintro e w' ⟨rfl, rfl⟩
  rw [HM.out]
  generalize 65535 - fo (wsum m3) = Y at *
  clear hr3 HM HN hor hje
  rcases HFIX.out with h | ⟨h, h'⟩ | ⟨h, h'⟩
  all_goals
    first | subst h h' | subst h
    clear HFIX
    go_wp2_with (go_at_call 13; refine (awake_any _).mono ?_; rintro e w' ⟨rfl, hbz⟩)
    go_ret
    exact ⟨rfl, hb3.trans (hbz.mono hs3)⟩
end Go.Proofs.Ytbimdogiollgkaa.sumFixes
