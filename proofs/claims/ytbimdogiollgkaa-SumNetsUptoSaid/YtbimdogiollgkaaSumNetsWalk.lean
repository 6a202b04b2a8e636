/- The walk of SumNets. -/
import Derived.Test.YtbimdogiollgkaaSumAwake
import Derived.Test.YtbimdogiollgkaaZeros
import Derived.Test.YtbimdogiollgkaaOpen
namespace Go.Proofs.Ytbimdogiollgkaa.sumNets
set_option linter.unusedVariables false
open Go.RowKit

theorem info5 : (Try.prog.info? 5).map (fun i => (i.zero, i.size, i.bytes)) = some (some (.int .u8 0), 1, 1) := by kernel_rfl

theorem net_behind {la : List Nat} (h : la.length % 2 = 0) : netN (la ++ [netN la / 256, netN la % 256]) = 0 := by
  have h1 := netN_lt la
  have h2 : wsum [netN la / 256, netN la % 256] = netN la := by simp [wsum]; omega
  unfold netN at *
  rw [wsum_even _ h, h2, fo_behind]
theorem net_parts {la : List Nat} (lb : List Nat) (h : la.length % 2 = 0) : foldN (partN (partN 0 la) lb) = netN (la ++ lb) := by
  unfold foldN partN netN
  rw [wsum_even _ h, fo_fo, fo_add, Nat.zero_add]
theorem net_zeros (d : List Nat) : netN (d ++ List.replicate (d.length % 2) 0) = netN d := by
  rcases Nat.mod_two_eq_zero_or_one d.length with h | h
  · rw [h]; simp
  · rw [h]
    unfold netN
    rw [show List.replicate 1 0 = [0] from rfl, wsum_pad (d.length / 2) d (by omega)]

set_option maxHeartbeats 1000000 in
set_option maxRecDepth 100000 in
theorem lawWalk (A : Option Addr) (n c : Nat) (l : List Nat) (B : Option Addr) (nb cb : Nat) (lb : List Nat) (w : World) (hca : c ≤ 1048576) (ha : BytesIn w A n c l) (hcb : cb ≤ 1048576) (hb : BytesIn w B nb cb lb) :
    Calls Try.prog 3 #[.slice A n c, .slice B nb cb] w fun e w' => e = .returned (.bool true) ∧ Below w.heap.size w w' := by
  have hr := ha.reads
  have hal := ha.all
  have hle := ha.le
  have hrb := hb.reads
  have hbl := hb.all
  have hleb := hb.le
  have hlb := hrb.length
  clear ha hb
  have hcase : (∃ M : Nat, ((n : Int) % 2 == 1) = true ∧ 0 < n ∧ M ≤ n ∧ Hid (n - 1 = M) ∧ Hid (M % 2 = 0)) ∨ (∃ M : Nat, ((n : Int) % 2 == 1) = false ∧ M ≤ n ∧ Hid (n = M) ∧ Hid (M % 2 = 0)) := by
    by_cases h : n % 2 = 1
    · exact .inl ⟨n - 1, by simp; omega, by omega, by omega, rfl, by show _ = _; omega⟩
    · exact .inr ⟨n, by simp; omega, by omega, rfl, by show _ = _; omega⟩
  rcases hcase with ⟨M, hodd, hn0, hM, HM, HE⟩ | ⟨M, hodd, hM, HM, HE⟩
  all_goals
    go_enter Try.func3, Try.ntmps3
    go_wp2_with fail
    rw [HM.out]
    have hrM := hr.takeb hM
    have halM := hal.take M
    have hlM : (l.take M).length = M := by have := hr.length; simp; omega
    have H1 := Lib.hid (net_behind (la := l.take M) (by rw [hlM]; exact HE.out))
    have H2 := Lib.hid (net_parts (la := l.take M) lb (by rw [hlM]; exact HE.out))
    have hnn := netN_lt (l.take M)
    clear hr hal
    generalize l.take M = la at *
    obtain ⟨K, hK, HK⟩ : ∃ K : Nat, K ≤ 2097152 ∧ Hid (M + nb = K) := ⟨M + nb, by omega, rfl⟩
    have H3 : Hid (netN ((la ++ lb) ++ List.replicate (K % 2) 0) = netN (la ++ lb)) := by
      have := net_zeros (la ++ lb)
      rwa [List.length_append, hlM, hlb, HK.out] at this
    refine (net_any _ _ A M c la hrM (by omega) halM).mono ?_
    rintro e w' ⟨rfl, rfl⟩
    generalize netN la = nn at *
    clear hlM hlb
    go_wp2_with (at_builtin; refine stop_ ?_)
    refine on_ ?_
    refine wpList_append_b rfl (.tmp 19) (.tmp 20) _ rfl 5 info5 Try.underlying22 w.heap.size (.slice (some ⟨w.heap.size, 0, none⟩) 0 0) 0 [] rfl
      (lit_own (cs := #[]) (Blk.new_ rfl) (by omega) (by decide) rfl rfl) w.heap.size A M c la rfl (hrM.alloc (Nat.le_refl _) _) M (by omega) (by omega) (by simp) ?_
    intro A1 c1 w1 hown1 hbw1 _ _
    have hb1 : Below w.heap.size w w1 := ((Below.refl _ _).alloc (Nat.le_refl _) _).trans hbw1
    have hs1 := hb1.size
    rw [List.nil_append] at hown1
    clear hbw1
    go_wp2_with (at_builtin; refine stop_ ?_)
    refine on_ ?_
    refine wpList_append_b rfl (.tmp 21) (.tmp 27) _ rfl 5 info5 Try.underlying22 w.heap.size (.slice A1 M c1) M la rfl
      (hown1.alloc _) (w1.heap.size + 1) _ 2 2 [nn / 256, nn % 256] rfl (reads_new _ _ _ _ 2 _ _ (by rfl) (by rfl) (by rfl) _ (by simp [bv])) (M + 2) rfl (by omega) (by simp; omega) ?_
    intro A2 c2 w2 hown2 hbw2 _ _
    have hb2 : Below w.heap.size w w2 := (hb1.alloc hs1 _).trans hbw2
    have hs2 := hb2.size
    have hr2 := Reads.of_own hown2
    clear hbw2 hown1 hb1 hown2
    go_wp2_with (at_builtin; refine stop_ ?_)
    refine on_ ?_
    refine wpList_append_b rfl (.tmp 29) (.tmp 30) _ rfl 5 info5 Try.underlying22 w2.heap.size (.slice (some ⟨w2.heap.size, 0, none⟩) 0 0) 0 [] rfl
      (lit_own (cs := #[]) (Blk.new_ rfl) (by omega) (by decide) rfl rfl) w.heap.size A M c la rfl ((hrM.below hb2).alloc hs2 _) M (by omega) (by omega) (by simp) ?_
    intro A3 c3 w3 hown3 hbw3 _ _
    have hb3 : Below w2.heap.size w2 w3 := ((Below.refl _ _).alloc (Nat.le_refl _) _).trans hbw3
    have hs3 := hb3.size
    rw [List.nil_append] at hown3
    clear hbw3
    go_wp2_with (at_builtin; refine stop_ ?_)
    refine on_ ?_
    refine wpList_append_b rfl (.tmp 31) (.tmp 32) _ rfl 5 info5 Try.underlying22 w2.heap.size (.slice A3 M c3) M la rfl
      hown3 w.heap.size B nb cb lb rfl ((hrb.below hb2).below (hb3.mono hs2)) K HK.out (by omega) hs3 ?_
    intro A4 c4 w4 hown4 hbw4 _ _
    have hb4 : Below w2.heap.size w2 w4 := hb3.trans hbw4
    have hs4 := hb4.size
    have hr4 := Reads.of_own hown4
    have hc4 := hr2.below hb4
    have hB4 : Below w.heap.size w w4 := hb2.trans (hb4.mono hs2)
    have hS4 := hB4.size
    have hal4 : AllB (la ++ lb) := halM.append hbl
    have hac4 : AllB (la ++ [nn / 256, nn % 256]) := halM.append (by intro z hz; simp at hz; omega)
    clear hbw4 hown3 hb3 hb4 hr2
    go_wp2_with fail
    refine (net_any _ _ A2 (M + 2) c2 _ hc4 (by omega) hac4).mono ?_
    rintro e w' ⟨rfl, rfl⟩
    rw [H1.out]
    go_wp2_with fail
    refine (net_any _ _ A4 K c4 _ hr4 (by omega) hal4).mono ?_
    rintro e w' ⟨rfl, rfl⟩
    go_wp2_with fail
    refine (part_any 0 (by omega) _ _ A M c la (hrM.below hB4) (by omega) halM).mono ?_
    rintro e w' ⟨rfl, rfl⟩
    have hp := partN_le 0 la
    generalize partN 0 la = p at *
    go_wp2_with fail
    refine (part_any p (by omega) _ _ B nb cb lb (hrb.below hB4) (by omega) hbl).mono ?_
    rintro e w' ⟨rfl, rfl⟩
    have hp2 := partN_le p lb
    generalize partN p lb = p2 at *
    go_wp2_with fail
    refine (fold_any p2 (by omega) _).mono ?_
    rintro e w' ⟨rfl, rfl⟩
    rw [H2.out]
    generalize la ++ lb = ld at *
    go_wp2_with (at_builtin; refine stop_ ?_)
    refine on_ ?_
    refine wpList_append_b rfl (.tmp 48) (.tmp 49) _ rfl 5 info5 Try.underlying22 w4.heap.size (.slice (some ⟨w4.heap.size, 0, none⟩) 0 0) 0 [] rfl
      (lit_own (cs := #[]) (Blk.new_ rfl) (by omega) (by decide) rfl rfl) w4.heap.size A4 K c4 ld rfl (hr4.alloc (Nat.le_refl _) _) K (by omega) (by omega) (by simp) ?_
    intro A5 c5 w5 hown5 hbw5 _ _
    have hb5 : Below w4.heap.size w4 w5 := ((Below.refl _ _).alloc (Nat.le_refl _) _).trans hbw5
    have hs5 := hb5.size
    rw [List.nil_append] at hown5
    clear hbw5
    go_wp2_with (at_builtin; refine stop_ ?_)
    refine on_ ?_
    refine wpList_append_z rfl (.tmp 50) (.tmp 53) _ _ rfl 5 info5 Try.underlying22 _ _ Try.underlying3 w4.heap.size (.slice A5 K c5) K ld rfl hown5 _ (K % 2) rfl (by omega) (K + K % 2) rfl (by omega) hs5 ?_
    intro A6 c6 w6 hown6 hbw6 _
    have hb6 : Below w4.heap.size w4 w6 := hb5.trans hbw6
    have hr6 := Reads.of_own hown6
    have hal6 : AllB (ld ++ List.replicate (K % 2) 0) := hal4.append (by intro z hz; rw [(List.mem_replicate.1 hz).2]; omega)
    clear hbw6 hown5 hb5 hown6
    go_wp2_with fail
    refine (net_any _ _ A6 _ c6 _ hr6 (by omega) hal6).mono ?_
    rintro e w' ⟨rfl, rfl⟩
    rw [H3.out]
    go_wp2_with fail
    refine (net_any _ _ A4 K c4 ld (hr4.below hb6) (by omega) hal4).mono ?_
    rintro e w' ⟨rfl, rfl⟩
    go_wp2_with fail
    refine (awake_any _).mono ?_
    rintro e w' ⟨rfl, hbz⟩
    go_wp2_with fail
    go_ret
    exact ⟨rfl, (hB4.trans (hb6.mono hS4)).trans (hbz.mono (by have := hb6.size; omega))⟩
end Go.Proofs.Ytbimdogiollgkaa.sumNets
