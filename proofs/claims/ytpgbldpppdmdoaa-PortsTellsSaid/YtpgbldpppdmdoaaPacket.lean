/- The walk of goitlaw20's Packet: some bytes, no more than a header and the body (wip/genpacket.py). -/
import Derived.Test.YtpgbldpppdmdoaaRefBuild
import Derived.Test.YtpgbldpppdmdoaaRefParse
import Derived.Test.YtpgbldpppdmdoaaOpenPlaces
import Derived.LoopTactic
namespace Go.Proofs.Ytpgbldpppdmdoaa
set_option linter.unusedVariables false
set_option linter.unusedSimpArgs false
open Go.RowKit

/-- some bytes, at most so many -/
def PacketRet (N : Nat) (w : World) (e : Ending) (w' : World) : Prop :=
  ∃ A m c l', e = .returned (.slice A m c) ∧ m ≤ c ∧ m ≤ N ∧ AllB l' ∧ Reads w' w'.heap.size 1 A m (bv l') ∧ Below w.heap.size w w'

theorem AllB.set_ {l : List Nat} (h : AllB l) (j y : Nat) (hy : y < 256) : AllB (l.set j y) := by
  intro x hx
  rcases List.mem_or_eq_of_mem_set hx with h1 | h1
  · exact h x h1
  · omega

set_option maxHeartbeats 8000000 in
set_option maxRecDepth 100000 in
theorem packet_any (h : Hd) (A : Option Addr) (n c B : Nat) (l : List Nat) (A2 : Option Addr) (n2 c2 : Nat) (ps : List Int) (x : Nat) (fix : Bool) (cut : Int) (w : World) (hok : HdOk h)
    (hr : Reads w B 1 A n (bv l)) (hB : B ≤ w.heap.size) (hn : n ≤ 100000) (ha : AllB l) (hr2 : Reads w B 1 A2 n2 (iv ps)) (hn2 : n2 ≤ 140737488355328) (hx : x < 256) :
    Calls Try.prog 17 #[.agg h.vals, .slice A n c, .slice A2 n2 c2, .int .u8 (x : Int), .bool fix, .int .i64 cut] w fun e w' => PacketRet (20 + n) w e w' := by
  obtain ⟨D, hD⟩ : ∃ D, D = buildB h := ⟨_, rfl⟩
  have hDl : D.length = 20 := by rw [hD]; exact buildB_length _
  have hDa : AllB D := by rw [hD]; exact buildB_all _
  have CB := Lib.hid (fun w' => refbuild_any h w' hok)
  rw [← hD] at CB
  obtain ⟨ihl, tos, len, id, flags, off, ttl, proto, sum, src, dst⟩ := h
  have hlen := hr.length
  have hal : Hid (AllB (D ++ l)) := hDa.append ha
  have hll : Hid ((D ++ l).length = 20 + n) := by show _ = _; rw [List.length_append, hDl, hlen]
  have HR := Lib.hid (fun w' (hb : Below w.heap.size w w') => (hr.below (hb.mono hB)).more (Nat.le_trans hB hb.size))
  have HR2 := Lib.hid (fun w' (hb : Below w.heap.size w w') => (hr2.below (hb.mono hB)).more (Nat.le_trans hB hb.size))
  clear hD hDl hDa hok hr hr2 ha hlen hB
  unfold Hd.vals at CB ⊢
  dsimp only at CB ⊢
  have hB0 := (Below.refl w.heap.size w).alloc (Nat.le_refl _) (.cells #[.int .i64 ihl, .int .i64 tos, .int .i64 len, .int .i64 id, .int .i64 flags, .int .i64 off, .int .i64 ttl, .int .i64 proto, .int .i64 sum, .int .u32 (src : Int), .int .u32 (dst : Int)] 24)
  go_enter Try.func17, Try.ntmps17
  go_wp2_with fail
  refine (CB.out _).mono ?_
  rintro e w1 ⟨A1, c1, rfl, hown1, hb1⟩
  have hB1 := hB0.trans (hb1.mono hB0.size)
  have hs1 := hB1.size
  have hown1 := own_lower hown1 hB0.size
  clear hb1 CB hB0
  go_wp2_with (at_builtin; refine stop_ ?_)
  refine on_ ?_
  refine wpList_append_b rfl (.tmp 19) (.tmp 20) _ rfl 5 infoB Try.underlying25 w.heap.size (.slice A1 20 c1) 20 D rfl hown1 w1.heap.size A n c l rfl (HR.out w1 hB1) (20 + n) rfl (by omega) hs1 ?_
  intro A3 c3 w2 hown2 hb2 _ _
  have hB2 := hB1.trans hb2
  obtain ⟨g, rfl, hg1, hg2⟩ := own_head hown2 (by omega)
  have hc3 := own_cap hown2
  clear hown1 hb2 hB1 hs1 HR
  have FIN : Hid (∀ m wr k, AllB m → m.length = 20 + n → wr.ownsRow w.heap.size 5 1 (.slice (some ⟨g, 0, none⟩) (20 + n) c3) (20 + n) (bv m) → Below w.heap.size w wr → k ≤ 20 + n → PacketRet (20 + n) w (.returned (.slice (some ⟨g, 0, none⟩) k c3)) wr) := by
    intro m wr k h1 h2 h3 h4 h5
    exact ⟨_, k, c3, m.take k, rfl, by omega, h5, h1.take k, (Reads.of_own h3).takeb h5, h4⟩
  go_wp2_with fail
  go_loopw [24] (fun i wr => ∃ (k : Nat) (m : List Nat), k ≤ n2 ∧ i = .int .i64 (k : Int) ∧ AllB m ∧ Hid (m.length = 20 + n) ∧ wr.ownsRow w.heap.size 5 1 (.slice (some ⟨g, 0, none⟩) (20 + n) c3) (20 + n) (bv m) ∧ Below w.heap.size w wr) (fun i _ => n2 - (intOf i).toNat)
  case atStart => exact ⟨0, D ++ l, Nat.zero_le _, rfl, hal.out, hll, hown2, hB2⟩
  case round =>
    obtain ⟨k, m, hk, rfl, hma, hml, hown, hBw⟩ := hrel
    clear hown2 hB2
    by_cases hlt : k < n2
    · obtain ⟨ad, hl0, rfl, hc⟩ := ints_at (HR2.out wr hBw) hlt
      generalize ps[k] = p at *
      obtain ⟨j, hj, hje0⟩ := idx_rem p (20 + n) (by omega)
      have hje : (IntKind.u64.wrap p).tmod (20 + (n : Int)) = (j : Int) := by rw [← hje0]; congr 1
      have hjl : j < m.length := by rw [hml.out]; exact hj
      have hcj := ownb_cell hown j hj hjl
      have hfj := hown.frozenAt j
      have hold := hma _ (List.getElem_mem hjl)
      obtain ⟨o, ho⟩ : ∃ o, o = m[j] := ⟨_, rfl⟩
      rw [← ho] at hcj hold
      have hxor := u8_xor_nat o x hold hx
      have hyl : o ^^^ x < 256 := Nat.xor_lt_two_pow (n := 8) hold hx
      obtain ⟨y, hy⟩ : ∃ y, y = o ^^^ x := ⟨_, rfl⟩
      rw [← hy] at hxor hyl
      have hst := Lib.hid (ownb_store hown j y)
      have hma2 := Lib.hid (hma.set_ j y hyl)
      have hBs := Lib.hid (hBw.setCell (p := ⟨g, j, none⟩) hg1 (.int .u8 (y : Int)))
      have hml2 : Hid ((m.set j y).length = 20 + n) := by show _ = _; rw [List.length_set]; exact hml.out
      have HM := Lib.hid (And.intro hma (And.intro hown hBw))
      clear hje0 ho hy hma hown hBw hjl
      by_cases hk3 : k < 3
      · go_wp2_with fail
        go_roundw
        case rel => exact ⟨k + 1, m.set j y, by omega, by go_num, hma2.out, hml2, hst.out, hBs.out⟩
        case measure => simp [intOf]; omega
      · go_wp2_with fail
        go_roundw
        case rel => exact ⟨k + 1, m, by omega, by go_num, HM.out.1, hml, HM.out.2.1, HM.out.2.2⟩
        case measure => simp [intOf]; omega
    · have hkk : k = n2 := by omega
      subst hkk
      clear hlt hk HR2
      have h0l : 0 < m.length := by rw [hml.out]; omega
      have hc0 := ownb_cell hown 0 (by omega) h0l
      have hy0 := hma _ (List.getElem_mem h0l)
      generalize m[0] = x0 at *
      obtain ⟨s, hs⟩ : ∃ s, s = x0 % 16 := ⟨_, rfl⟩
      have m0 : bits .and .u8 (x0 : Int) 15 = (s : Int) := by rw [hs, ← nat_mask4]; exact u8_and x0 15 hy0 (by omega)
      have s16 : s < 16 := by omega
      obtain ⟨j, hj, hje0⟩ := idx_rem cut (20 + n) (by omega)
      have hje : (IntKind.u64.wrap cut).tmod (20 + (n : Int)) = (j : Int) := by rw [← hje0]; congr 1
      have F0 := Lib.hid (FIN.out m wr (20 + n - j) hma hml.out hown hBw (by omega))
      have f1 : (0 : Int) ≤ 20 + (n : Int) - (j : Int) := by omega
      have f2 : 20 + (n : Int) - (j : Int) ≤ (c3 : Int) := by omega
      have f3 : (20 + (n : Int) - (j : Int)).toNat = 20 + n - j := by omega
      clear hs hje0 h0l
      cases fix
      · clear FIN hma hown hBw
        go_wp2_with fail
        go_ret
        exact F0.out
      · by_cases h5 : 20 ≤ 4 * s
        · have d5 : decide ((20 : Int) ≤ 4 * (s : Int)) = true := decide_eq_true (by omega)
          by_cases hle : 4 * s ≤ 20 + n
          · have dle : decide (4 * (s : Int) ≤ 20 + (n : Int)) = true := decide_eq_true (by omega)
            have hBk1 := hBw.setCell (p := ⟨g, 10, none⟩) hg1 (.int .u8 ((0 : Nat) : Int))
            have hBk2 := hBk1.setCell (p := ⟨g, 11, none⟩) hg1 (.int .u8 ((0 : Nat) : Int))
            have hst1 := ownb_store hown 10 0
            have hst2 := ownb_store hst1 11 0
            have hma2 := (hma.set_ 10 0 (by omega)).set_ 11 0 (by omega)
            have hml2 : ((m.set 10 0).set 11 0).length = 20 + n := by rw [List.length_set, List.length_set]; exact hml.out
            obtain ⟨o10, c10⟩ : ∃ o : Nat, wr.cell? ⟨g, 10, none⟩ = some (.int .u8 (o : Int)) := ⟨_, ownb_cell hown 10 (by omega) (by rw [hml.out]; omega)⟩
            obtain ⟨o11, c11⟩ : ∃ o : Nat, wr.cell? ⟨g, 11, none⟩ = some (.int .u8 (o : Int)) := ⟨_, ownb_cell hown 11 (by omega) (by rw [hml.out]; omega)⟩
            have g10 := hown.frozenAt 10
            have g11 := hown.frozenAt 11
            have hst2' : ((wr.setCell ⟨g, 10, none⟩ (.int .u8 0)).setCell ⟨g, 11, none⟩ (.int .u8 0)).ownsRow w.heap.size 5 1 (.slice (some ⟨g, 0, none⟩) (20 + n) c3) (20 + n) (bv ((m.set 10 0).set 11 0)) := hst2
            have hBk2' : Below w.heap.size w ((wr.setCell ⟨g, 10, none⟩ (.int .u8 0)).setCell ⟨g, 11, none⟩ (.int .u8 0)) := hBk2
            obtain ⟨z, hz⟩ : ∃ z, netN (((m.set 10 0).set 11 0).take (4 * s)) = z := ⟨_, rfl⟩
            have CN := fun w' B' h => net_any w' B' (some ⟨g, 0, none⟩) (4 * s) c3 (((m.set 10 0).set 11 0).take (4 * s)) h (by omega) (hma2.take _)
            rw [hz] at CN
            have CN' := Lib.hid (CN _ _ ((Reads.of_own hst2').takeb hle))
            have z16 : z < 65536 := by rw [← hz]; exact netN_lt _
            obtain ⟨y1, e1, hy1⟩ : ∃ y1 : Nat, (z : Int) / 256 = (y1 : Int) ∧ y1 < 256 := ⟨z / 256, by omega, by omega⟩
            obtain ⟨y2, e2, hy2⟩ : ∃ y2 : Nat, (z : Int) % 256 = (y2 : Int) ∧ y2 < 256 := ⟨z % 256, by omega, by omega⟩
            have hst3 := ownb_store hst2' 10 y1
            have hst4 := ownb_store hst3 11 y2
            have hBk4 := (hBk2'.setCell (p := ⟨g, 10, none⟩) hg1 (.int .u8 (y1 : Int))).setCell (p := ⟨g, 11, none⟩) hg1 (.int .u8 (y2 : Int))
            have F4 := Lib.hid (FIN.out _ _ (20 + n - j) ((hma2.set_ 10 y1 hy1).set_ 11 y2 hy2) (by rw [List.length_set, List.length_set]; exact hml2) hst4 hBk4 (by omega))
            have hc3' : 4 * (s : Int) ≤ (c3 : Int) := by omega
            clear hst1 hst2 hst3 hst4 hBk1 hBk2 hBk2' hBk4 hma2 hml2 hz CN FIN hma hown hBw F0 hst2'
            go_wp2_with fail
            refine CN'.out.mono ?_
            rintro e w5 ⟨rfl, hw5⟩
            subst hw5
            clear CN'
            go_wp2_with fail
            go_ret
            exact F4.out
          · have dle : decide (4 * (s : Int) ≤ 20 + (n : Int)) = false := decide_eq_false (by omega)
            clear FIN hma hown hBw
            go_wp2_with fail
            go_ret
            exact F0.out
        · have d5 : decide ((20 : Int) ≤ 4 * (s : Int)) = false := decide_eq_false (by omega)
          clear FIN hma hown hBw
          go_wp2_with fail
          go_ret
          exact F0.out
end Go.Proofs.Ytpgbldpppdmdoaa
