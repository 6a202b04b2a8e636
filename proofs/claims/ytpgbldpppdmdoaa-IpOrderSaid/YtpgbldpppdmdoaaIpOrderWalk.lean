/- The walk of IpOrder. -/
import Derived.Test.YtpgbldpppdmdoaaIpAwake
import Derived.Deep.DeepCutAuto
namespace Go.Proofs.Ytpgbldpppdmdoaa.ipOrder
set_option linter.unusedVariables false
set_option linter.unusedSimpArgs false
open Go.RowKit

theorem AllB.set {l : List Nat} (h : AllB l) (i y : Nat) (hy : y < 256) : AllB (l.set i y) := by
  intro x hx
  rcases List.mem_or_eq_of_mem_set hx with hx | rfl
  · exact h x hx
  · exact hy
theorem at_set0 {l : List Nat} (y : Nat) (h : 0 < l.length) : at' (l.set 0 y) 0 = y := by
  unfold at'
  simp [h]
theorem why_low {l : List Nat} (h : 20 ≤ l.length) : whyP (l.set 0 68) = 3 := by
  unfold whyP ihlP
  rw [List.length_set, at_set0 68 (by omega), if_neg (by omega), if_neg (by omega), if_pos (by omega)]
theorem why_other {l : List Nat} {y : Nat} (h : 20 ≤ l.length) (hy : y / 16 ≠ 4) : whyP (l.set 0 y) = 2 := by
  unfold whyP
  rw [List.length_set, at_set0 y (by omega), if_neg (by omega), if_pos hy]

set_option maxHeartbeats 2000000 in
set_option maxRecDepth 100000 in
theorem lawWalk (A : Option Addr) (n c : Nat) (l : List Nat) (v : Nat) (w : World) (hi : BytesIn w A n c l) (hv : v < 256) :
    Calls Try.prog 4 #[.slice A n c, .int .u8 v] w fun e w' => e = .returned (.bool true) ∧ Below w.heap.size w w' := by
  have hr := hi.reads
  have hnc := hi.le
  have hall := hi.all
  clear hi
  by_cases h2 : 2000 < n
  · go_enter Try.func4, Try.ntmps4
    go_wp2_with fail
    refine (awake20_any _).mono ?_
    rintro e w9 ⟨rfl, hb9⟩
    go_wp2_with fail
    go_ret
    exact ⟨rfl, hb9⟩
  have hd2 : decide ((2000 : Int) < (n : Int)) = false := decide_eq_false (by omega)
  have hlen := hr.length
  by_cases h20 : n < 20
  · have CP := Lib.hid (parse_short A n c w.heap.size l w hr h20)
    have hW := Lib.hid (why_short (l := l) (by omega))
    clear hr hlen
    go_enter Try.func4, Try.ntmps4
    go_wp2_with fail
    refine CP.out.mono ?_
    rintro e w1 ⟨hret, hb1⟩
    obtain rfl := hret.no (by rw [hW.out]; omega)
    rw [hW.out]
    clear hret CP
    unfold hd0 Hd.vals
    go_wp2_with fail
    refine (awake20_any _).mono ?_
    rintro e w9 ⟨rfl, hb9⟩
    go_wp2_with fail
    go_ret
    have hB2 := hb1.alloc hb1.size (.cells #[.int .i64 0, .int .i64 0, .int .i64 0, .int .i64 0, .int .i64 0, .int .i64 0, .int .i64 0, .int .i64 0, .int .i64 0, .int .u32 0, .int .u32 0] 24)
    exact ⟨rfl, hB2.trans (hb9.mono hB2.size)⟩
  obtain ⟨ad, hA, _⟩ := hr.2 (by omega)
  subst hA
  have CP := Lib.hid (parse_any (some ad) n c w.heap.size l w hr (Nat.le_refl _) (by omega) hnc hall)
  have HR := Lib.hid hr
  clear hr hlen
  go_enter Try.func4, Try.ntmps4
  go_wp2_with fail
  refine CP.out.mono ?_
  rintro e w1 ⟨hret, hb1⟩
  obtain ⟨y0, y1, y2, y3, y4, y5, y6, y7, y8, y9, y10, m, cm, P, rfl, hzero⟩ := hret.names hall
  obtain ⟨r, hrr⟩ : ∃ r, r = whyP l := ⟨_, rfl⟩
  rw [← hrr] at hzero ⊢
  have HZ := Lib.hid hzero
  clear hret CP hrr hzero
  go_upto_region 4 with fail
  go_cut [36] (fun v36 wx => v36 = .bool false ∧ Below w.heap.size w wx)
  case first =>
    have hB := hb1.alloc hb1.size (.cells #[.int .i64 (y0 : Int), .int .i64 (y1 : Int), .int .i64 (y2 : Int), .int .i64 (y3 : Int), .int .i64 (y4 : Int), .int .i64 (y5 : Int), .int .i64 (y6 : Int), .int .i64 (y7 : Int), .int .i64 (y8 : Int), .int .u32 (y9 : Int), .int .u32 (y10 : Int)] 24)
    by_cases h0 : r = 0
    · subst h0
      clear HZ
      go_wp2_with fail
      go_meet
      exact ⟨rfl, hB⟩
    · obtain ⟨rfl, rfl, rfl, rfl, rfl, rfl, rfl, rfl, rfl, rfl, rfl, rfl⟩ := HZ.out h0
      have hb : ((r : Int) != 0) = true := by simp; omega
      clear HZ
      go_wp2_with fail
      go_meet
      exact ⟨rfl, hB⟩
  case rest =>
    obtain ⟨rfl, hB⟩ := hcut
    have hs := hB.size
    clear hb1
    go_wp2_with (at_builtin; refine stop_ ?_)
    refine on_ ?_
    refine wpList_append_b rfl (.tmp 45) (.tmp 46) _ rfl 5 infoB Try.underlying25 w.heap.size (.slice (some ⟨wc.heap.size, 0, none⟩) 0 0) 0 [] rfl
      (lit_own (cs := #[]) (Blk.new_ rfl) hs (by decide) rfl rfl) wc.heap.size (some ad) n c l rfl (((HR.out.below hB).more hs).alloc (Nat.le_refl _) _) n (by omega) (by omega) (by simp; omega) ?_
    intro A8 c8 w8 hown8 hb8 _ _
    rw [List.nil_append] at hown8
    have hB8 := (hB.alloc hs (.cells #[] 5)).trans hb8
    obtain ⟨g8, hA8, _, _⟩ := own_head hown8 (by omega)
    subst hA8
    have hl0 : 0 < l.length := by have := HR.out.length; omega
    have hc0 := ownb_cell hown8 0 (by omega) hl0
    have hf0 := hown8.frozenAt 0
    have hx := hall _ (List.getElem_mem hl0)
    generalize l[0] = x0 at *
    have hg8 : w.heap.size ≤ g8 := (hown8.lt g8 rfl).1
    have hl20 : 20 ≤ l.length := by have := HR.out.length; omega
    have HL20 := Lib.hid hl20
    clear hl20
    clear hb8 hB
    by_cases hv4 : v % 16 = 4
    · have hbv : (((v : Int) % 16) != 4) = false := by simp; omega
      clear hv4
      go_wp2_with fail
      have hst := ownb_store hown8 0 (68)
      have hB9 : Below w.heap.size w (w8.setCell ⟨g8, 0, none⟩ (.int .u8 68)) := hB8.setCell (p := ⟨g8, 0, none⟩) hg8 _
      have hst9 : (w8.setCell ⟨g8, 0, none⟩ (.int .u8 68)).ownsRow w.heap.size 5 1 (.slice (some ⟨g8, 0, none⟩) n c8) n (bv (l.set 0 (68))) := hst
      have hW : Hid (whyP (l.set 0 (68)) = 3) := why_low HL20.out
      have hal9 : AllB (l.set 0 (68)) := AllB.set hall 0 _ (by omega)
      generalize w8.setCell ⟨g8, 0, none⟩ (.int .u8 68) = w9 at *
      clear hst
      refine (parse_any (some ⟨g8, 0, none⟩) n c8 w9.heap.size _ w9 (Reads.of_own hst9) (Nat.le_refl _) (by omega) (own_cap hst9) hal9).mono ?_
      rintro e w10 ⟨hret, hb10⟩
      obtain rfl := hret.no (by rw [hW.out]; omega)
      rw [hW.out]
      have hB10 := hB9.trans (hb10.mono hB9.size)
      have hB11 := hB10.alloc hB10.size (.cells #[.int .i64 0, .int .i64 0, .int .i64 0, .int .i64 0, .int .i64 0, .int .i64 0, .int .i64 0, .int .i64 0, .int .i64 0, .int .u32 0, .int .u32 0] 24)
      clear hret hst9 hal9
      unfold hd0 Hd.vals
      go_wp2_with fail
      refine (awake20_any _).mono ?_
      rintro e w12 ⟨rfl, hb12⟩
      go_wp2_with fail
      go_ret
      exact ⟨rfl, hB11.trans (hb12.mono hB11.size)⟩
    · have hbv : (((v : Int) % 16) != 4) = true := by simp; omega
      have hor : bits BinOp.or IntKind.u8 ((x0 : Int) % 16) ((v : Int) * 16 % 256) = ((v * 16 % 256 + x0 % 16 : Nat) : Int) := by
        have := u8_or_nat (x0 % 16) (v * 16 % 256) (by omega) (by omega)
        rw [Nat.or_comm, nat_join 4 (v * 16 % 256) (x0 % 16) (by omega) (by omega)] at this
        exact this
      have hy4 : (v * 16 % 256 + x0 % 16) / 16 ≠ 4 := by omega
      have HY4 := Lib.hid hy4
      have hyl : v * 16 % 256 + x0 % 16 < 256 := by omega
      obtain ⟨y, hy⟩ : ∃ y, y = v * 16 % 256 + x0 % 16 := ⟨_, rfl⟩
      rw [← hy] at hor HY4 hyl
      clear hv4 hy4 hy
      go_wp2_with fail
      clear hor
      have hst := ownb_store hown8 0 (y)
      have hB9 : Below w.heap.size w (w8.setCell ⟨g8, 0, none⟩ (.int .u8 (y : Int))) := hB8.setCell (p := ⟨g8, 0, none⟩) hg8 _
      have hst9 : (w8.setCell ⟨g8, 0, none⟩ (.int .u8 (y : Int))).ownsRow w.heap.size 5 1 (.slice (some ⟨g8, 0, none⟩) n c8) n (bv (l.set 0 (y))) := hst
      have hW : Hid (whyP (l.set 0 (y)) = 2) := why_other HL20.out HY4.out
      have hal9 : AllB (l.set 0 (y)) := AllB.set hall 0 _ (by omega)
      generalize w8.setCell ⟨g8, 0, none⟩ (.int .u8 (y : Int)) = w9 at *
      clear hst
      refine (parse_any (some ⟨g8, 0, none⟩) n c8 w9.heap.size _ w9 (Reads.of_own hst9) (Nat.le_refl _) (by omega) (own_cap hst9) hal9).mono ?_
      rintro e w10 ⟨hret, hb10⟩
      obtain rfl := hret.no (by rw [hW.out]; omega)
      rw [hW.out]
      have hB10 := hB9.trans (hb10.mono hB9.size)
      have hB11 := hB10.alloc hB10.size (.cells #[.int .i64 0, .int .i64 0, .int .i64 0, .int .i64 0, .int .i64 0, .int .i64 0, .int .i64 0, .int .i64 0, .int .i64 0, .int .u32 0, .int .u32 0] 24)
      clear hret hst9 hal9
      unfold hd0 Hd.vals
      go_wp2_with fail
      refine (awake20_any _).mono ?_
      rintro e w12 ⟨rfl, hb12⟩
      go_wp2_with fail
      go_ret
      exact ⟨rfl, hB11.trans (hb12.mono hB11.size)⟩
end Go.Proofs.Ytpgbldpppdmdoaa.ipOrder
