/- The walk of IpBehind. -/
import Derived.Test.YtpgbldpppdmdoaaIpAwake
import Derived.Test.YtpgbldpppdmdoaaIpLaws
import Derived.Test.YtpgbldpppdmdoaaOpenHd
namespace Go.Proofs.Ytpgbldpppdmdoaa.ipBehind
set_option linter.unusedVariables false
set_option linter.unusedSimpArgs false
open Go.RowKit

set_option maxHeartbeats 4000000 in
set_option maxRecDepth 100000 in
theorem lawWalk (h : Hd) (A : Option Addr) (n c : Nat) (l : List Nat) (A' : Option Addr) (n' c' : Nat) (m : List Nat) (w : World) (hok : HdOk h) (hi : BytesIn w A n c l) (hi' : BytesIn w A' n' c' m) :
    Calls Try.prog 5 #[.agg h.vals, .slice A n c, .slice A' n' c'] w fun e w' => e = .returned (.bool true) ∧ Below w.heap.size w w' := by
  have hr := hi.reads
  have hnc := hi.le
  have hall := hi.all
  have hr' := hi'.reads
  have hnc' := hi'.le
  have hall' := hi'.all
  have hlen := hr.length
  have hlen' := hr'.length
  have hre := hi.reach
  have hre' := hi'.reach
  clear hi hi'
  obtain ⟨ihl, tos, len, id, flags, off, ttl, proto, sum, src, dst⟩ := h
  by_cases h5 : 500 < n
  · unfold Hd.vals
    dsimp only
    go_enter Try.func5, Try.ntmps5
    go_wp2_with fail
    refine (awake20_any _).mono ?_
    rintro e w9 ⟨rfl, hb9⟩
    go_wp2_with fail
    go_ret
    have hB0 := (Below.refl w.heap.size w).alloc (Nat.le_refl _) (.cells #[.int .i64 ihl, .int .i64 tos, .int .i64 len, .int .i64 id, .int .i64 flags, .int .i64 off, .int .i64 ttl, .int .i64 proto, .int .i64 sum, .int .u32 (src : Int), .int .u32 (dst : Int)] 24)
    exact ⟨rfl, hB0.trans (hb9.mono hB0.size)⟩
  have hd5 : decide ((500 : Int) < (n : Int)) = false := decide_eq_false (by omega)
  by_cases h2 : 200 < n'
  · unfold Hd.vals
    dsimp only
    go_enter Try.func5, Try.ntmps5
    go_wp2_with fail
    refine (awake20_any _).mono ?_
    rintro e w9 ⟨rfl, hb9⟩
    go_wp2_with fail
    go_ret
    have hB0 := (Below.refl w.heap.size w).alloc (Nat.le_refl _) (.cells #[.int .i64 ihl, .int .i64 tos, .int .i64 len, .int .i64 id, .int .i64 flags, .int .i64 off, .int .i64 ttl, .int .i64 proto, .int .i64 sum, .int .u32 (src : Int), .int .u32 (dst : Int)] 24)
    exact ⟨rfl, hB0.trans (hb9.mono hB0.size)⟩
  have hd2 : decide ((200 : Int) < (n' : Int)) = false := decide_eq_false (by omega)
  have hok2 : HdOk ⟨ihl, tos, 20 + (n : Int), id, flags, off, ttl, proto, sum, src, dst⟩ := ⟨hok.ihl, hok.tos, by show (-9223372036854775808 : Int) ≤ 20 + (n : Int) ∧ 20 + (n : Int) ≤ 9223372036854775807; omega, hok.id, hok.flags, hok.off, hok.ttl, hok.proto, hok.sum, hok.src, hok.dst⟩
  have CB := Lib.hid (fun w' => build_any _ w' hok2)
  obtain ⟨D, hD⟩ : ∃ D, D = buildB ⟨ihl, tos, 20 + (n : Int), id, flags, off, ttl, proto, sum, src, dst⟩ := ⟨_, rfl⟩
  have hLn : u64n (20 + (n : Int)) % 65536 = 20 + n := by unfold u64n; omega
  have W1 : Hid (∀ r : List Nat, whyP (D ++ r) = if 20 + r.length < 20 + n then 5 else 0) := fun r => by rw [hD, why_build _ r (by show 20 ≤ u64n (20 + (n : Int)) % 65536; omega)]; show (if 20 + r.length < u64n (20 + (n : Int)) % 65536 then 5 else 0) = _; rw [hLn]
  have W2 : Hid (∀ r : List Nat, bodyP (D ++ r) = r.take n) := fun r => by rw [hD]; exact body_build _ r n hLn
  have W3 : Hid (∀ r : List Nat, lenP (D ++ r) - 4 * ihlP (D ++ r) = n) := fun r => by
    rw [hD, build_len, build_ihl]
    show u64n (20 + (n : Int)) % 65536 - 4 * 5 = n
    omega
  have hDl : D.length = 20 := by rw [hD]; exact buildB_length _
  have hDa : AllB D := by rw [hD]; exact buildB_all _
  have W4 : Hid (∀ r : List Nat, hdP (D ++ r) = hdP D) := fun r => hdP_append r (by omega)
  obtain ⟨yv, y0, y1, y2, y3, y4, y5, y6, y7, y8, y9, y10, _, _, _, hvals, _, _, _⟩ := hd_names D hDa
  have HY := Lib.hid hvals
  have HA := Lib.hid (And.intro (And.intro hall hall') (And.intro hDa (And.intro hDl (And.intro hlen hlen'))))
  rw [← hD] at CB
  have HR := Lib.hid (And.intro hr hr')
  clear hD hLn hok hok2 hvals hr hr' hall hall' hDa hDl hlen hlen'
  unfold Hd.vals at CB ⊢
  dsimp only at CB ⊢
  go_enter Try.func5, Try.ntmps5
  go_wp2_with fail
  have hB0 := (Below.refl w.heap.size w).alloc (Nat.le_refl _) (.cells #[.int .i64 ihl, .int .i64 tos, .int .i64 (20 + (n : Int)), .int .i64 id, .int .i64 flags, .int .i64 off, .int .i64 ttl, .int .i64 proto, .int .i64 sum, .int .u32 (src : Int), .int .u32 (dst : Int)] 24)
  generalize w.alloc (.cells #[.int .i64 ihl, .int .i64 tos, .int .i64 (20 + (n : Int)), .int .i64 id, .int .i64 flags, .int .i64 off, .int .i64 ttl, .int .i64 proto, .int .i64 sum, .int .u32 (src : Int), .int .u32 (dst : Int)] 24) = v0 at *
  refine (CB.out v0).mono ?_
  rintro e w1 ⟨A1, c1, rfl, hown1, hb1⟩
  have hB1 := hB0.trans (hb1.mono hB0.size)
  have hs1 := hB1.size
  go_wp2_with (at_builtin; refine stop_ ?_)
  refine on_ ?_
  refine wpList_append_b rfl (.tmp 31) (.tmp 32) _ rfl 5 infoB Try.underlying25 v0.heap.size (.slice A1 20 c1) 20 D rfl hown1 w1.heap.size A n c l rfl ((HR.out.1.below hB1).more hs1) (20 + n) rfl (by omega) hb1.size ?_
  intro A2 c2 w2 hown2 hb2 _ _
  have hB2 := hB1.trans (hb2.mono hB0.size)
  have hs2 := hB2.size
  have hD1 := Lib.hid (HA.out.2.1.append HA.out.1.1)
  have P1 := Lib.hid (parse_any A2 (20 + n) c2 w2.heap.size (D ++ l) w2 (Reads.of_own hown2) (Nat.le_refl _) (by omega) (own_cap hown2) hD1.out)
  have hO2 := Lib.hid (own_lower hown2 hB0.size)
  have hc2 := own_cap hown2
  clear hb1 hb2 hown1 hown2 CB
  go_wp2_with fail
  refine P1.out.mono ?_
  rintro e w3 ⟨hret, hb3⟩
  obtain ⟨A3, c3, rfl, hown3⟩ := hret.yes (by rw [W1.out l, if_neg (by have := HA.out.2.2.2.1; omega)])
  rw [W3.out l] at hown3 ⊢
  rw [W4.out l, HY.out]
  rw [W2.out l, List.take_of_length_le (by rw [HA.out.2.2.2.1]; exact Nat.le_refl _)] at hown3
  have hB3 := hB2.trans (hb3.mono hs2)
  have hs3 := hB3.size
  have hO3 := Lib.hid (own_below hO2.out hb3)
  have hO4 := Lib.hid (own_lower hown3 hs2)
  clear hret hb3 P1 hown3 hO2
  go_wp2_with (at_builtin; refine stop_ ?_)
  refine on_ ?_
  have hbh4 := Blk.new w3 24 #[.int .i64 (y0 : Int), .int .i64 (y1 : Int), .int .i64 (y2 : Int), .int .i64 (y3 : Int), .int .i64 (y4 : Int), .int .i64 (y5 : Int), .int .i64 (y6 : Int), .int .i64 (y7 : Int), .int .i64 (y8 : Int), .int .u32 (y9 : Int), .int .u32 (y10 : Int)]
  have hB4 := hB3.alloc hs3 (.cells #[.int .i64 (y0 : Int), .int .i64 (y1 : Int), .int .i64 (y2 : Int), .int .i64 (y3 : Int), .int .i64 (y4 : Int), .int .i64 (y5 : Int), .int .i64 (y6 : Int), .int .i64 (y7 : Int), .int .i64 (y8 : Int), .int .u32 (y9 : Int), .int .u32 (y10 : Int)] 24)
  have hO3' := hO3.out.alloc (.cells #[.int .i64 (y0 : Int), .int .i64 (y1 : Int), .int .i64 (y2 : Int), .int .i64 (y3 : Int), .int .i64 (y4 : Int), .int .i64 (y5 : Int), .int .i64 (y6 : Int), .int .i64 (y7 : Int), .int .i64 (y8 : Int), .int .u32 (y9 : Int), .int .u32 (y10 : Int)] 24)
  have hO4' := Lib.hid (hO4.out.alloc (.cells #[.int .i64 (y0 : Int), .int .i64 (y1 : Int), .int .i64 (y2 : Int), .int .i64 (y3 : Int), .int .i64 (y4 : Int), .int .i64 (y5 : Int), .int .i64 (y6 : Int), .int .i64 (y7 : Int), .int .i64 (y8 : Int), .int .u32 (y9 : Int), .int .u32 (y10 : Int)] 24))
  clear hO3 hO4
  have hw4 : w3.heap.size + 1 = (w3.alloc (.cells #[.int .i64 (y0 : Int), .int .i64 (y1 : Int), .int .i64 (y2 : Int), .int .i64 (y3 : Int), .int .i64 (y4 : Int), .int .i64 (y5 : Int), .int .i64 (y6 : Int), .int .i64 (y7 : Int), .int .i64 (y8 : Int), .int .u32 (y9 : Int), .int .u32 (y10 : Int)] 24)).heap.size := by simp
  generalize w3.alloc (.cells #[.int .i64 (y0 : Int), .int .i64 (y1 : Int), .int .i64 (y2 : Int), .int .i64 (y3 : Int), .int .i64 (y4 : Int), .int .i64 (y5 : Int), .int .i64 (y6 : Int), .int .i64 (y7 : Int), .int .i64 (y8 : Int), .int .u32 (y9 : Int), .int .u32 (y10 : Int)] 24) = w4 at *
  have HW4 := Lib.hid hw4
  clear hw4
  have hs4 := hB4.size
  have hlt4 := hbh4.lt
  refine wpList_append_b rfl (.tmp 41) (.tmp 42) _ rfl 5 infoB Try.underlying25 w4.heap.size (.slice (some ⟨w3.heap.size + 1, 0, none⟩) 0 0) 0 [] rfl
    (lit_own (cs := #[]) (Blk.new_ HW4.out) (by rw [HW4.out]; exact Nat.le_refl _) (by decide) rfl rfl) w4.heap.size A2 (20 + n) c2 (D ++ l) rfl ((Reads.of_own hO3').alloc (Nat.le_refl _) _) (20 + n) (by omega) (by omega) (by simp) ?_
  intro A5 c5 w5 hown5 hb5 _ _
  rw [List.nil_append] at hown5
  have hb45 : Below w4.heap.size w4 w5 := ((Below.refl _ _).alloc (Nat.le_refl _) _).trans hb5
  have hB5 := hB4.trans (hb45.mono hs4)
  have hs5 := hB5.size
  clear hb5
  go_wp2_with (at_builtin; refine stop_ ?_)
  refine on_ ?_
  refine wpList_append_b rfl (.tmp 43) (.tmp 44) _ rfl 5 infoB Try.underlying25 w4.heap.size (.slice A5 (20 + n) c5) (20 + n) (D ++ l) rfl hown5 w5.heap.size A' n' c' m rfl ((HR.out.2.below hB5).more hs5) (20 + n + n') rfl (by omega) hb45.size ?_
  intro A6 c6 w6 hown6 hb6 _ _
  have hb46 := hb45.trans hb6
  have hB6 := hB4.trans (hb46.mono hs4)
  have hs6 := hB6.size
  have hD6 := Lib.hid (hD1.out.append HA.out.1.2)
  have P6 := Lib.hid (parse_any A6 (20 + n + n') c6 w6.heap.size ((D ++ l) ++ m) w6 (Reads.of_own hown6) (Nat.le_refl _) (by omega) (own_cap hown6) hD6.out)
  have hb6' := Lib.hid hb46
  have hO3h := Lib.hid hO3'
  clear hb45 hb6 hb46 hown5 hown6 hB5 hs5 hO3'
  go_wp2_with fail
  refine P6.out.mono ?_
  rintro e w7 ⟨hret, hb7⟩
  rw [List.append_assoc] at hret
  obtain ⟨A7, c7, rfl, hown7⟩ := hret.yes (by rw [W1.out, if_neg (by have := HA.out.2.2.2.1; rw [List.length_append]; omega)])
  rw [W3.out] at hown7 ⊢
  rw [W4.out, HY.out]
  rw [W2.out, List.take_append_of_le_length (by rw [HA.out.2.2.2.1]; exact Nat.le_refl _), List.take_of_length_le (by rw [HA.out.2.2.2.1]; exact Nat.le_refl _)] at hown7
  have hB7 := hB6.trans (hb7.mono hs6)
  have hs7 := hB7.size
  have hb47 := hb6'.out.trans (hb7.mono hb6'.out.size)
  have hbh7 := hbh4.below hb47 hlt4
  have hO7 := own_below hO4'.out hb47
  have hO8 := Lib.hid (own_below hO3h.out hb47)
  have hbh8 := hbh7.alloc (.cells #[.int .i64 (y0 : Int), .int .i64 (y1 : Int), .int .i64 (y2 : Int), .int .i64 (y3 : Int), .int .i64 (y4 : Int), .int .i64 (y5 : Int), .int .i64 (y6 : Int), .int .i64 (y7 : Int), .int .i64 (y8 : Int), .int .u32 (y9 : Int), .int .u32 (y10 : Int)] 24)
  have S1 := fun T => run_string_back (P := Try.prog) (w := w7.alloc T) (c := c3) 25 9 5 Try.underlying25 Try.underlying5 Try.underlying9 ((Reads.of_own hO7).alloc (Nat.le_refl _) T) HA.out.1.1
  have S2 := fun T => run_string_back (P := Try.prog) (w := w7.alloc T) (c := c7) 25 9 5 Try.underlying25 Try.underlying5 Try.underlying9 ((Reads.of_own hown7).alloc (Nat.le_refl _) T) HA.out.1.1
  clear hret hb7 P6 hown7 hO7 hb6' hbh4 hbh7 hb47 hB6
  have he0 := hbh8.cell 0
  have he1 := hbh8.cell 1
  have he2 := hbh8.cell 2
  have he3 := hbh8.cell 3
  have he4 := hbh8.cell 4
  have he5 := hbh8.cell 5
  have he6 := hbh8.cell 6
  have he7 := hbh8.cell 7
  have he8 := hbh8.cell 8
  have he9 := hbh8.cell 9
  have he10 := hbh8.cell 10
  simp only [List.getElem?_toArray, List.getElem?_cons_zero, List.getElem?_cons_succ] at he0 he1 he2 he3 he4 he5 he6 he7 he8 he9 he10
  clear hbh8
  clear hO3h hO4'
  have hB8 := hB7.alloc hs7 (.cells #[.int .i64 (y0 : Int), .int .i64 (y1 : Int), .int .i64 (y2 : Int), .int .i64 (y3 : Int), .int .i64 (y4 : Int), .int .i64 (y5 : Int), .int .i64 (y6 : Int), .int .i64 (y7 : Int), .int .i64 (y8 : Int), .int .u32 (y9 : Int), .int .u32 (y10 : Int)] 24)
  have hs8 := hB8.size
  have PK := Lib.hid (fun (k : Nat) (hk : k ≤ 20 + n) => parse_any A2 k c2 (w7.alloc (.cells #[.int .i64 (y0 : Int), .int .i64 (y1 : Int), .int .i64 (y2 : Int), .int .i64 (y3 : Int), .int .i64 (y4 : Int), .int .i64 (y5 : Int), .int .i64 (y6 : Int), .int .i64 (y7 : Int), .int .i64 (y8 : Int), .int .u32 (y9 : Int), .int .u32 (y10 : Int)] 24)).heap.size ((D ++ l).take k) (w7.alloc (.cells #[.int .i64 (y0 : Int), .int .i64 (y1 : Int), .int .i64 (y2 : Int), .int .i64 (y3 : Int), .int .i64 (y4 : Int), .int .i64 (y5 : Int), .int .i64 (y6 : Int), .int .i64 (y7 : Int), .int .i64 (y8 : Int), .int .u32 (y9 : Int), .int .u32 (y10 : Int)] 24)) ((Reads.of_own (hO8.out.alloc (.cells #[.int .i64 (y0 : Int), .int .i64 (y1 : Int), .int .i64 (y2 : Int), .int .i64 (y3 : Int), .int .i64 (y4 : Int), .int .i64 (y5 : Int), .int .i64 (y6 : Int), .int .i64 (y7 : Int), .int .i64 (y8 : Int), .int .u32 (y9 : Int), .int .u32 (y10 : Int)] 24))).takeb hk) (Nat.le_refl _) (by omega) (by omega) (hD1.out.take k))
  clear hO8
  by_cases h0 : n ≤ 0
  · have hW : Hid ((D ++ l).take 20 = D ++ []) := by show _ = _; rw [List.take_append_of_le_length (by rw [HA.out.2.2.1]; exact Nat.le_refl _), List.take_of_length_le (by rw [HA.out.2.2.1]; exact Nat.le_refl _), List.append_nil]
    have P9 := Lib.hid (PK.out 20 (by omega))
    rw [hW.out] at P9
    have hdn : decide (0 < n) = false := decide_eq_false (by omega)
    have hdn2 : decide ((0 : Int) < (n : Int)) = false := decide_eq_false (by omega)
    clear PK
    go_wp2_with fail
    refine P9.out.mono ?_
    rintro e w9 ⟨hret, hb9⟩
    obtain ⟨A9, c9, rfl, _⟩ := hret.yes (by rw [W1.out, if_neg (by simp; omega)])
    rw [W3.out, W4.out, HY.out]
    have hB9 := hB8.trans (hb9.mono hs8)
    have hB10 := hB9.alloc hB9.size (.cells #[.int .i64 (y0 : Int), .int .i64 (y1 : Int), .int .i64 (y2 : Int), .int .i64 (y3 : Int), .int .i64 (y4 : Int), .int .i64 (y5 : Int), .int .i64 (y6 : Int), .int .i64 (y7 : Int), .int .i64 (y8 : Int), .int .u32 (y9 : Int), .int .u32 (y10 : Int)] 24)
    clear hret P9 S1 S2
    go_wp2_with fail
    refine (awake20_any _).mono ?_
    rintro e w11 ⟨rfl, hb11⟩
    go_wp2_with fail
    go_ret
    exact ⟨rfl, hB10.trans (hb11.mono hB10.size)⟩
  · have hW : Hid ((D ++ l).take (19 + n) = D ++ l.take (n - 1)) := by
      show _ = _
      rw [List.take_append, HA.out.2.2.1, List.take_of_length_le (by rw [HA.out.2.2.1]; omega)]
      congr 2
      omega
    have P9 := Lib.hid (PK.out (19 + n) (by omega))
    rw [hW.out] at P9
    have hW5 : Hid (whyP (D ++ l.take (n - 1)) = 5) := by
      show _ = _
      rw [W1.out, if_pos]
      rw [List.length_take, HA.out.2.2.2.1]
      omega
    clear PK
    go_wp2_with fail
    refine P9.out.mono ?_
    rintro e w9 ⟨hret, hb9⟩
    obtain rfl := hret.no (by rw [hW5.out]; omega)
    rw [hW5.out]
    have hB9 := hB8.trans (hb9.mono hs8)
    have hB10 := hB9.alloc hB9.size (.cells #[.int .i64 0, .int .i64 0, .int .i64 0, .int .i64 0, .int .i64 0, .int .i64 0, .int .i64 0, .int .i64 0, .int .i64 0, .int .u32 0, .int .u32 0] 24)
    clear hret P9 S1 S2
    unfold hd0 Hd.vals
    go_wp2_with fail
    refine (awake20_any _).mono ?_
    rintro e w11 ⟨rfl, hb11⟩
    go_wp2_with fail
    go_ret
    exact ⟨rfl, hB10.trans (hb11.mono hB10.size)⟩
end Go.Proofs.Ytpgbldpppdmdoaa.ipBehind
