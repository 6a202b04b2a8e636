/- The walk of MaglevOwn. -/
import Derived.Test.YtaamflhleommlaaBeMay
namespace Go.Proofs.Ytaamflhleommlaa.maglevOwn
set_option linter.unusedVariables false
set_option linter.unusedSimpArgs false
open Go.RowKit

def xorB (x : Nat) (b : Be) : Be := ⟨b.id, b.addr ^^^ x, b.weight⟩

set_option maxHeartbeats 1000000 in
set_option maxRecDepth 100000 in
theorem lawWalk (A : Option Addr) (n c : Nat) (l : List Be) (x : Nat) (pick : Int) (w : World) (hi : BesIn w A n c l) (hx : x < 4294967296) (hp : -9223372036854775808 ≤ pick ∧ pick ≤ 9223372036854775807) :
    Calls Try.prog 4 #[.slice A n c, .int .u32 x, .int .i64 pick] w fun e w' => e = .returned (.bool true) ∧ Below w.heap.size w w' := by
  have hr := hi.reads
  have hok := hi.ok
  have hn : n ≤ 46912496118442 := by have := hi.le; have := hi.reach; omega
  have hnc := hi.le
  have hlen := Lib.hid hr.be_length
  clear hi
  by_cases h16 : 16 < n
  · go_enter Try.func4, Try.ntmps4
    go_wp2_with fail
    refine (awake18_any _).mono ?_
    rintro e w9 ⟨rfl, hb9⟩
    go_wp2_with fail
    go_ret
    exact ⟨rfl, hb9⟩
  obtain ⟨j, hj, hje0⟩ := idx_rem pick 4 (by omega)
  have hje : (IntKind.u64.wrap pick).tmod 4 = (j : Int) := hje0
  clear hje0
  obtain ⟨s, hss, hcell⟩ := cells4 3 7 13 61 j hj
  have hm : mayN s = true := may_primes (by omega)
  obtain ⟨h3, h251⟩ := may_bounds hm
  have hcn : (w.alloc (.cells #[.int .i64 3, .int .i64 7, .int .i64 13, .int .i64 61] 34)).cell? ⟨w.heap.size, j, none⟩ = some (.int .i64 (s : Int)) := by
    rw [(Blk.new w 34 #[.int .i64 3, .int .i64 7, .int .i64 13, .int .i64 61]).cell j]
    exact hcell
  have hbw : Below w.heap.size w (w.alloc (.cells #[.int .i64 3, .int .i64 7, .int .i64 13, .int .i64 61] 34)) := (Below.refl _ _).alloc (Nat.le_refl _) _
  have HM := Lib.hid hm
  have hd16 : decide ((16 : Int) < (n : Int)) = false := decide_eq_false (by omega)
  clear hcell hss hm
  go_enter Try.func4, Try.ntmps4
  go_wp2_with fail
  go_loopw [9, 30] (fun v i wr => ∃ (k : Nat) (A9 : Option Addr) (c9 : Nat), k ≤ n ∧ i = .int .i64 (k : Int) ∧ v = .slice A9 k c9 ∧ wr.ownsRow w.heap.size 27 3 (.slice A9 k c9) k (bks ((l.take k).map (xorB x))) ∧ Below w.heap.size w wr) (fun _ i _ => n - (intOf i).toNat)
  case atStart => exact ⟨0, none, 0, Nat.zero_le _, rfl, rfl, World.ownsRow_nil _ _ _ _, hbw⟩
  case round =>
    obtain ⟨k, A9, c9, hk, rfl, rfl, hown, hbr⟩ := hrel
    clear hcn hbw
    by_cases hkn : k < n
    · obtain ⟨b, off, hl, rfl, hc0, hc1, hc2⟩ := (hr.below hbr).be hkn
      have hbl := hok _ (List.getElem_mem hl)
      have HT : Hid ((l.take (k + 1)).map (xorB x) = (l.take k).map (xorB x) ++ [⟨l[k].id, l[k].addr ^^^ x, l[k].weight⟩]) := by
        show _ = _
        rw [List.take_succ_eq_append_getElem hl, List.map_append]
        rfl
      generalize (l.take k).map (xorB x) = m9 at *
      generalize l[k].id = y at *
      generalize l[k].addr = ad at *
      generalize l[k].weight = wt at *
      have hxor := u32_xor_nat ad x (by omega) hx
      generalize ad ^^^ x = ax at *
      go_wp2_with (at_builtin; refine stop_ ?_)
      refine on_ ?_
      refine wpList_append_be (by rfl) _ _ rfl w.heap.size _ k m9 rfl ((hown.alloc _).alloc _) (wr.heap.size + 2) (some ⟨wr.heap.size + 1, 0, none⟩) 1 1 [⟨y, ax, wt⟩] rfl (reads_news _ _ _ _ 1 3 _ _ (by rfl) (by simp) (by simp) _ (by rfl)) (k + 1) rfl (by omega) (by have := hbr.size; simp; omega) ?_
      intro A8 c8 w8 hown8 hb8 _ _
      have hB8 : Below w.heap.size w w8 := ((hbr.alloc hbr.size _).alloc (by have := hbr.size; simp; omega) _).trans hb8
      clear hown hje hxor
      go_wp2_with fail
      go_roundw
      case rel => exact ⟨k + 1, A8, c8, by omega, by go_num, rfl, by rw [HT.out]; exact hown8, hB8⟩
      case measure => simp [intOf]; omega
    · have hkk : k = n := by omega
      have HT : Hid ((l.take k).map (xorB x) = l.map (xorB x)) := by
        show _ = _
        rw [hkk, List.take_of_length_le (by rw [hlen.out]; exact Nat.le_refl _)]
      rw [HT.out] at hown
      have HE : Hid (tableF (l.map (xorB x)) s = tableF l s) := tableF_map (xorB x) (fun _ => rfl) (fun _ => rfl) s
      have hokx : BesOk (l.map (xorB x)) := by
        intro b hb
        obtain ⟨y, hy, rfl⟩ := List.mem_map.1 hb
        obtain ⟨a1, a2, a3⟩ := hok y hy
        exact ⟨a1, Nat.xor_lt_two_pow (n := 32) (by omega) (by omega), a3⟩
      have hsz := hbr.size
      have C1 := Lib.hid (table_may A n c w.heap.size s l wr (hr.below hbr) hsz hok hn hnc HM.out)
      have HO := Lib.hid hown
      have hk16 : k ≤ 16 := by omega
      clear hown hje hk hkk HT
      go_wp2_with fail
      refine C1.out.mono ?_
      rintro e w1 ⟨A1, c1, rfl, hown1, hb1⟩
      have hB1 := hbr.trans (hb1.mono hsz)
      have hs1 := hb1.size
      have hs1' := hB1.size
      have hO1 := own_below HO.out hb1
      have C2 := Lib.hid (table_may A9 k c9 w1.heap.size s (l.map (xorB x)) w1 (Reads.of_own hO1) (Nat.le_refl _) hokx (by omega) (be_cap hO1) HM.out)
      rw [HE.out] at C2
      clear hb1 C1 HO hO1
      go_wp2_with fail
      refine C2.out.mono ?_
      rintro e w2 ⟨A2, c2, rfl, hown2, hb2⟩
      have hown1' := own_below hown1 hb2
      have hB2 := hB1.trans (hb2.mono hs1')
      have hs2 := hB2.size
      have C3 := Lib.hid (ints_any A1 A2 s c1 s c2 w2.heap.size (tableF l s) (tableF l s) w2 (Reads.of_own hown1') (Reads.of_own hown2) (Nat.le_refl _) (by omega))
      rw [decide_eq_true rfl] at C3
      clear hb2 C2 hown1 hown1' hown2
      go_wp2_with fail
      refine C3.out.mono ?_
      rintro e w3 ⟨rfl, hb3⟩
      have hB3 := hB2.trans (hb3.mono hs2)
      clear hb3 C3 HE
      go_wp2_with fail
      obtain ⟨wo, rfl⟩ : ∃ wo : World, wo = wr := ⟨_, rfl⟩
      go_loopw [54] (fun i wq => ∃ k : Nat, k ≤ n ∧ i = .int .i64 (k : Int) ∧ Below w.heap.size w wq) (fun i _ => n - (intOf i).toNat)
      case atStart => exact ⟨0, Nat.zero_le _, rfl, hB3⟩
      case round =>
        obtain ⟨k2, hk2, rfl, hbq⟩ := hrel
        clear hB3 hB2 hB1 hbr hs2 hs1 hs1' hsz
        by_cases hkn2 : k2 < n
        · obtain ⟨b, off, hl, rfl, hc0, hc1, hc2⟩ := (hr.below hbq).be hkn2
          have hbl := hok _ (List.getElem_mem hl)
          generalize l[k2].id = y at *
          generalize l[k2].addr = ad at *
          generalize l[k2].weight = wt at *
          have hbox : Below w.heap.size w (wr.alloc (.cells #[.int .i64 y, .int .u32 (ad : Int), .int .i64 wt] 27)) := hbq.alloc hbq.size _
          have hbk : Blk (wr.alloc (.cells #[.int .i64 y, .int .u32 (ad : Int), .int .i64 wt] 27)) wr.heap.size 27 #[.int .i64 y, .int .u32 (ad : Int), .int .i64 wt] := Blk.new _ _ _
          go_wp2_with fail
          refine (mayBackend_any y ad wt _).mono ?_
          rintro e w4 ⟨rfl, hb4⟩
          have hB4 := hbox.trans (hb4.mono (by have := hbq.size; simp; omega))
          have hbk4 := hbk.below hb4 (by simp)
          clear hb4 hbox hbk
          obtain ⟨gb, hgb⟩ : ∃ gb, gb = wr.heap.size := ⟨_, rfl⟩
          rw [← hgb] at hbk4 ⊢
          clear hgb hc0 hc1 hc2
          have hd0 := hbk4.cell 0
          have hd1 := hbk4.cell 1
          have hd2 := hbk4.cell 2
          simp only [List.getElem?_toArray, List.getElem?_cons_zero, List.getElem?_cons_succ] at hd0 hd1 hd2
          cases hokb : okB ⟨y, ad, wt⟩
          · clear hokb
            go_wp2_with fail
            go_roundw
            case rel => exact ⟨k2 + 1, by omega, by go_num, hB4⟩
            case measure => simp [intOf]; omega
          · have H1 := Lib.hid (table_one HM.out hokb)
            have hs4 := hB4.size
            have C4 := Lib.hid (table_may (some ⟨w4.heap.size, 0, none⟩) 1 1 (w4.heap.size + 1) s [⟨y, ad, wt⟩] (w4.alloc (.cells #[.int .i64 y, .int .u32 (ad : Int), .int .i64 wt] 27)) (reads_news _ _ _ _ 1 3 _ _ (by rfl) (by rfl) (by rfl) _ (by rfl)) (by simp) (by intro b hb; simp at hb; subst hb; exact hbl) (by omega) (by omega) HM.out)
            clear hokb
            go_wp2_with fail
            refine C4.out.mono ?_
            rintro e w5 ⟨A5, c5, rfl, hown5, hb5⟩
            have hB5 := (hB4.alloc hs4 _).trans (hb5.mono (by simp; omega))
            have hbk5 := (hbk4.alloc (.cells #[.int .i64 y, .int .u32 (ad : Int), .int .i64 wt] 27)).below hb5 (by have := hbk4.lt; simp; omega)
            clear hb5 C4 hbk4 hd0 hd1 hd2
            have hr5 := Reads.of_own hown5
            obtain ⟨T, hT⟩ : ∃ T, T = tableF [⟨y, ad, wt⟩] s := ⟨_, rfl⟩
            rw [← hT] at hr5 H1
            clear hown5 hT
            go_wp2_with fail
            obtain ⟨wo2, rfl⟩ : ∃ wo2 : World, wo2 = wr := ⟨_, rfl⟩
            go_loopw [71] (fun i wz => ∃ k : Nat, k ≤ s ∧ i = .int .i64 (k : Int) ∧ Below w.heap.size w wz ∧ Below w5.heap.size w5 wz) (fun i _ => s - (intOf i).toNat)
            case atStart => exact ⟨0, Nat.zero_le _, rfl, hB5, Below.refl _ _⟩
            case round =>
              obtain ⟨k3, hk3, rfl, hB6, hb6⟩ := hrel
              by_cases hks : k3 < s
              · obtain ⟨b', off', hl', rfl, hc'⟩ := (hr5.below hb6).int_ hks
                have hx5 : T[k3] = y := H1.out.2 _ (List.getElem_mem hl')
                rw [hx5] at hc'
                have hd0 := (hbk5.below hb6 hbk5.lt).cell 0
                simp only [List.getElem?_toArray, List.getElem?_cons_zero] at hd0
                clear hx5
                go_wp2_with fail
                go_roundw
                case rel => exact ⟨k3 + 1, by omega, by go_num, hB6, hb6⟩
                case measure => simp [intOf]; omega
              · clear hk3
                go_wp2_with fail
                go_roundw
                case rel => exact ⟨k2 + 1, by omega, by go_num, hB6⟩
                case measure => simp [intOf]; omega
        · clear hk2
          go_wp2_with fail
          refine (awake18_any _).mono ?_
          rintro e w9 ⟨rfl, hb9⟩
          go_wp2_with fail
          go_ret
          exact ⟨rfl, hbq.trans (hb9.mono hbq.size)⟩
end Go.Proofs.Ytaamflhleommlaa.maglevOwn
