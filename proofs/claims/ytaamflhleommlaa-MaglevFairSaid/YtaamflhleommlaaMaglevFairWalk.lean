/- The walk of MaglevFair. -/
import Derived.Test.YtaamflhleommlaaFairC
import Derived.Test.YtaamflhleommlaaOpenInts
import Derived.Deep.CutBlock
import Derived.Deep.DeepCutAuto
namespace Go.Proofs.Ytaamflhleommlaa.maglevFair
set_option linter.unusedVariables false
set_option linter.unusedSimpArgs false
open Go.RowKit Go.Maps

def FRel (w wr : World) (v : Value) (l : List Be) (m7 : Nat) : Prop :=
  ∃ A7 c7, v = .slice A7 m7 c7 ∧ Hid (Rising l) ∧ wr.ownsRow w.heap.size 27 3 (.slice A7 m7 c7) m7 (bks l) ∧ Below w.heap.size w wr ∧ l.length = m7

def CRel (w wr : World) (v : Value) : Prop := ∃ l m7, FRel w wr v l m7 ∧ m7 ≤ 16

set_option maxHeartbeats 1000000 in
set_option maxRecDepth 100000 in
theorem lawWalk (A : Option Addr) (n c : Nat) (t : List Int) (A' : Option Addr) (n' c' : Nat) (u : List Int) (pick : Int) (w : World) (hi : IntsIn w A n c t) (hi' : IntsIn w A' n' c' u) (hp : -9223372036854775808 ≤ pick ∧ pick ≤ 9223372036854775807) :
    Calls Try.prog 3 #[.slice A n c, .slice A' n' c', .int .i64 pick] w fun e w' => e = .returned (.bool true) ∧ Below w.heap.size w w' := by
  have hr := hi.reads
  have ht := hi.ok
  have hr' := hi'.reads
  have hu := hi'.ok
  have hn : n ≤ 140737488351232 := by have := hi.le; have := hi.reach; omega
  have hn' : n' ≤ 140737488351232 := by have := hi'.le; have := hi'.reach; omega
  clear hi hi'
  go_enter Try.func3, Try.ntmps3
  go_upto_block 0 with fail
  go_cut [7] (fun v wx => CRel w wx v)
  case first =>
    go_wp2_with fail
    go_loopw [7, 8, 30] (fun v v8 i wr => ∃ (k m7 : Nat) (y : Int) (l : List Be), k ≤ n ∧ i = .int .i64 (k : Int) ∧ v8 = .int .i64 y ∧ -1 ≤ y ∧ y ≤ 65535 ∧ Hid (lastOf l = y) ∧ m7 ≤ 16 ∧ m7 ≤ k ∧ FRel w wr v l m7) (fun _ _ i _ => n - (intOf i).toNat)
    case atStart => exact ⟨0, 0, -1, [], Nat.zero_le _, rfl, rfl, by omega, by omega, rfl, by omega, Nat.le_refl _, none, 0, rfl, Rising.nil, World.ownsRow_nil _ _ _ _, Below.refl _ _, rfl⟩
    case round =>
      obtain ⟨k, m7, y, l, hk, rfl, rfl, hy1, hy2, hly, hm16, hmk, A7, c7, rfl, hris, hown, hbr, hlm⟩ := hrel
      have HX : Hid (CRel w wr (.slice A7 m7 c7)) := ⟨l, m7, ⟨A7, c7, rfl, hris, hown, hbr, hlm⟩, hm16⟩
      by_cases hkn : k < n
      · obtain ⟨b, off, hl, rfl, hc⟩ := (hr.below hbr).int_ hkn
        have hx := ht _ (List.getElem_mem hl)
        obtain ⟨j, hj, hje0⟩ := idx_rem t[k] 1000 (by omega)
        have hje : (IntKind.u64.wrap t[k]).tmod 1000 = (j : Int) := hje0
        clear hje0
        generalize t[k] = x at *
        by_cases h16 : 16 ≤ k
        · clear hown hlm
          go_wp2_with fail
          go_meet
          exact HX.out
        · by_cases h655 : 65535 < y + 1 + (j : Int)
          · clear hown hlm
            go_wp2_with fail
            go_meet
            exact HX.out
          · have hgo : ∀ (wt : Nat), 1 ≤ wt → wt ≤ 10 → Hid (lastOf (l ++ [(⟨y + 1 + (j : Int), 0, (wt : Int)⟩ : Be)]) = y + 1 + (j : Int) ∧ Rising (l ++ [(⟨y + 1 + (j : Int), 0, (wt : Int)⟩ : Be)])) := by
              intro wt h1 h2
              exact ⟨lastOf_snoc _ _, hris.out.snoc (by rw [hly.out]; show y < y + 1 + (j : Int); omega) (by show y + 1 + (j : Int) ≤ 65535; omega) (by show 0 ≤ y + 1 + (j : Int); omega) (by show (1 : Int) ≤ (wt : Int); omega) (by show (wt : Int) ≤ 10; omega) (by show 0 < 4294967296; omega)⟩
            obtain ⟨z, hz⟩ : ∃ z : Int, z = y + 1 + (j : Int) := ⟨_, rfl⟩
            clear HX
            by_cases hkn' : k < n'
            · obtain ⟨b', off', hl', rfl, hc'⟩ := (hr'.below hbr).int_ hkn'
              have hx' := hu _ (List.getElem_mem hl')
              obtain ⟨j', hj', hje0'⟩ := idx_rem u[k] 10 (by omega)
              have hje' : (IntKind.u64.wrap u[k]).tmod 10 = (j' : Int) := hje0'
              clear hje0'
              generalize u[k] = x' at *
              go_wp2_with (at_builtin; refine stop_ ?_)
              refine on_ ?_
              refine wpList_append_be (by rfl) _ _ rfl w.heap.size _ m7 l rfl (hown.alloc _) (wr.heap.size + 1) (some ⟨wr.heap.size, 0, none⟩) 1 1 [⟨y + 1 + (j : Int), 0, ((1 + j' : Nat) : Int)⟩] rfl (reads_news _ _ _ _ 1 3 _ _ (by rfl) (by rfl) (by rfl) _ (by rfl)) (m7 + 1) rfl (by omega) (by have := hbr.size; simp; omega) ?_
              intro A8 c8 w8 hown8 hb8 _ _
              have HG := hgo (1 + j') (by omega) (by omega)
              have hB8 : Below w.heap.size w w8 := (hbr.alloc hbr.size _).trans hb8
              clear hown hr hr' hje hje'
              go_wp2_with fail
              go_roundw
              case rel => exact ⟨k + 1, m7 + 1, y + 1 + (j : Int), l ++ [⟨y + 1 + (j : Int), 0, ((1 + j' : Nat) : Int)⟩], by omega, by go_num, rfl, by omega, by omega, Lib.hid HG.out.1, by omega, by omega, A8, c8, rfl, Lib.hid HG.out.2, hown8, hB8, by simp [hlm]⟩
              case measure => simp [intOf]; omega
            · go_wp2_with (at_builtin; refine stop_ ?_)
              refine on_ ?_
              refine wpList_append_be (by rfl) _ _ rfl w.heap.size _ m7 l rfl (hown.alloc _) (wr.heap.size + 1) (some ⟨wr.heap.size, 0, none⟩) 1 1 [⟨y + 1 + (j : Int), 0, ((1 : Nat) : Int)⟩] rfl (reads_news _ _ _ _ 1 3 _ _ (by rfl) (by rfl) (by rfl) _ (by rfl)) (m7 + 1) rfl (by omega) (by have := hbr.size; simp; omega) ?_
              intro A8 c8 w8 hown8 hb8 _ _
              have HG := hgo 1 (by omega) (by omega)
              have hB8 : Below w.heap.size w w8 := (hbr.alloc hbr.size _).trans hb8
              clear hown hr hr' hje 
              go_wp2_with fail
              go_roundw
              case rel => exact ⟨k + 1, m7 + 1, y + 1 + (j : Int), l ++ [⟨y + 1 + (j : Int), 0, ((1 : Nat) : Int)⟩], by omega, by go_num, rfl, by omega, by omega, Lib.hid HG.out.1, by omega, by omega, A8, c8, rfl, Lib.hid HG.out.2, hown8, hB8, by simp [hlm]⟩
              case measure => simp [intOf]; omega
      · have hkk : k = n := by omega
        clear hown hlm
        go_wp2_with fail
        go_meet
        exact HX.out
  case rest =>
    obtain ⟨l, m7, ⟨A7, c7, rfl, hris, hown, hbr, hlm⟩, hm16⟩ := hcut
    obtain ⟨j, hj, hje0⟩ := idx_rem pick 6 (by omega)
    have hje : (IntKind.u64.wrap pick).tmod 6 = (j : Int) := hje0
    clear hje0
    obtain ⟨s, hss, hcell⟩ := cells6 3 7 13 61 127 251 j hj
    have hm : mayN s = true := may_primes (by omega)
    obtain ⟨h3, h251⟩ := may_bounds hm
    have hcn : (wc.alloc (.cells #[.int .i64 3, .int .i64 7, .int .i64 13, .int .i64 61, .int .i64 127, .int .i64 251] 28)).cell? ⟨wc.heap.size, j, none⟩ = some (.int .i64 (s : Int)) := by
      rw [(Blk.new wc 28 #[.int .i64 3, .int .i64 7, .int .i64 13, .int .i64 61, .int .i64 127, .int .i64 251]).cell j]
      exact hcell
    clear hcell hss
    have HT := Lib.hid (table_may A7 m7 c7 wc.heap.size s l (wc.alloc (.cells #[.int .i64 3, .int .i64 7, .int .i64 13, .int .i64 61, .int .i64 127, .int .i64 251] 28)) ((Reads.of_own hown).alloc (Nat.le_refl _) _) (by simp) hris.out.1 (by omega) (be_cap hown) hm)
    have HM := Lib.hid hm
    have HO := Lib.hid hown
    have HL := Lib.hid hlm
    clear hm hown hlm hr hr' ht hu
    go_wp2_with fail
    refine HT.out.mono ?_
    rintro e w1 ⟨A1, c1, rfl, hown1, hb1⟩
    have hB1 : Below w.heap.size w w1 := (hbr.alloc hbr.size _).trans (hb1.mono (by have := hbr.size; simp; omega))
    have hs1 := hB1.size
    have hO1 := own_below (own_below HO.out ((Below.refl _ _).alloc (Nat.le_refl _) (.cells #[.int .i64 3, .int .i64 7, .int .i64 13, .int .i64 61, .int .i64 127, .int .i64 251] 28))) hb1
    have HO1 := Lib.hid hO1
    clear hO1 HO HT hcn hje hb1
    by_cases h0 : m7 = 0
    · have hl0 : l = [] := List.eq_nil_of_length_eq_zero (by rw [HL.out]; exact h0)
      subst hl0
      rw [fair_nil HM.out] at hown1
      obtain ⟨g1, hA1, _, _⟩ := own_head hown1 (by omega)
      subst hA1
      have hc0 := owni_cell hown1 0 (by omega) (by simp; omega)
      rw [List.getElem_replicate] at hc0
      have hsz := Lib.hid (fair_nil_size s)
      have hsh := shares_any (some ⟨g1, 0, none⟩) s c1 w1.heap.size (List.replicate s (-1)) w1 (Reads.of_own hown1) (Nat.le_refl _) (neg_ok s) (by omega)
      have HSH := Lib.hid hsh
      subst h0
      clear hsh hown1
      go_wp2_with fail
      refine HSH.out.mono ?_
      rintro e w2 ⟨rfl, hmap, hb2⟩
      have hB2 : Below w.heap.size w w2 := hB1.trans (hb2.mono hs1)
      have hc2 : w2.cell? ⟨g1, 0, none⟩ = some (.int .i64 (-1)) := by rw [hb2.cell (World.block_lt_of_cell? w1 _ hc0)]; exact hc0
      clear hc0 hb2
      go_wp2_with (at_len; refine wpList_len_own _ rfl (.tmp 87) _ rfl 3 3 infoM _ w1.heap.size s _ rfl hmap ?_; rw [hsz.out])
      go_wp2_with fail
      refine (awake18_any _).mono ?_
      rintro e w9 ⟨rfl, hb9⟩
      go_wp2_with fail
      go_ret
      exact ⟨rfl, hB2.trans (hb9.mono hB2.size)⟩
    · obtain ⟨all, R, hfo⟩ := fair_ok HM.out hris.out (by rw [HL.out]; omega) (by rw [HL.out]; omega)
      have HF := Lib.hid hfo
      have hsh := shares_any A1 s c1 w1.heap.size (tableF l s) w1 (Reads.of_own hown1) (Nat.le_refl _) hfo.ok (by omega)
      have HSH := Lib.hid hsh
      have hall1 := hfo.all1
      have hall2 := hfo.all2
      have hszl := hfo.size
      rw [HL.out] at hszl
      have hb0 : ((m7 : Int) == 0) = false := by simp; omega
      have hRq : ((s : Int) + (all : Int) - 1) / (all : Int) = (R : Int) := by
        rw [hfo.rnd, Int.natCast_ediv]
        congr 1
        omega
      have HR := Lib.hid hRq
      have hRle : R ≤ 410 := by
        rw [hfo.rnd]
        exact Nat.le_trans (Nat.div_le_self _ _) (by omega)
      have hR1 : 1 ≤ R := by
        rw [hfo.rnd]
        exact (Nat.one_le_div_iff (by omega)).2 (by omega)
      clear hfo hsh hown1 hRq
      go_wp2_with fail
      refine HSH.out.mono ?_
      rintro e w2 ⟨rfl, hmap, hb2⟩
      have hB2 : Below w.heap.size w w2 := hB1.trans (hb2.mono hs1)
      have hs2 := hB2.size
      have hO2 := Reads.of_own (own_below HO1.out hb2)
      clear hb2 HO1 HSH
      go_wp2_with fail
      have HOK := Lib.hid hris.out.2
      have hpos : 0 < m7 := by omega
      have HBE := Lib.hid (fun (wx : World) (hb : Below w2.heap.size w2 wx) (k : Nat) (hk : k < m7) => (hO2.below hb).be hk)
      have HMP := Lib.hid (fun (wx : World) (hb : Below w2.heap.size w2 wx) => ownsMap_below hmap hb)
      have HWI : Hid (∀ k (hk : k < l.length), l[k].weight = ((wAt l k : Nat) : Int) ∧ 1 ≤ wAt l k ∧ wAt l k ≤ 10 ∧ 0 ≤ idAt l k ∧ idAt l k ≤ 65535 ∧ l[k].id = idAt l k) := by
        intro k hk
        obtain ⟨_, a1, a2, a3, a4, _⟩ := HOK.out k hk
        have e1 := wAt_eq hk
        have e2 := idAt_eq hk
        exact ⟨by rw [e1]; omega, by rw [e1]; omega, by rw [e1]; omega, by rw [e2]; exact a1, by rw [e2]; exact a2, e2.symm⟩
      have HCL : Hid (∀ x, (tableF l s).count x ≤ s) := by
        intro x
        have := List.count_le_length (a := x) (l := tableF l s)
        rwa [HF.out.len] at this
      clear hmap hO2
      go_loopw [17, 18, 19, 101] (fun v17 v18 v19 i wr => ∃ k : Nat, k ≤ m7 ∧ i = .int .i64 (k : Int) ∧ v17 = .int .i64 ((sumTo (fun j => (tableF l s).count (idAt l j)) k : Nat) : Int) ∧ v18 = .int .i64 ((sumTo (wAt l) k : Nat) : Int) ∧ v19 = .bool (eqK l k) ∧ Below w2.heap.size w2 wr) (fun _ _ _ i _ => m7 - (intOf i).toNat)
      case atStart => exact ⟨0, Nat.zero_le _, rfl, rfl, rfl, rfl, Below.refl _ _⟩
      case round =>
        obtain ⟨k, hk, rfl, rfl, rfl, rfl, hbr2⟩ := hrel
        have hle1 := sumTo_mono (fun j => (tableF l s).count (idAt l j)) m7 k hk
        have hle2 := sumTo_mono (wAt l) m7 k hk
        have ht1 := HF.out.total
        have ht2 := HF.out.sum
        rw [HL.out] at ht1 ht2
        rw [ht1] at hle1
        rw [ht2] at hle2
        clear ht1 ht2
        by_cases hkm : k < m7
        · obtain ⟨b, off, hl, rfl, hc0, hc1, hc2⟩ := HBE.out wr hbr2 k hkm
          obtain ⟨b', off', hl0, e0, hc00, _, hc02⟩ := HBE.out wr hbr2 0 hpos
          cases e0
          obtain ⟨f1, f2, f3, f4, f5, f6⟩ := HWI.out k hl
          obtain ⟨g1, g2, g3, _⟩ := HWI.out 0 hl0
          have hsh := share_run (ownsMap_below (HMP.out wr hbr2) ((Below.refl _ _).alloc (Nat.le_refl _) (.cells #[.int .i64 l[k].id, .int .u32 (l[k].addr : Int), .int .i64 l[k].weight] 27))) HF.out.len f4 f5
          rw [← f6] at hsh
          have hcl := HCL.out l[k].id
          have H1 : Hid (sumTo (fun j => (tableF l s).count (idAt l j)) (k + 1) = sumTo (fun j => (tableF l s).count (idAt l j)) k + (tableF l s).count l[k].id) := by
            show _ = _
            simp only [sumTo, f6]
          have H2 : Hid (sumTo (wAt l) (k + 1) = sumTo (wAt l) k + wAt l k) := rfl
          have H3 : Hid (eqK l (k + 1) = (eqK l k && decide (wAt l k = wAt l 0))) := rfl
          rw [f1] at hc2 hsh
          rw [g1] at hc02
          have hc02' : wr.cell? ⟨b, off + 2, none⟩ = some (.int .i64 ((wAt l 0 : Nat) : Int)) := by
            simpa using hc02
          clear f1 g1 hc00 hc02 f6 f4 f5
          generalize sumTo (fun j => (tableF l s).count (idAt l j)) k = s1 at *
          generalize sumTo (wAt l) k = s2 at *
          generalize wAt l k = wk at *
          generalize wAt l 0 = w0 at *
          generalize l[k].id = x at *
          generalize l[k].addr = ad at *
          generalize (tableF l s).count x = q at *
          generalize eqK l k = ek at *
          have hbox : Below w2.heap.size w2 (wr.alloc (.cells #[.int .i64 x, .int .u32 (ad : Int), .int .i64 (wk : Int)] 27)) := hbr2.alloc hbr2.size _
          have hbk : Blk (wr.alloc (.cells #[.int .i64 x, .int .u32 (ad : Int), .int .i64 (wk : Int)] 27)) wr.heap.size 27 #[.int .i64 x, .int .u32 (ad : Int), .int .i64 (wk : Int)] := Blk.new _ _ _
          have hd0 := hbk.cell 0
          have hd2 := hbk.cell 2
          simp only [List.getElem?_toArray, List.getElem?_cons_zero, List.getElem?_cons_succ] at hd0 hd2
          have hd02 : (wr.alloc (.cells #[.int .i64 x, .int .u32 (ad : Int), .int .i64 (wk : Int)] 27)).cell? ⟨b, off + 2, none⟩ = some (.int .i64 (w0 : Int)) := by
            rw [World.cell?_alloc_lt _ _ _ (World.block_lt_of_cell? wr _ hc02')]; exact hc02'
          clear hbk hc02'
          go_wp2_with fail
          generalize wr.alloc (.cells #[.int .i64 x, .int .u32 (ad : Int), .int .i64 (wk : Int)] 27) = w3 at *
          cases ek
          · go_quiet (fail)
            go_wp2_with fail
            go_roundw
            case rel => exact ⟨k + 1, by omega, by go_num, by rw [H1.out]; go_num, by rw [H2.out]; go_num, by rw [H3.out]; rfl, hbox.trans ⟨rfl, rfl, rfl, Nat.le_refl _, fun _ _ => rfl⟩⟩
            case measure => simp [intOf]; omega
          · by_cases hw : wk = w0
            · have hbb : ((wk : Int) == (w0 : Int)) = true := by simp [hw]
              have H4 : Hid (eqK l (k + 1) = true) := by show _ = _; rw [H3.out, hw]; simp
              clear hw
              go_quiet (fail)
              go_wp2_with fail
              go_roundw
              case rel => exact ⟨k + 1, by omega, by go_num, by rw [H1.out]; go_num, by rw [H2.out]; go_num, by rw [H4.out], hbox.trans ⟨rfl, rfl, rfl, Nat.le_refl _, fun _ _ => rfl⟩⟩
              case measure => simp [intOf]; omega
            · have hbb : ((wk : Int) == (w0 : Int)) = false := by simp; omega
              have H4 : Hid (eqK l (k + 1) = false) := by show _ = _; rw [H3.out]; simp [hw]
              clear hw
              go_quiet (fail)
              go_wp2_with fail
              go_roundw
              case rel => exact ⟨k + 1, by omega, by go_num, by rw [H1.out]; go_num, by rw [H2.out]; go_num, by rw [H4.out], hbox.trans ⟨rfl, rfl, rfl, Nat.le_refl _, fun _ _ => rfl⟩⟩
              case measure => simp [intOf]; omega
        · have hkk : k = m7 := by omega
          have hE : Hid (eqK l l.length = eqK l k) := by show _ = _; rw [HL.out, hkk]
          have q1 : sumTo (fun j => (tableF l s).count (idAt l j)) k = s := by
            have := HF.out.total
            rw [HL.out] at this
            rw [hkk]; exact this
          have q2 : sumTo (wAt l) k = all := by
            have := HF.out.sum
            rw [HL.out] at this
            rw [hkk]; exact this
          rw [q1, q2]
          clear q1 q2 hkk hle1 hle2 hk
          have hmapr := HMP.out wr hbr2
          generalize eqK l k = ek at *
          go_wp2_with (at_len; refine wpList_len_want (by rfl) (.tmp 130) _ rfl 3 3 infoM _ w1.heap.size s _ rfl hmapr ?_)
          clear hmapr
          generalize Maps.size (shK (tableF l s) s) = sz at *
          go_wp2_with fail
          rw [HR.out]
          clear HR
          obtain ⟨wo, rfl⟩ : ∃ wo : World, wo = wr := ⟨_, rfl⟩
          go_loopw [144] (fun i wq => ∃ k : Nat, k ≤ m7 ∧ i = .int .i64 (k : Int) ∧ Below w2.heap.size w2 wq) (fun i _ => m7 - (intOf i).toNat)
          case atStart => exact ⟨0, Nat.zero_le _, rfl, hbr2⟩
          case round =>
            obtain ⟨k1, hk1, rfl, hbr3⟩ := hrel
            clear hbr2
            by_cases hkm : k1 < m7
            · obtain ⟨b, off, hl, rfl, hc0, hc1, hc2⟩ := HBE.out wr hbr3 k1 hkm
              obtain ⟨f1, f2, f3, f4, f5, f6⟩ := HWI.out k1 hl
              have hsh := share_run (ownsMap_below (HMP.out wr hbr3) ((Below.refl _ _).alloc (Nat.le_refl _) (.cells #[.int .i64 l[k1].id, .int .u32 (l[k1].addr : Int), .int .i64 l[k1].weight] 27))) HF.out.len f4 f5
              have heach := HF.out.each k1 hl
              have heq : Hid (ek = true → ∀ j, j < m7 → (tableF l s).count l[k1].id ≤ (tableF l s).count (idAt l j) + wAt l k1) := by
                intro h j hj
                have := HF.out.equal (hE.out.trans h) k1 j hl (by rw [HL.out]; exact hj)
                rw [f6]; exact this
              rw [← f6] at hsh heach
              have hcl := HCL.out l[k1].id
              rw [f1] at hc2 hsh
              clear f1 f6 f4 f5
              generalize wAt l k1 = wk at *
              generalize l[k1].id = x at *
              generalize l[k1].addr = ad at *
              generalize (tableF l s).count x = q at *
              obtain ⟨hea, heb⟩ := heach
              have hm1le : R * wk ≤ 410 * 10 := Nat.mul_le_mul hRle f3
              have hm2le : (R - 1) * wk ≤ 410 * 10 := Nat.mul_le_mul (by omega) f3
              have hmul1 : (R : Int) * (wk : Int) = ((R * wk : Nat) : Int) := (Int.natCast_mul R wk).symm
              have hmul2 : ((R : Int) - 1) * (wk : Int) = (((R - 1) * wk : Nat) : Int) := by
                rw [Int.natCast_mul, Int.natCast_sub hR1]; rfl
              generalize R * wk = p1 at *
              generalize (R - 1) * wk = p2 at *
              have hbox : Below w2.heap.size w2 (wr.alloc (.cells #[.int .i64 x, .int .u32 (ad : Int), .int .i64 (wk : Int)] 27)) := hbr3.alloc hbr3.size _
              have hbk : Blk (wr.alloc (.cells #[.int .i64 x, .int .u32 (ad : Int), .int .i64 (wk : Int)] 27)) wr.heap.size 27 #[.int .i64 x, .int .u32 (ad : Int), .int .i64 (wk : Int)] := Blk.new _ _ _
              have hd0 := hbk.cell 0
              have hd2 := hbk.cell 2
              simp only [List.getElem?_toArray, List.getElem?_cons_zero, List.getElem?_cons_succ] at hd0 hd2
              have dd1 : decide (p1 < q) = false := decide_eq_false (by omega)
              have dd2 : decide (q < p2) = false := decide_eq_false (by omega)
              have HC := Lib.hid (And.intro hea heb)
              clear hea heb
              go_wp2_with fail
              generalize wr.alloc (.cells #[.int .i64 x, .int .u32 (ad : Int), .int .i64 (wk : Int)] 27) = w3 at *
              clear dd1 dd2 hmul1 hmul2 hsh hd0 hd2 hc0 hc1 hc2
              obtain ⟨gb, hgb⟩ : ∃ gb, gb = wr.heap.size := ⟨_, rfl⟩
              rw [← hgb] at hbk ⊢
              clear hgb
              obtain ⟨wo2, rfl⟩ : ∃ wo2 : World, wo2 = wr := ⟨_, rfl⟩
              go_loopw [169] (fun i wz => ∃ k : Nat, k ≤ m7 ∧ i = .int .i64 (k : Int) ∧ Below w2.heap.size w2 wz ∧ Blk wz gb 27 #[.int .i64 x, .int .u32 (ad : Int), .int .i64 (wk : Int)]) (fun i _ => m7 - (intOf i).toNat)
              case atStart => exact ⟨0, Nat.zero_le _, rfl, hbox, hbk⟩
              case round =>
                obtain ⟨k2, hk2, rfl, hbr4, hbk4⟩ := hrel
                clear hbox hbk
                by_cases hkm2 : k2 < m7
                · obtain ⟨b', off', hl2, e2, hc0, hc1, hc2⟩ := HBE.out wr hbr4 k2 hkm2
                  cases e2
                  obtain ⟨f1, _, _, f4, f5, f6⟩ := HWI.out k2 hl2
                  have hsh := share_run (ownsMap_below (HMP.out wr hbr4) ((Below.refl _ _).alloc (Nat.le_refl _) (.cells #[.int .i64 l[k2].id, .int .u32 (l[k2].addr : Int), .int .i64 l[k2].weight] 27))) HF.out.len f4 f5
                  rw [← f6] at hsh
                  have hq2 : Hid (ek = true → q ≤ (tableF l s).count l[k2].id + wk) := fun h => by rw [f6]; exact heq.out h k2 hkm2
                  have hcl2 := HCL.out l[k2].id
                  clear f1 f6 f4 f5
                  generalize l[k2].id = x2 at *
                  generalize l[k2].addr = ad2 at *
                  generalize l[k2].weight = wk2 at *
                  generalize (tableF l s).count x2 = qq at *
                  have hbox2 : Below w2.heap.size w2 (wr.alloc (.cells #[.int .i64 x2, .int .u32 (ad2 : Int), .int .i64 wk2] 27)) := hbr4.alloc hbr4.size _
                  have hbk2 : Blk (wr.alloc (.cells #[.int .i64 x2, .int .u32 (ad2 : Int), .int .i64 wk2] 27)) wr.heap.size 27 #[.int .i64 x2, .int .u32 (ad2 : Int), .int .i64 wk2] := Blk.new _ _ _
                  have hbk1 := hbk4.alloc (.cells #[.int .i64 x2, .int .u32 (ad2 : Int), .int .i64 wk2] 27)
                  have hd0 := hbk2.cell 0
                  have hd2 := hbk1.cell 2
                  simp only [List.getElem?_toArray, List.getElem?_cons_zero, List.getElem?_cons_succ] at hd0 hd2
                  clear hbk2
                  cases ek
                  · go_wp2_with fail
                    go_roundw
                    case rel => exact ⟨k2 + 1, by omega, by go_num, hbox2, hbk1⟩
                    case measure => simp [intOf]; omega
                  · have hqw := hq2.out rfl
                    go_wp2_with fail
                    go_roundw
                    case rel => exact ⟨k2 + 1, by omega, by go_num, hbox2, hbk1⟩
                    case measure => simp [intOf]; omega
                · clear hk2
                  go_wp2_with fail
                  go_roundw
                  case rel => exact ⟨k1 + 1, by omega, by go_num, hbr4⟩
                  case measure => simp [intOf]; omega
            · clear hk1
              go_wp2_with fail
              refine (awake18_any _).mono ?_
              rintro e w9 ⟨rfl, hb9⟩
              go_wp2_with fail
              go_ret
              have hB3 := hB2.trans (hbr3.mono hs2)
              exact ⟨rfl, hB3.trans (hb9.mono hB3.size)⟩
end Go.Proofs.Ytaamflhleommlaa.maglevFair
