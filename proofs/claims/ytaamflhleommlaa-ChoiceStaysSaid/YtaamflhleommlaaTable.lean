/- The walk of maglev.Table. -/
import Derived.Test.YtaamflhleommlaaTablePlain
import Derived.Test.YtaamflhleommlaaRowsIn
import Derived.Deep.LoopGhost
namespace Go.Proofs.Ytaamflhleommlaa
set_option linter.unusedVariables false
set_option linter.unusedSimpArgs false
open Go.RowKit

theorem infoI : (Try.prog.info? 3).map (fun i => (i.zero, i.size, i.bytes)) = some (some (.int .i64 0), 1, 8) := by kernel_rfl
theorem infoF : (Try.prog.info? 68).map (fun i => (i.zero, i.size, i.bytes)) = some (some .nilFunc, 1, 8) := by kernel_rfl

set_option maxHeartbeats 1000000 in
set_option maxRecDepth 100000 in
theorem table_may (A : Option Addr) (na ca B n : Nat) (l : List Be) (w : World) (hr : Reads w B 3 A na (bks l)) (hB : B ≤ w.heap.size) (hok : BesOk l) (hna : na ≤ 46912496118442) (hnc : na ≤ ca) (hm : mayN n = true) :
    Calls Try.prog 10 #[.slice A na ca, .int .i64 n] w fun e w' => ∃ A' c', e = .returned (.slice A' n c') ∧ w'.ownsRow w.heap.size 3 1 (.slice A' n c') n (iv (tableF l n)) ∧ Below w.heap.size w w' := by
  obtain ⟨h3, h251⟩ := may_bounds hm
  have HM := Lib.hid (may_any n (by omega))
  rw [hm] at HM
  obtain ⟨i0, hi, hz0, hz1, hz2⟩ := info_parts infoI
  have hlen := hr.be_length
  go_enter Try.func10, Try.ntmps10
  go_wp2_with (first | (at_make; refine stop_ ?_) | (go_at_call 29; refine (HM.out _).mono ?_; rintro e w' ⟨rfl, rfl⟩))
  refine on_ ?_
  refine wpList_make_full _ rfl _ _ 22 rfl w.heap.size 3 i0 _ 1 Try.underlying22 hi hz0 hz1 _ _ _ _ n rfl rfl rfl rfl (by rw [hz2]; omega) (by unfold maxLen; omega) (Nat.le_refl _) ?_
  intro w1 hown hg
  have hb1 : Below w.heap.size w w1 := (Below.refl _ _).grown hg (Nat.le_refl _) (by simp)
  have hown1 : w1.ownsRow w.heap.size 3 1 (.slice (some ⟨w.heap.size, 0, none⟩) n n) n (iv (List.replicate 0 (-1) ++ List.replicate (n - 0) 0)) := by
    have e : (madeCells (Value.int IntKind.i64 0).cells (n * 1)).toList = iv (List.replicate 0 (-1) ++ List.replicate (n - 0) 0) := by
      rw [Nat.mul_one]
      show (madeCells #[Value.int IntKind.i64 0] n).toList = _
      rw [toList_madeCells_one]
      simp [iv]
    rw [← e]
    exact hown
  clear hown hg
  go_wp2_with fail
  go_loopw [21] (fun i wr => ∃ k : Nat, k ≤ n ∧ i = .int .i64 (k : Int) ∧ wr.ownsRow w.heap.size 3 1 (.slice (some ⟨w.heap.size, 0, none⟩) n n) n (iv (List.replicate k (-1) ++ List.replicate (n - k) 0)) ∧ Below w.heap.size w wr) (fun i _ => n - (intOf i).toNat)
  case atStart => exact ⟨0, by omega, rfl, hown1, hb1⟩
  case round =>
    obtain ⟨k, hk, rfl, hown, hbr⟩ := hrel
    clear hown1 hb1
    by_cases hkn : k < n
    · have hl : (List.replicate k (-1 : Int) ++ List.replicate (n - k) 0).length = n := by simp; omega
      have hc := owni_cell hown k hkn (by rw [hl]; exact hkn)
      have hf := hown.frozenAt k
      generalize (List.replicate k (-1 : Int) ++ List.replicate (n - k) 0)[k] = x at hc
      have hset : Hid ((List.replicate k (-1 : Int) ++ List.replicate (n - k) 0).set k (-1) = List.replicate (k + 1) (-1) ++ List.replicate (n - (k + 1)) 0) := by
        show _ = _
        rw [List.set_append_right _ _ (by simp), List.length_replicate, Nat.sub_self, show n - k = (n - (k + 1)) + 1 from by omega, List.replicate_succ, List.set_cons_zero, List.replicate_succ' (n := k), List.append_assoc]
        rfl
      go_wp2_with fail
      go_roundw
      case rel =>
        refine ⟨k + 1, by omega, by go_num, ?_, hbr.setCell (p := ⟨w.heap.size, k, none⟩) (Nat.le_refl _) _⟩
        have := owni_store hown k (-1)
        rw [hset.out] at this
        exact this
      case measure => simp [intOf]; omega
    · have hkk : k = n := by omega
      have hown2 : wr.ownsRow w.heap.size 3 1 (.slice (some ⟨w.heap.size, 0, none⟩) n n) n (iv (List.replicate n (-1))) := by
        have := hown
        rwa [hkk, Nat.sub_self, List.replicate_zero, List.append_nil] at this
      clear hown
      go_wp2_with fail
      refine (maymany A na ca B l wr (hr.below (hbr.mono hB)) (Nat.le_trans hB hbr.size) hok hna hnc).mono ?_
      rintro e w2 ⟨⟨bb, rfl, hbb⟩, hb2⟩
      have hB2 : Below w.heap.size w w2 := hbr.trans (hb2.mono hbr.size)
      have hlt2 : w.heap.size < wr.heap.size := by
        rcases hown2.2 with ⟨h, _⟩ | ⟨g, cap, cur, h, _, hh, _⟩
        · cases h
        · cases h; exact (Array.getElem?_eq_some_iff.1 hh).1
      have hown3 := own_below hown2 hb2
      clear hown2
      rcases bb with _ | _
      · have hno : Hid (tableF l n = List.replicate n (-1)) := tableF_no (fun h => by rw [hlen] at h; exact Bool.false_ne_true (hbb.2 h))
        go_wp2_with fail
        go_ret
        refine ⟨_, _, rfl, ?_, hB2⟩
        rw [hno.out]
        exact hown3
      · have hmay : MayB na l := hbb.1 rfl
        have hyes : Hid (tableF l n = tableB (l.map (bkOf n)) n) := tableF_yes (by rw [hlen]; exact hmay)
        have hgood : Good (l.map (bkOf n)) n := good_of hm (by rw [hlen]; exact hmay)
        have HG : Hid (MayB na l ∧ Good (l.map (bkOf n)) n) := ⟨hmay, hgood⟩
        have hna16 : na ≤ 16 := hmay.2.1
        have hna0 : 0 < na := hmay.1
        clear hbb hmay hgood
        go_wp2_with fail
        have hg2 : w.heap.size < w2.heap.size := by have := hb2.size; omega
        go_loopw [7, 34] (fun v i wr => ∃ (k : Nat) (ps : List Nat) (A7 : Option Addr) (c7 m7 : Nat), k ≤ na ∧ i = .int .i64 (k : Int) ∧ v = .slice A7 m7 c7 ∧
            wr.ownsRow w.heap.size 68 1 (.slice A7 m7 c7) m7 (fvs ps (turnsOf 0 ((l.take k).map (bkOf n)))) ∧ RowsIn wr w.heap.size ((l.take k).map (bkOf n)) ps (((l.take k).map (bkOf n)).map Bk.off) ∧
            wr.ownsRow w.heap.size 3 1 (.slice (some ⟨w.heap.size, 0, none⟩) n n) n (iv (List.replicate n (-1))) ∧ Below w.heap.size w wr ∧ w.heap.size < wr.heap.size ∧ m7 ≤ 10 * k) (fun _ i _ => na - (intOf i).toNat)
        case atStart => exact ⟨0, [], none, 0, 0, by omega, rfl, rfl, World.ownsRow_nil _ _ _ _, ⟨rfl, rfl, by simp, by simp, by simp⟩, hown3, hB2, hg2, by omega⟩
        case round =>
          obtain ⟨k, ps, A7, c7, m7, hk, rfl, rfl, hown7, hrows, hownt, hbr', hgr, hm7⟩ := hrel
          clear hown3 hB2 hg2 hb2 hlt2 hbr
          by_cases hkna : k < na
          · obtain ⟨b, off, hl, rfl, hc0, hc1, hc2⟩ := (hr.below (hbr'.mono hB)).be hkna
            have hokb := hok _ (List.getElem_mem hl)
            have hmayk := HG.out.1.2.2 k hkna
            have HT : Hid ((l.take (k + 1)).map (bkOf n) = (l.take k).map (bkOf n) ++ [bkOf n l[k]]) := by
              show _ = _
              rw [List.take_succ_eq_append_getElem hl, List.map_append]
              rfl
            obtain ⟨_, hid0, hid1, hw0, hw1, _⟩ := hmayk
            have HB1 : Hid ((bkOf n l[k]).id = l[k].id ∧ (bkOf n l[k]).weight = l[k].weight.toNat ∧ (bkOf n l[k]).off = rowOff l[k].id n ∧ (bkOf n l[k]).skip = rowSkip l[k].id n) := ⟨rfl, rfl, rfl, rfl⟩
            obtain ⟨wt, hwt, hwt1, hwt10⟩ : ∃ wt : Nat, l[k].weight = (wt : Int) ∧ 1 ≤ wt ∧ wt ≤ 10 := ⟨l[k].weight.toNat, by omega, by omega, by omega⟩
            rw [hwt] at hc2 HB1
            generalize bkOf n l[k] = bk at HT HB1
            generalize l[k].id = x at *
            generalize l[k].addr = ad at *
            clear hokb hwt hw0 hw1
            have hbw : Below w.heap.size w (wr.alloc (.cells #[.int .i64 x, .int .u32 (ad : Int), .int .i64 (wt : Int)] 27)) := hbr'.alloc (by omega) _
            have hbox : Blk (wr.alloc (.cells #[.int .i64 x, .int .u32 (ad : Int), .int .i64 (wt : Int)] 27)) wr.heap.size 27 #[.int .i64 x, .int .u32 (ad : Int), .int .i64 (wt : Int)] := Blk.new _ _ _
            have hown7b := hown7.alloc (.cells #[.int .i64 x, .int .u32 (ad : Int), .int .i64 (wt : Int)] 27)
            have hownb := hownt.alloc (.cells #[.int .i64 x, .int .u32 (ad : Int), .int .i64 (wt : Int)] 27)
            have hrowsb := hrows.below (w' := wr.alloc (.cells #[.int .i64 x, .int .u32 (ad : Int), .int .i64 (wt : Int)] 27)) ((Below.refl _ _).alloc (Nat.le_refl _) _)
            have hszb : (wr.alloc (.cells #[.int .i64 x, .int .u32 (ad : Int), .int .i64 (wt : Int)] 27)).heap.size = wr.heap.size + 1 := by simp
            have hd0 := hbox.cell 0
            have hd2 := hbox.cell 2
            simp only [List.getElem?_toArray, List.getElem?_cons_zero, List.getElem?_cons_succ] at hd0 hd2
            clear hown7 hownt hrows
            go_wp2_with fail
            generalize wr.alloc (.cells #[.int .i64 x, .int .u32 (ad : Int), .int .i64 (wt : Int)] 27) = w3 at *
            refine (row_any x n h3 h251 hm (by omega) w3).mono ?_
            rintro e w4 ⟨rfl, hb4⟩
            have hbox4 := hbox.below hb4 hbox.lt
            have hown74 := own_below hown7b hb4
            have hown4 := own_below hownb hb4
            have hrows4 := hrowsb.below hb4
            have hB4 : Below w.heap.size w w4 := hbw.trans (hb4.mono (by omega))
            have hs4 := hb4.size
            clear hbox hown7b hownb hrowsb hbw hd0 hd2
            have hd0 := hbox4.cell 0
            have hd2 := hbox4.cell 2
            simp only [List.getElem?_toArray, List.getElem?_cons_zero, List.getElem?_cons_succ] at hd0 hd2
            have hd2' : (w4.alloc (.cells #[.int .i64 x, .int .i64 ((rowOff x n : Nat) : Int), .int .i64 ((rowSkip x n : Nat) : Int)] 67)).cell? ⟨wr.heap.size, 2, none⟩ = some (.int .i64 (wt : Int)) := by
              rw [World.cell?_alloc_lt _ _ _ (World.block_lt_of_cell? w4 _ hd2)]; exact hd2
            have hpl : ps.length = k := by rw [hrows4.plen]; simp; omega
            have hT0 : ∀ q ∈ turnsOf 0 ((l.take k).map (bkOf n)), q < ps.length := fun q hq => by
              have := takes_lt (bs := (l.take k).map (bkOf n)) hq
              rw [hrows4.plen]; exact this
            have hrow5 : Blk (w4.alloc (.cells #[.int .i64 x, .int .i64 ((rowOff x n : Nat) : Int), .int .i64 ((rowSkip x n : Nat) : Int)] 67)) w4.heap.size 67 #[.int .i64 x, .int .i64 ((rowOff x n : Nat) : Int), .int .i64 ((rowSkip x n : Nat) : Int)] := Blk.new _ _ _
            have hrows5 := (hrows4.below (w' := w4.alloc (.cells #[.int .i64 x, .int .i64 ((rowOff x n : Nat) : Int), .int .i64 ((rowSkip x n : Nat) : Int)] 67)) ((Below.refl _ _).alloc (Nat.le_refl _) _)).snoc bk w4.heap.size bk.off
              (by rw [HB1.out.1, HB1.out.2.2.1, HB1.out.2.2.2]; exact hrow5) (by omega) (fun q hq => (hrows4.lo q hq).2)
            have hown75 := hown74.alloc (.cells #[.int .i64 x, .int .i64 ((rowOff x n : Nat) : Int), .int .i64 ((rowSkip x n : Nat) : Int)] 67)
            have hown5 := hown4.alloc (.cells #[.int .i64 x, .int .i64 ((rowOff x n : Nat) : Int), .int .i64 ((rowSkip x n : Nat) : Int)] 67)
            have hB5 : Below w.heap.size w (w4.alloc (.cells #[.int .i64 x, .int .i64 ((rowOff x n : Nat) : Int), .int .i64 ((rowSkip x n : Nat) : Int)] 67)) := hB4.alloc (by omega) _
            have hs5 : w.heap.size < (w4.alloc (.cells #[.int .i64 x, .int .i64 ((rowOff x n : Nat) : Int), .int .i64 ((rowSkip x n : Nat) : Int)] 67)).heap.size := by simp; omega
            rw [← fvs_append ps w4.heap.size _ hT0] at hown75
            have HPL := Lib.hid hpl
            have hend : Hid (turnsOf 0 ((l.take (k + 1)).map (bkOf n)) = turnsOf 0 ((l.take k).map (bkOf n)) ++ List.replicate wt k) := by
              show _ = _
              rw [HT.out, turnsOf_snoc, HB1.out.2.1]
              congr 2
              simp
              omega
            have hend2 : Hid (((l.take (k + 1)).map (bkOf n)).map Bk.off = ((l.take k).map (bkOf n)).map Bk.off ++ [bk.off]) := by
              show _ = _
              rw [HT.out]
              simp
            generalize turnsOf 0 ((l.take k).map (bkOf n)) = T at *
            clear hrow5 hrows4 hown74 hown4 hT0 hpl
            go_wp2_with fail
            clear hd0 hd2 hbox4
            obtain ⟨wo, hwo⟩ : ∃ wo : World, wo = wr := ⟨_, rfl⟩
            generalize hp4 : w4.heap.size = p4 at *
            generalize w4.alloc (.cells #[.int .i64 x, .int .i64 ((rowOff x n : Nat) : Int), .int .i64 ((rowSkip x n : Nat) : Int)] 67) = w5 at *
            clear hwo hp4 hd2'
            go_loopw [7, 53] (fun v i wq => ∃ (j : Nat) (A8 : Option Addr) (c8 m8 : Nat), j ≤ wt ∧ i = .int .i64 (j : Int) ∧ v = .slice A8 m8 c8 ∧ Hid (m8 = m7 + j) ∧
                wq.ownsRow w.heap.size 68 1 (.slice A8 m8 c8) m8 (fvs (ps ++ [p4]) (T ++ List.replicate j k)) ∧ RowsIn wq w.heap.size ((l.take k).map (bkOf n) ++ [bk]) (ps ++ [p4]) (((l.take k).map (bkOf n)).map Bk.off ++ [bk.off]) ∧
                wq.ownsRow w.heap.size 3 1 (.slice (some ⟨w.heap.size, 0, none⟩) n n) n (iv (List.replicate n (-1))) ∧ Below w.heap.size w wq ∧ w.heap.size < wq.heap.size) (fun _ i _ => wt - (intOf i).toNat)
            case atStart => exact ⟨0, A7, c7, m7, by omega, rfl, rfl, rfl, by simpa using hown75, hrows5, hown5, hB5, hs5⟩
            case round =>
              obtain ⟨j, A8, c8, m8, hj, rfl, rfl, hm8, hown8, hrows8, hownt8, hb8, hs8⟩ := hrel
              clear hown75 hrows5 hown5 hB5 hs5
              by_cases hjw : j < wt
              · have hm8b : m8 ≤ 1000 := by have := hm8.out; omega
                go_wp2_with (at_builtin; refine stop_ ?_)
                refine on_ ?_
                refine wpList_append_1 rfl (.tmp 55) (.tmp 58) _ rfl 68 _ infoF rfl Try.underlying64 w.heap.size (.slice A8 m8 c8) m8 _ rfl (hown8.alloc _) (wr.heap.size + 1) _ 1 1 [fv p4] rfl
                  (reads_new _ _ _ _ 1 _ _ (by rfl) (by rfl) (by rfl) _ (by rfl)) (by intro u hu; rw [List.mem_singleton.1 hu]; rfl) (m8 + 1) rfl (by omega) (by simp; omega) ?_
                intro A9 c9 w9 hown9 hb9 hg9 _
                have hB9 : Below w.heap.size w w9 := (hb8.alloc (by omega) _).trans hb9
                have hs9 : w.heap.size < w9.heap.size := by have := hb9.size; simp at this; omega
                have hrows9 := (hrows8.below (w' := wr.alloc (.cells #[fv p4] 68)) ((Below.refl _ _).alloc (Nat.le_refl _) _)).grown (hown8.alloc _) (by decide) hg9
                have hownt9 := (hownt8.alloc (.cells #[fv p4] 68)).kept hg9 (own_own_ne (hownt8.alloc (.cells #[fv p4] 68)) (hown8.alloc _) (by decide))
                rw [← fvs_snoc ps p4 k j T HPL.out] at hown9
                clear hown8 hrows8 hownt8 hb8 hb9 hg9
                go_wp2_with fail
                go_roundw
                case rel => exact ⟨j + 1, A9, c9, m8 + 1, by omega, by go_num, rfl, by show _ = _; have := hm8.out; omega, hown9, hrows9, hownt9, hB9, hs9⟩
                case measure => simp [intOf]; omega
              · have hjj : j = wt := by omega
                have hfin : Hid (wr.ownsRow w.heap.size 68 1 (.slice A8 m8 c8) m8 (fvs (ps ++ [p4]) (turnsOf 0 ((l.take (k + 1)).map (bkOf n)))) ∧ RowsIn wr w.heap.size ((l.take (k + 1)).map (bkOf n)) (ps ++ [p4]) (((l.take (k + 1)).map (bkOf n)).map Bk.off)) := by
                  rw [hend.out, hend2.out, HT.out, ← hjj]
                  exact ⟨hown8, hrows8⟩
                clear hown8 hrows8
                go_wp2_with fail
                go_roundw
                case rel => exact ⟨k + 1, ps ++ [p4], A8, c8, m8, by omega, by go_num, rfl, hfin.out.1, hfin.out.2, hownt8, hb8, hs8, by have := hm8.out; omega⟩
                case measure => simp [intOf]; omega
          · have hkk' : k = na := by omega
            have hfin : Hid (wr.ownsRow w.heap.size 68 1 (.slice A7 m7 c7) m7 (fvs ps (takes (l.map (bkOf n)))) ∧ RowsIn wr w.heap.size (l.map (bkOf n)) ps ((l.map (bkOf n)).map Bk.off)) := by
              have h1 := hown7
              have h2 := hrows
              rw [List.take_of_length_le (by omega)] at h1 h2
              exact ⟨h1, h2⟩
            clear hown7 hrows
            go_wp2_with fail
            clear hkk'
            obtain ⟨hown7, hrows⟩ := hfin.out
            clear hfin
            have hGood := HG.out.2
            have hT7 : m7 = (takes (l.map (bkOf n))).length := by have := hown7.1; rw [fvs_length] at this; omega
            have hTpos := takes_pos hGood
            have HF : Hid (tableF l n = (run (l.map (bkOf n)) n n).2) := hyes.out
            have hskip : ∀ b ∈ l.map (bkOf n), b.skip < 4294967296 := by
              intro b hb
              obtain ⟨y, _, rfl⟩ := List.mem_map.1 hb
              show rowSkip y.id n < 4294967296
              have : mixN 2 (idB y.id) % (n - 1) < n - 1 := Nat.mod_lt _ (by omega)
              unfold rowSkip
              omega
            generalize l.map (bkOf n) = bs at *
            have HT7 := Lib.hid hT7
            have hm70 : 0 < m7 := by omega
            have hm7b : m7 ≤ 1000 := by omega
            clear hT7 hTpos hyes
            go_loopg [64] n (fun gk i wq => ∃ q : Nat, q + gk = n ∧ i = .int .i64 (q : Int) ∧ RowsIn wq w.heap.size bs ps (run bs n q).1 ∧ wq.ownsRow w.heap.size 3 1 (.slice (some ⟨w.heap.size, 0, none⟩) n n) n (iv (run bs n q).2) ∧
                wq.ownsRow w.heap.size 68 1 (.slice A7 m7 c7) m7 (fvs ps (takes bs)) ∧ Below w.heap.size w wq)
            case atStart => exact ⟨0, by omega, rfl, hrows, hownt, hown7, hbr'⟩
            case round =>
              obtain ⟨q, hq, rfl, hrq, htq, h7q, hbq⟩ := hrel
              clear hrows hownt hown7 hbr' hgr
              by_cases hqn : q < n
              · have hrq1 : q % m7 < m7 := Nat.mod_lt _ hm70
                have hmodq : ((q : Int) % (m7 : Int)) = ((q % m7 : Nat) : Int) := (Int.natCast_emod q m7).symm
                have hTq : q % m7 < (takes bs).length := by have := HT7.out; omega
                have hinv := run_inv hGood q (by omega)
                have hbl : (takes bs)[q % m7] < bs.length := takes_lt (List.getElem_mem hTq)
                obtain ⟨_, at_, J, hat, hatn, hwalk, hturn⟩ := turn_inv hGood hinv hqn hbl
                have hrun : Hid (run bs n (q + 1) = turn bs n (run bs n q) (takes bs)[q % m7]) := by
                  show _ = _
                  rw [run, ← HT7.out, List.getElem?_eq_getElem hTq]
                  rfl
                have hpl : (takes bs)[q % m7] < ps.length := by rw [hrq.plen]; exact hbl
                obtain ⟨g7, rfl, hg7, _⟩ := own_head h7q hm70
                have hcell : wr.cell? ⟨g7, q % m7, none⟩ = some (fv ps[(takes bs)[q % m7]]) := by
                  rw [h7q.cellAt (q % m7) (by omega)]
                  unfold fvs
                  rw [List.getElem?_map, List.getElem?_eq_getElem hTq]
                  simp [hpl]
                have hblk := hrq.blk _ _ _ _ (List.getElem?_eq_getElem hbl) (List.getElem?_eq_getElem hpl) hat
                have hnt : w.heap.size ∉ ps := fun hm => by
                  obtain ⟨cs, hc⟩ := hrq.at_ hm
                  exact own_blk_ne htq hc (by decide) rfl
                have hget := List.getElem?_eq_getElem hbl
                have hgetp := List.getElem?_eq_getElem hpl
                have hskl : (bs[(takes bs)[q % m7]]).skip < 4294967296 := hskip _ (List.getElem_mem hbl)
                rw [hturn] at hrun
                have HRUN := hrun
                generalize (takes bs)[q % m7] = bq at *
                generalize bs[bq] = bk at *
                generalize ps[bq] = p at *
                generalize findF (run bs n q).2 bk.skip n n at_ = v at *
                have c1 := next_any p w.heap.size n n w.heap.size bk.id at_ bk.skip J v (run bs n q).2 wr hblk htq h251 hatn hskl hwalk
                have C1 := Lib.hid c1
                have HX : Hid (RowsIn wr w.heap.size bs ps (run bs n q).1 ∧ wr.ownsRow w.heap.size 68 1 (.slice (some ⟨g7, 0, none⟩) m7 c7) m7 (fvs ps (takes bs)) ∧ Blk wr p 67 #[.int .i64 bk.id, .int .i64 (at_ : Int), .int .i64 (bk.skip : Int)] ∧ wr.ownsRow w.heap.size 3 1 (.slice (some ⟨w.heap.size, 0, none⟩) n n) n (iv (run bs n q).2) ∧ bs[bq]? = some bk ∧ ps[bq]? = some p) := ⟨hrq, h7q, hblk, htq, hget, hgetp⟩
                clear hrq h7q hblk htq hwalk hturn hinv hat hget hgetp c1 hrun hpl hbl hTq
                have hq7 : q % m7 < m7 := hrq1
                generalize q % m7 = s7 at *
                unfold fv at hcell
                go_wp2_with fail
                refine C1.out.mono ?_
                rintro e w6 ⟨rfl, hblk6, ht6, h2⟩
                obtain ⟨hrq, h7q, hblk, htq, hget, hgetp⟩ := HX.out
                have hplo := (hrq.lo p (List.mem_of_getElem? hgetp)).1
                have hrows6 := hrq.two hget hgetp h2 hnt hblk6
                have h76 := h2.own h7q (own_blk_ne h7q hblk (by decide)) (by
                  rcases own_own_ne h7q htq (by decide) with h | h
                  · cases h
                  · exact h)
                have hb6 : Below w.heap.size w w6 := hbq.trans (h2.below hplo (Nat.le_refl _))
                clear hrq h7q hblk htq hget hgetp hblk6 C1 HX h2
                go_wp2_with fail
                go_roundg (gk - 1)
                case measure => omega
                case rel =>
                  refine ⟨q + 1, by omega, by go_num, ?_, ?_, h76, hb6⟩
                  · rw [HRUN.out]; exact hrows6
                  · rw [HRUN.out]; exact ht6
              · have hqq : q = n := by omega
                have hfin2 : Hid (wr.ownsRow w.heap.size 3 1 (.slice (some ⟨w.heap.size, 0, none⟩) n n) n (iv (tableF l n))) := by
                  rw [HF.out]
                  have := htq
                  rwa [hqq] at this
                clear htq hrq h7q
                go_wp2_with fail
                go_ret
                exact ⟨_, _, rfl, hfin2.out, hbq⟩
end Go.Proofs.Ytaamflhleommlaa
