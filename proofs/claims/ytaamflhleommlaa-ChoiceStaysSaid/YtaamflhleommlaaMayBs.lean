/- The walk of the reference's MayBackends. -/
import Derived.Test.YtaamflhleommlaaBeMay
import Derived.Deep.RegionHeld3
import Derived.Deep.RegionWith
namespace Go.Proofs.Ytaamflhleommlaa
set_option linter.unusedVariables false
set_option linter.unusedSimpArgs false
open Go.RowKit

def MayBs (n : Nat) (l : List Be) : Prop := n ≤ 16 ∧ ∀ j, j < n → okAt l j
def MayBsRet (n : Nat) (l : List Be) (e : Ending) : Prop := ∃ b : Bool, e = .returned (.bool b) ∧ (b = true ↔ MayBs n l)
theorem mayBsRet_no {n : Nat} {l : List Be} (h : ¬ MayBs n l) : MayBsRet n l (.returned (.bool false)) := ⟨false, rfl, by simp [h]⟩
theorem mayBsRet_yes {n : Nat} {l : List Be} (h : MayBs n l) : MayBsRet n l (.returned (.bool true)) := ⟨true, rfl, by simp [h]⟩

set_option maxHeartbeats 1000000 in
set_option maxRecDepth 100000 in
theorem maybs_any (A : Option Addr) (n c B : Nat) (l : List Be) (w : World) (hr : Reads w B 3 A n (bks l)) (hB : B ≤ w.heap.size) (hok : BesOk l) (hn : n ≤ 46912496118442) (hnc : n ≤ c) :
    Calls Try.prog 17 #[.slice A n c] w fun e w' => MayBsRet n l e ∧ Below w.heap.size w w' := by
  have hlen := hr.be_length
  by_cases h16 : 16 < n
  · go_enter Try.func17, Try.ntmps17
    go_wp2
    go_ret
    exact ⟨mayBsRet_no (fun h => by have := h.1; omega), Below.refl _ _⟩
  have hd16 : decide ((16 : Int) < (n : Int)) = false := decide_eq_false (by omega)
  go_enter Try.func17, Try.ntmps17
  go_wp2_with fail
  go_loopw [10] (fun i wr => ∃ k : Nat, k ≤ n ∧ i = .int .i64 (k : Int) ∧ Hid (∀ j, j < k → okAt l j) ∧ Below w.heap.size w wr) (fun i _ => n - (intOf i).toNat)
  case atStart => exact ⟨0, by omega, rfl, (fun j h => by omega), Below.refl _ _⟩
  case round =>
    obtain ⟨k, hk, rfl, hall, hbr⟩ := hrel
    by_cases hkn : k < n
    · obtain ⟨b, off, hl, rfl, hc0, hc1, hc2⟩ := (hr.below (hbr.mono hB)).be hkn
      have hp : ∃ y : Int, 0 < k → wr.cell? ⟨b, off + (k - 1) * 3, none⟩ = some (.int .i64 y) ∧ Hid (∃ h : k - 1 < l.length, l[k - 1].id = y) := by
        by_cases h : 0 < k
        · obtain ⟨b', off', hl', e, hc', _⟩ := (hr.below (hbr.mono hB)).be (j := k - 1) (by omega)
          cases e
          exact ⟨_, fun _ => ⟨hc', hl', rfl⟩⟩
        · exact ⟨0, fun h' => absurd h' h⟩
      obtain ⟨y, hy⟩ := hp
      have hdec : Hid (okAt l k ↔ okB ⟨l[k].id, l[k].addr, l[k].weight⟩ = true ∧ (0 < k → y < l[k].id)) := by
        show _ ↔ _
        rw [okB_iff]
        constructor
        · rintro ⟨_, h1, h2, h3, h4, h5⟩
          refine ⟨⟨h1, h2, h3, h4⟩, fun h => ?_⟩
          obtain ⟨_, e⟩ := (hy h).2.out
          rw [← e]; exact h5 h
        · rintro ⟨⟨h1, h2, h3, h4⟩, h5⟩
          refine ⟨hl, h1, h2, h3, h4, fun h => ?_⟩
          obtain ⟨_, e⟩ := (hy h).2.out
          rw [e]; exact h5 h
      have hbad : Hid (¬ okAt l k → MayBsRet n l (.returned (.bool false))) := fun h => mayBsRet_no (fun hm => h (hm.2 k hkn))
      have hgood : Hid (okAt l k → ∀ j, j < k + 1 → okAt l j) := by
        intro h j hj
        by_cases e : j = k
        · subst e; exact h
        · exact hall.out j (by omega)
      have hbl := hok _ (List.getElem_mem hl)
      generalize l[k].id = x at *
      generalize l[k].weight = wt at *
      generalize l[k].addr = ad at *
      have CM := Lib.hid (mayBackend_any x ad wt)
      have hsz := hbr.size
      have hbox : Below w.heap.size w (wr.alloc (.cells #[.int .i64 x, .int .u32 (ad : Int), .int .i64 wt] 27)) := hbr.alloc hsz _
      have hbk : Blk (wr.alloc (.cells #[.int .i64 x, .int .u32 (ad : Int), .int .i64 wt] 27)) wr.heap.size 27 #[.int .i64 x, .int .u32 (ad : Int), .int .i64 wt] := Blk.new _ _ _
      have hy2 : 0 < k → (wr.alloc (.cells #[.int .i64 x, .int .u32 (ad : Int), .int .i64 wt] 27)).cell? ⟨b, off + (k - 1) * 3, none⟩ = some (.int .i64 y) := fun h => by
        have h1 := (hy h).1
        rw [World.cell?_alloc_lt _ _ _ (World.block_lt_of_cell? wr _ h1)]
        exact h1
      have HY := Lib.hid hy2
      clear hy hy2 hbl
      go_wp2_with fail
      clear hc0 hc1 hc2
      have hszb : wr.heap.size < (wr.alloc (.cells #[.int .i64 x, .int .u32 (ad : Int), .int .i64 wt] 27)).heap.size := by simp
      generalize wr.alloc (.cells #[.int .i64 x, .int .u32 (ad : Int), .int .i64 wt] 27) = w2 at *
      generalize wr.heap.size = g at *
      have hc0 := hbk.cell 0
      have hc1 := hbk.cell 1
      have hc2 := hbk.cell 2
      have hd0 := hbk.drew.cell 0
      have hd1 := hbk.drew.cell 1
      have hd2 := hbk.drew.cell 2
      simp only [List.getElem?_toArray, List.getElem?_cons_zero, List.getElem?_cons_succ] at hc0 hc1 hc2 hd0 hd1 hd2
      have hs2 := hbox.drew.size
      cases hokb : okB ⟨x, ad, wt⟩
      · have hno : Hid (¬ okAt l k) := fun h => by have := (hdec.out.1 h).1; rw [hokb] at this; cases this
        rw [hokb] at CM
        clear hokb
        have L0 : ∀ w', Below w2.heap.size w2 w' → w'.cell? ⟨g, 0, none⟩ = some (.int .i64 x) := fun w' hb => (hb.cell (p := ⟨g, 0, none⟩) hszb).trans hc0
        have L1 : ∀ w', Below w2.heap.size w2 w' → w'.cell? ⟨g, 1, none⟩ = some (.int .u32 (ad : Int)) := fun w' hb => (hb.cell (p := ⟨g, 1, none⟩) hszb).trans hc1
        have L2 : ∀ w', Below w2.heap.size w2 w' → w'.cell? ⟨g, 2, none⟩ = some (.int .i64 wt) := fun w' hb => (hb.cell (p := ⟨g, 2, none⟩) hszb).trans hc2
        have Q0 := Lib.hid (fun (w' : World) (hq : Below w2.heap.size w2 w') => below_made hq (CM.out w'))
        have LL := Lib.hid (And.intro L0 (And.intro L1 L2))
        refine wp_region_below (by kernel_rfl) (by kernel_rfl) ?_
        clear L0 L1 L2 hc0 hc1 hc2 hd0 hd1 hd2
        go_big_quiet_want
        refine ⟨.agg #[.int .i64 x, .int .u32 (ad : Int), .int .i64 wt], fun w' hw' => ?_, ?_⟩
        · have h0 := LL.out.1 w' hw'
          have h1 := LL.out.2.1 w' hw'
          have h2 := LL.out.2.2 w' hw'
          unfold Oper.quietAt
          go_simp
        go_simp
        go_big_quiet_on
        repeat (go_big_quiet_step (first | with_reducible exact fun _ => rfl | with_reducible exact Q0.out _))
        refine wpQuiet_nil ?_
        intro w9 hb9
        go_wp2_with fail
        go_ret
        exact ⟨hbad.out hno.out, hbox.trans (hb9.mono hbox.size)⟩
      · by_cases hk0 : k = 0
        · subst hk0
          have hyes : Hid (okAt l 0) := hdec.out.2 ⟨hokb, fun h => absurd h (by omega)⟩
          rw [hokb] at CM
          clear hokb HY
          have L0 : ∀ w', Below w2.heap.size w2 w' → w'.cell? ⟨g, 0, none⟩ = some (.int .i64 x) := fun w' hb => (hb.cell (p := ⟨g, 0, none⟩) hszb).trans hc0
          have L1 : ∀ w', Below w2.heap.size w2 w' → w'.cell? ⟨g, 1, none⟩ = some (.int .u32 (ad : Int)) := fun w' hb => (hb.cell (p := ⟨g, 1, none⟩) hszb).trans hc1
          have L2 : ∀ w', Below w2.heap.size w2 w' → w'.cell? ⟨g, 2, none⟩ = some (.int .i64 wt) := fun w' hb => (hb.cell (p := ⟨g, 2, none⟩) hszb).trans hc2
          have Q0 := Lib.hid (fun (w' : World) (hq : Below w2.heap.size w2 w') => below_made hq (CM.out w'))
          have LL := Lib.hid (And.intro L0 (And.intro L1 L2))
          refine wp_region_below (by kernel_rfl) (by kernel_rfl) ?_
          clear L0 L1 L2 hc0 hc1 hc2 hd0 hd1 hd2
          go_big_quiet_want
          refine ⟨.agg #[.int .i64 x, .int .u32 (ad : Int), .int .i64 wt], fun w' hw' => ?_, ?_⟩
          · have h0 := LL.out.1 w' hw'
            have h1 := LL.out.2.1 w' hw'
            have h2 := LL.out.2.2 w' hw'
            unfold Oper.quietAt
            go_simp
          go_simp
          go_big_quiet_on
          repeat (go_big_quiet_step (first | with_reducible exact fun _ => rfl | with_reducible exact Q0.out _))
          refine wpQuiet_nil ?_
          intro w9 hb9
          go_wp2_with fail
          go_roundw
          case rel => exact ⟨1, by omega, by go_num, hgood.out hyes.out, hbox.trans (hb9.mono hbox.size)⟩
          case measure => simp [intOf]; omega
        · have hcy := HY.out (by omega)
          have hkpos : decide (0 < (k : Int)) = true := decide_eq_true (by omega)
          have hkpos2 : decide (0 < k) = true := decide_eq_true (by omega)
          have hltb : b < w2.heap.size := World.block_lt_of_cell? w2 _ hcy
          obtain ⟨j, hj, hjn⟩ : ∃ j : Nat, k - 1 = j ∧ j < n := ⟨k - 1, rfl, by omega⟩
          have e1 : IntKind.i64.wrap ((k : Int) - 1) = (j : Int) := by rw [IntWalk.i64_in _ (by omega)]; omega
          rw [hj] at hcy
          have hdy : w2.drew.cell? ⟨b, off + j * 3, none⟩ = some (.int .i64 y) := hcy
          clear hj
          by_cases hxy : x ≤ y
          · have hno : Hid (¬ okAt l k) := fun h => by have := (hdec.out.1 h).2 (by omega); omega
            have hdxy : decide (x ≤ y) = true := decide_eq_true hxy
            rw [hokb] at CM
            clear hokb hxy
            have L0 : ∀ w', Below w2.heap.size w2 w' → w'.cell? ⟨g, 0, none⟩ = some (.int .i64 x) := fun w' hb => (hb.cell (p := ⟨g, 0, none⟩) hszb).trans hc0
            have L1 : ∀ w', Below w2.heap.size w2 w' → w'.cell? ⟨g, 1, none⟩ = some (.int .u32 (ad : Int)) := fun w' hb => (hb.cell (p := ⟨g, 1, none⟩) hszb).trans hc1
            have L2 : ∀ w', Below w2.heap.size w2 w' → w'.cell? ⟨g, 2, none⟩ = some (.int .i64 wt) := fun w' hb => (hb.cell (p := ⟨g, 2, none⟩) hszb).trans hc2
            have L3 : ∀ w', Below w2.heap.size w2 w' → w'.cell? ⟨b, off + j * 3, none⟩ = some (.int .i64 y) := fun w' hb => (hb.cell (p := ⟨b, off + j * 3, none⟩) hltb).trans hcy
            have Q0 := Lib.hid (fun (w' : World) (hq : Below w2.heap.size w2 w') => below_made hq (CM.out w'))
            have LL := Lib.hid (And.intro L0 (And.intro L1 L2))
            have LY := Lib.hid L3
            refine wp_region_below (by kernel_rfl) (by kernel_rfl) ?_
            clear L0 L1 L2 hc0 hc1 hc2 hd0 hd1 hd2 L3 hcy hdy
            go_big_quiet_want
            refine ⟨.agg #[.int .i64 x, .int .u32 (ad : Int), .int .i64 wt], fun w' hw' => ?_, ?_⟩
            · have h0 := LL.out.1 w' hw'
              have h1 := LL.out.2.1 w' hw'
              have h2 := LL.out.2.2 w' hw'
              unfold Oper.quietAt
              go_simp
            go_simp
            go_big_quiet_on
            repeat (go_big_quiet_step (first | with_reducible exact fun _ => rfl | with_reducible exact Q0.out _))
            go_big_quiet_want
            refine ⟨.int .i64 y, fun w' hw' => ?_, ?_⟩
            · have h0 := LY.out w' hw'
              unfold Oper.quietAt
              go_simp
            go_simp
            go_big_quiet_on
            repeat (go_big_quiet_step (first | with_reducible exact fun _ => rfl | with_reducible exact Q0.out _))
            go_big_quiet_want
            refine ⟨.int .i64 x, fun w' hw' => ?_, ?_⟩
            · have h0 := LL.out.1 w' hw'
              unfold Oper.quietAt
              go_simp
            go_simp
            go_big_quiet_on
            repeat (go_big_quiet_step (first | with_reducible exact fun _ => rfl | with_reducible exact Q0.out _))
            refine wpQuiet_nil ?_
            intro w9 hb9
            go_wp2_with fail
            go_ret
            exact ⟨hbad.out hno.out, hbox.trans (hb9.mono hbox.size)⟩
          · have hyes : Hid (okAt l k) := hdec.out.2 ⟨hokb, fun h => by omega⟩
            have hdxy : decide (x ≤ y) = false := decide_eq_false hxy
            rw [hokb] at CM
            clear hokb hxy
            have L0 : ∀ w', Below w2.heap.size w2 w' → w'.cell? ⟨g, 0, none⟩ = some (.int .i64 x) := fun w' hb => (hb.cell (p := ⟨g, 0, none⟩) hszb).trans hc0
            have L1 : ∀ w', Below w2.heap.size w2 w' → w'.cell? ⟨g, 1, none⟩ = some (.int .u32 (ad : Int)) := fun w' hb => (hb.cell (p := ⟨g, 1, none⟩) hszb).trans hc1
            have L2 : ∀ w', Below w2.heap.size w2 w' → w'.cell? ⟨g, 2, none⟩ = some (.int .i64 wt) := fun w' hb => (hb.cell (p := ⟨g, 2, none⟩) hszb).trans hc2
            have L3 : ∀ w', Below w2.heap.size w2 w' → w'.cell? ⟨b, off + j * 3, none⟩ = some (.int .i64 y) := fun w' hb => (hb.cell (p := ⟨b, off + j * 3, none⟩) hltb).trans hcy
            have Q0 := Lib.hid (fun (w' : World) (hq : Below w2.heap.size w2 w') => below_made hq (CM.out w'))
            have LL := Lib.hid (And.intro L0 (And.intro L1 L2))
            have LY := Lib.hid L3
            refine wp_region_below (by kernel_rfl) (by kernel_rfl) ?_
            clear L0 L1 L2 hc0 hc1 hc2 hd0 hd1 hd2 L3 hcy hdy
            go_big_quiet_want
            refine ⟨.agg #[.int .i64 x, .int .u32 (ad : Int), .int .i64 wt], fun w' hw' => ?_, ?_⟩
            · have h0 := LL.out.1 w' hw'
              have h1 := LL.out.2.1 w' hw'
              have h2 := LL.out.2.2 w' hw'
              unfold Oper.quietAt
              go_simp
            go_simp
            go_big_quiet_on
            repeat (go_big_quiet_step (first | with_reducible exact fun _ => rfl | with_reducible exact Q0.out _))
            go_big_quiet_want
            refine ⟨.int .i64 y, fun w' hw' => ?_, ?_⟩
            · have h0 := LY.out w' hw'
              unfold Oper.quietAt
              go_simp
            go_simp
            go_big_quiet_on
            repeat (go_big_quiet_step (first | with_reducible exact fun _ => rfl | with_reducible exact Q0.out _))
            go_big_quiet_want
            refine ⟨.int .i64 x, fun w' hw' => ?_, ?_⟩
            · have h0 := LL.out.1 w' hw'
              unfold Oper.quietAt
              go_simp
            go_simp
            go_big_quiet_on
            repeat (go_big_quiet_step (first | with_reducible exact fun _ => rfl | with_reducible exact Q0.out _))
            refine wpQuiet_nil ?_
            intro w9 hb9
            go_wp2_with fail
            go_roundw
            case rel => exact ⟨k + 1, by omega, by go_num, hgood.out hyes.out, hbox.trans (hb9.mono hbox.size)⟩
            case measure => simp [intOf]; omega
    · have hfin : Hid (MayBsRet n l (.returned (.bool true))) := mayBsRet_yes ⟨by omega, fun j hj => hall.out j (by omega)⟩
      go_wp2_with fail
      go_ret
      exact ⟨hfin.out, hbr⟩
end Go.Proofs.Ytaamflhleommlaa
