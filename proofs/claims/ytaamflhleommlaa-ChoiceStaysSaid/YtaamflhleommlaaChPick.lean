/- The walk of (*choice.Chooser).Pick. -/
import Derived.Test.YtaamflhleommlaaChFind
namespace Go.Proofs.Ytaamflhleommlaa
set_option linter.unusedVariables false
set_option linter.unusedSimpArgs false
open Go.RowKit

def pickBe (l : List Be) (t : List Int) (slots : Nat) (k : Tu) : Be × Bool := if mayTu k = true then findBe l (t.getD (hashT k % slots) 0) else (⟨0, 0, 0⟩, false)

/-- what Pick reads -/
structure PickAt (W : World) (p q g slots j : Nat) (c2 : Nat) (src dst : Nat) (proto sport dport y : Int) : Prop where
  cells : W.cell? ⟨p, 0, none⟩ = some (.int .i64 slots) ∧ W.cell? ⟨p, 2, none⟩ = some (.slice (some ⟨g, 0, none⟩) slots c2) ∧ W.cell? ⟨q, 0, none⟩ = some (.int .u32 (src : Int)) ∧ W.cell? ⟨q, 1, none⟩ = some (.int .u32 (dst : Int)) ∧ W.cell? ⟨q, 2, none⟩ = some (.int .i64 proto) ∧ W.cell? ⟨q, 3, none⟩ = some (.int .i64 sport) ∧ W.cell? ⟨q, 4, none⟩ = some (.int .i64 dport) ∧ W.cell? ⟨g, j, none⟩ = some (.int .i64 y)
theorem PickAt.below {W W' : World} {p q g slots j c2 src dst : Nat} {proto sport dport y : Int} (h : PickAt W p q g slots j c2 src dst proto sport dport y) (hb : Below W.heap.size W W') : PickAt W' p q g slots j c2 src dst proto sport dport y := by
  obtain ⟨h0, h1, h2, h3, h4, h5, h6, h7⟩ := h
  have key : ∀ {a : Addr} {v : Value}, W.cell? a = some v → W'.cell? a = some v := fun {a v} e => (hb.cell (World.block_lt_of_cell? W a e)).trans e
  exact ⟨key h0, key h1, key h2, key h3, key h4, key h5, key h6, key h7⟩

theorem PickAt.drew {W : World} {p q g slots j : Nat} {c2 : Nat} {src dst : Nat} {proto sport dport y : Int} (h : PickAt W p q g slots j c2 src dst proto sport dport y) : PickAt W.drew p q g slots j c2 src dst proto sport dport y := ⟨h.cells⟩
theorem PickAt.far {W : World} {p q g slots j : Nat} {c2 : Nat} {src dst : Nat} {proto sport dport y : Int} (h : PickAt W p q g slots j c2 src dst proto sport dport y) {b : Nat} (hp : p < b) (hq : q < b) (hg : g < b) (i : Nat) (u : Value) : PickAt (W.setCell ⟨b, i, none⟩ u) p q g slots j c2 src dst proto sport dport y := by
  obtain ⟨h0, h1, h2, h3, h4, h5, h6, h7⟩ := h
  have key : ∀ {a : Addr} {v : Value}, a.block < b → W.cell? a = some v → (W.setCell ⟨b, i, none⟩ u).cell? a = some v := fun {a v} hl e => (World.cell?_setCell_other W ⟨b, i, none⟩ a u (fun e => by subst e; exact absurd hl (Nat.lt_irrefl _))).trans e
  exact ⟨key hp h0, key hp h1, key hq h2, key hq h3, key hq h4, key hq h5, key hq h6, key hg h7⟩
theorem hash_lt (k : Tu) : hashT k < 4294967296 := mixN_lt 0 (tupB k)

set_option maxHeartbeats 8000000 in
set_option maxRecDepth 100000 in
theorem chpick_yes (p slots : Nat) (l : List Be) (t : List Int) (made : Int) (k : Tu) (hk : TuOk k) (w : World) (hch : Ch w p slots l t made) (hm : mayN slots = true) :
    Calls Try.prog 23 #[.pointer (some ⟨p, 0, none⟩), .agg k.vals] w fun e w' => e = .returned (.tuple #[.agg (pickBe l t slots k).1.cells.toArray, .bool (pickBe l t slots k).2]) ∧ Below w.heap.size w w' := by
  have CY := Lib.hid (fun W => tupmay_any k W)
  have CH := Lib.hid (fun W => hash_any k hk W)
  have hpk : pickBe l t slots k = if mayTu k = true then findBe l (t.getD (hashT k % slots) 0) else (⟨0, 0, 0⟩, false) := rfl
  obtain ⟨r, hr⟩ : ∃ r, pickBe l t slots k = r := ⟨_, rfl⟩
  rw [hr] at hpk ⊢
  clear hr
  obtain ⟨h3s, h251⟩ := may_bounds hm
  have hh := hash_lt k
  obtain ⟨src, dst, proto, sport, dport⟩ := k
  dsimp only [Tu.vals] at CY CH ⊢
  have hq0 := Blk.new w 54 #[.int .u32 (src : Int), .int .u32 (dst : Int), .int .i64 proto, .int .i64 sport, .int .i64 dport]
  have hr0 := Blk.new (w.alloc (.cells #[.int .u32 (src : Int), .int .u32 (dst : Int), .int .i64 proto, .int .i64 sport, .int .i64 dport] 54)) 27 #[.int .i64 0, .int .u32 0, .int .i64 0]
  have hq1 := hq0.alloc (.cells #[.int .i64 0, .int .u32 0, .int .i64 0] 27)
  have hb0 := ((Below.refl w.heap.size w).alloc (Nat.le_refl _) (.cells #[.int .u32 (src : Int), .int .u32 (dst : Int), .int .i64 proto, .int .i64 sport, .int .i64 dport] 54)).alloc (by simp) (.cells #[.int .i64 0, .int .u32 0, .int .i64 0] 27)
  have hs0 : (w.alloc (.cells #[.int .u32 (src : Int), .int .u32 (dst : Int), .int .i64 proto, .int .i64 sport, .int .i64 dport] 54)).heap.size = w.heap.size + 1 := by simp
  rw [hs0] at hr0
  obtain ⟨b, hb⟩ : ∃ b, mayTu ⟨src, dst, proto, sport, dport⟩ = b := ⟨_, rfl⟩
  rw [hb] at CY hpk
  clear hb
  have v0 := hq1.cell 0
  have v1 := hq1.cell 1
  have v2 := hq1.cell 2
  have v3 := hq1.cell 3
  have v4 := hq1.cell 4
  simp only [List.getElem?_toArray, List.getElem?_cons_zero, List.getElem?_cons_succ] at v0 v1 v2 v3 v4
  have HB := Lib.hid (And.intro hq1 (And.intro hr0 hb0))
  clear hq0 hr0 hq1 hb0 hs0
  go_enter Try.func23, Try.ntmps23
  go_wp2_with fail
  refine (CY.out _).mono ?_
  rintro e w1 ⟨rfl, hb1⟩
  have hB1 := HB.out.2.2.trans (hb1.mono HB.out.2.2.size)
  have hq1 := HB.out.1.below hb1 HB.out.1.lt
  have hr1 := HB.out.2.1.below hb1 HB.out.2.1.lt
  have hch1 := hch.below hB1
  obtain ⟨q, hq⟩ : ∃ q, q = w.heap.size := ⟨_, rfl⟩
  rw [← hq] at hq1 hr1 ⊢
  clear v0 v1 v2 v3 v4 CY
  cases b with
  | false =>
    have hpk' : r = (⟨0, 0, 0⟩, false) := by rw [hpk]; rfl
    have f0 := hr1.frozen 0
    have f1 := hr1.frozen 1
    have f2 := hr1.frozen 2
    have d0 := hr1.cell 0
    have d1 := hr1.cell 1
    have d2 := hr1.cell 2
    simp only [List.getElem?_toArray, List.getElem?_cons_zero, List.getElem?_cons_succ] at d0 d1 d2
    have HX := Lib.hid (And.intro hq (And.intro hr1 hB1))
    have HP := Lib.hid hpk'
    clear hpk hpk' hq hr1 hB1 hq1 hch1 hch hb1 HB CH hh
    go_wp2_with fail
    obtain ⟨w9, hw9⟩ : ∃ w9, w9 = ((w1.setCell ⟨q + 1, 0, none⟩ (.int .i64 0)).setCell ⟨q + 1, 1, none⟩ (.int .u32 0)).setCell ⟨q + 1, 2, none⟩ (.int .i64 0) := ⟨_, rfl⟩
    have hz : Blk w9 (q + 1) 27 #[.int .i64 0, .int .u32 0, .int .i64 0] := by
      rw [hw9]
      exact ((HX.out.2.1.set_ 0 (.int .i64 0)).set_ 1 (.int .u32 0)).set_ 2 (.int .i64 0)
    have hB9 : Below w.heap.size w w9 := by
      rw [hw9]
      have hle : w.heap.size ≤ q + 1 := by rw [HX.out.1]; exact Nat.le_succ _
      exact ((HX.out.2.2.setCell (p := ⟨q + 1, 0, none⟩) hle _).setCell (p := ⟨q + 1, 1, none⟩) hle _).setCell (p := ⟨q + 1, 2, none⟩) hle _
    rw [← hw9]
    clear hw9 d0 d1 d2 f0 f1 f2
    have r0 := hz.cell 0
    have r1 := hz.cell 1
    have r2 := hz.cell 2
    simp only [List.getElem?_toArray, List.getElem?_cons_zero, List.getElem?_cons_succ] at r0 r1 r2
    rw [HP.out]
    exact bodyPost_ret (v := .tuple #[.agg #[.int .i64 0, .int .u32 0, .int .i64 0], .bool false]) (by simp [results, Try.results23, go_sem, r0, r1, r2]) rfl ⟨rfl, hB9⟩
  | true =>
    obtain ⟨A, n, c, A2, c2, c1', c2', c3', c4⟩ := id hch
    obtain ⟨g, rfl, _, hglt⟩ := own_head c3' (by omega)
    have hplt := c1'.lt
    have c1 := c1'.below hB1 c1'.lt
    have c3 := own_below c3' hB1
    have c2' := own_below c2' hB1
    clear c1' c3' hch1
    have htl : t.length = slots := owni_length c3
    have CF := Lib.hid (fun (W : World) (h : Below w1.heap.size w1 W) (id : Int) => chfind_yes p slots l t made id W (Ch.below ⟨A, n, c, _, c2, c1, c2', c3, c4⟩ h))
    obtain ⟨h, hhe⟩ : ∃ h, hashT ⟨src, dst, proto, sport, dport⟩ = h := ⟨_, rfl⟩
    rw [hhe] at hh hpk CH
    clear hhe
    have hmod : ((h : Int) % (slots : Int)) = ((h % slots : Nat) : Int) := (Int.natCast_emod h slots).symm
    have hjl : h % slots < slots := Nat.mod_lt _ (by omega)
    obtain ⟨j, hj⟩ : ∃ j, h % slots = j := ⟨_, rfl⟩
    rw [hj] at hmod hjl hpk
    clear hj
    have hcj : w1.cell? ⟨g, j, none⟩ = some (.int .i64 (t.getD j 0)) := by
      rw [owni_cell c3 j hjl (by omega), List.getD_eq_getElem?_getD, List.getElem?_eq_getElem (by omega)]
      rfl
    obtain ⟨y, hy⟩ : ∃ y, t.getD j 0 = y := ⟨_, rfl⟩
    rw [hy] at hcj hpk
    clear hy
    have CF2 := Lib.hid (fun (W : World) (h : Below w1.heap.size w1 W) => CF.out W h y)
    rw [if_pos rfl] at hpk
    rw [← hpk] at CF2
    clear hpk CF
    obtain ⟨⟨x, ad, wt⟩, ok⟩ := r
    dsimp only [Be.cells] at CF2 ⊢
    have PA : PickAt w1 p q g slots j c2 src dst proto sport dport y := by
      refine ⟨?_, ?_, ?_, ?_, ?_, ?_, ?_, hcj⟩
      · have := c1.cell 0; simpa using this
      · have := c1.cell 2; simpa using this
      · have := hq1.cell 0; simpa using this
      · have := hq1.cell 1; simpa using this
      · have := hq1.cell 2; simpa using this
      · have := hq1.cell 3; simpa using this
      · have := hq1.cell 4; simpa using this
    have hws : IntKind.u32.wrap (slots : Int) = (slots : Int) := by rw [IntKind.wrap_u32]; omega
    have hjI : (j : Int) < (slots : Int) := by omega
    have h0b : ((slots : Int) == 0) = false := by simp; omega
    have HX := Lib.hid (And.intro hq (And.intro hr1 (And.intro hB1 PA)))
    have HG : Hid (p < q + 1 ∧ g < q + 1) := ⟨by omega, by omega⟩
    have hs0 : ¬ slots = 0 := by omega
    have h0j : (0 : Int) ≤ (j : Int) := by omega
    have hjw : IntKind.u32.wrap (j : Int) = (j : Int) := by rw [IntKind.wrap_u32]; omega
    have hmodt : Int.tmod (h : Int) (slots : Int) = (j : Int) := by rw [Int.tmod_eq_emod_of_nonneg (by omega)]; exact hmod
    clear hplt hglt
    clear c1 c2' c3 c4 hq1 hch hb1 HB hcj hr1 hB1 PA htl hq hm hk
    go_wp2_with fail
    obtain ⟨d0, d1, d2, d3, d4, d5, d6, d7⟩ := HX.out.2.2.2.drew
    go_region_held3 (fun wS => wS.cell? ⟨p, 0, none⟩ = some (.int .i64 slots) ∧ wS.cell? ⟨p, 2, none⟩ = some (.slice (some ⟨g, 0, none⟩) slots c2) ∧ wS.cell? ⟨q, 0, none⟩ = some (.int .u32 (src : Int)) ∧ wS.cell? ⟨q, 1, none⟩ = some (.int .u32 (dst : Int)) ∧ wS.cell? ⟨q, 2, none⟩ = some (.int .i64 proto) ∧ wS.cell? ⟨q, 3, none⟩ = some (.int .i64 sport) ∧ wS.cell? ⟨q, 4, none⟩ = some (.int .i64 dport) ∧ wS.cell? ⟨g, j, none⟩ = some (.int .i64 y)) (first | with_reducible exact ⟨d0, d1, d2, d3, d4, d5, d6, d7⟩ | with_reducible exact ⟨z0, z1, z2, z3, z4, z5, z6, z7⟩ | with_reducible exact ⟨y0, y1, y2, y3, y4, y5, y6, y7⟩ | with_reducible exact (((PA3.far HG.out.1 (Nat.lt_succ_self q) HG.out.2 0 _).far HG.out.1 (Nat.lt_succ_self q) HG.out.2 1 _).far HG.out.1 (Nat.lt_succ_self q) HG.out.2 2 _).cells | fail)
      (first
      | (go_at_call 41; (with_reducible refine (CH.out _).mono ?_); rintro e w2 ⟨rfl, hb2⟩; have PA2 := PickAt.below HX.out.2.2.2.drew hb2; obtain ⟨z0, z1, z2, z3, z4, z5, z6, z7⟩ := id PA2)
      | (go_at_call 26; have hbd : Below w1.heap.size w1 w2 := (Below.refl w1.heap.size w1).drew.trans hb2; (with_reducible refine (CF2.out _ hbd).mono ?_); rintro e w3 ⟨rfl, hb3⟩; have PA3 := PA2.below hb3; obtain ⟨y0, y1, y2, y3, y4, y5, y6, y7⟩ := id PA3; have hr3 := (HX.out.2.1.below hbd HX.out.2.1.lt).below hb3 (HX.out.2.1.below hbd HX.out.2.1.lt).lt; have f0 := hr3.frozen 0; have f1 := hr3.frozen 1; have f2 := hr3.frozen 2; have e0 := hr3.cell 0; have e1 := hr3.cell 1; have e2 := hr3.cell 2; simp only [List.getElem?_toArray, List.getElem?_cons_zero, List.getElem?_cons_succ] at e0 e1 e2))
    have hq13 := hb2.mono (B' := w1.heap.size) (Nat.le_refl _)
    have hB3 : Below w.heap.size w w3 := HX.out.2.2.1.trans ((hbd.trans (hb3.mono hbd.size)).mono HX.out.2.2.1.size)
    obtain ⟨w9, hw9⟩ : ∃ w9, w9 = ((w3.setCell ⟨q + 1, 0, none⟩ (.int .i64 x)).setCell ⟨q + 1, 1, none⟩ (.int .u32 (ad : Int))).setCell ⟨q + 1, 2, none⟩ (.int .i64 wt) := ⟨_, rfl⟩
    have hz : Blk w9 (q + 1) 27 #[.int .i64 x, .int .u32 (ad : Int), .int .i64 wt] := by
      rw [hw9]
      exact ((hr3.set_ 0 (.int .i64 x)).set_ 1 (.int .u32 (ad : Int))).set_ 2 (.int .i64 wt)
    have hB9 : Below w.heap.size w w9 := by
      rw [hw9]
      have hle : w.heap.size ≤ q + 1 := by rw [HX.out.1]; exact Nat.le_succ _
      exact ((hB3.setCell (p := ⟨q + 1, 0, none⟩) hle _).setCell (p := ⟨q + 1, 1, none⟩) hle _).setCell (p := ⟨q + 1, 2, none⟩) hle _
    rw [← hw9]
    have HB9 := Lib.hid (And.intro hz hB9)
    clear hw9 d0 d1 d2 d3 d4 d5 d6 d7 z0 z1 z2 z3 z4 z5 z6 z7 y0 y1 y2 y3 y4 y5 y6 y7 f0 f1 f2 e0 e1 e2 PA2 PA3 hr3 hB3 hb2 hb3 hbd hq13 hB9 hz CF2 CH HX
    go_wp2_with fail
    have hz := HB9.out.1
    have r0 := hz.cell 0
    have r1 := hz.cell 1
    have r2 := hz.cell 2
    simp only [List.getElem?_toArray, List.getElem?_cons_zero, List.getElem?_cons_succ] at r0 r1 r2
    exact bodyPost_ret (v := .tuple #[.agg #[.int .i64 x, .int .u32 (ad : Int), .int .i64 wt], .bool ok]) (by simp [results, Try.results23, go_sem, r0, r1, r2]) rfl ⟨rfl, HB9.out.2⟩
end Go.Proofs.Ytaamflhleommlaa
