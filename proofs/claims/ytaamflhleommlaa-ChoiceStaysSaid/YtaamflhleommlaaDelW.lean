/- The walk of slices.DeleteFunc at backends, on a row of the caller's own, with whatever closure. -/
import Derived.Test.YtaamflhleommlaaClearBe
namespace Go.Proofs.Ytaamflhleommlaa
set_option linter.unusedVariables false
set_option linter.unusedSimpArgs false
open Go.RowKit Go.Shelf Go.Lib

structure DelInv (p : Be → Bool) (l l' : List Be) (k m : Nat) : Prop where
  lt : m < k
  len : m = (keepBe p (l.take k)).length
  all : l'.length = l.length
  head : l'.take m = keepBe p (l.take k)
  tail : l'.drop k = l.drop k
theorem DelInv.start {p : Be → Bool} {l : List Be} {k : Nat} (h : idxBe p l = (k : Int)) : k < l.length ∧ DelInv p l l (k + 1) k := by
  obtain ⟨hk, hp, ht⟩ := keep_first h
  have e : keepBe p (l.take (k + 1)) = l.take k := by rw [keep_take hk, if_pos hp, ht]
  exact ⟨hk, by omega, by rw [e, List.length_take]; omega, rfl, e.symm, rfl⟩
theorem DelInv.at_ {p : Be → Bool} {l l' : List Be} {k m : Nat} (h : DelInv p l l' k m) (hk : k < l.length) (hk' : k < l'.length) : l'[k] = l[k] := by
  have h1 : (l'.drop k)[0]? = (l.drop k)[0]? := by rw [h.tail]
  rw [List.getElem?_drop, List.getElem?_drop, Nat.add_zero, List.getElem?_eq_getElem hk', List.getElem?_eq_getElem hk] at h1
  injection h1
theorem drop_next {l l' : List Be} {k : Nat} (h : l'.drop k = l.drop k) : l'.drop (k + 1) = l.drop (k + 1) := by
  rw [← List.drop_drop, ← List.drop_drop, h]
theorem DelInv.out {p : Be → Bool} {l l' : List Be} {k m : Nat} (h : DelInv p l l' k m) (hk : k < l.length) (hp : p l[k] = true) : DelInv p l l' (k + 1) m := by
  have e : keepBe p (l.take (k + 1)) = keepBe p (l.take k) := by rw [keep_take hk, if_pos hp]
  exact ⟨by have := h.lt; omega, by rw [e]; exact h.len, h.all, by rw [e]; exact h.head, drop_next h.tail⟩
theorem DelInv.keep {p : Be → Bool} {l l' : List Be} {k m : Nat} (h : DelInv p l l' k m) (hk : k < l.length) (hp : p l[k] = false) : DelInv p l (l'.set m l[k]) (k + 1) (m + 1) := by
  have e : keepBe p (l.take (k + 1)) = keepBe p (l.take k) ++ [l[k]] := by rw [keep_take hk, if_neg (by simp [hp])]
  have hm : m < l'.length := by have := h.lt; have := h.all; omega
  refine ⟨by have := h.lt; omega, by rw [e, List.length_append, ← h.len]; rfl, by rw [List.length_set]; exact h.all, ?_, ?_⟩
  · rw [e, ← h.head, List.take_succ_eq_append_getElem (by rw [List.length_set]; exact hm), List.getElem_set_self, List.take_set_of_le (Nat.le_refl _)]
  · rw [List.drop_set_of_lt (by have := h.lt; omega)]
    exact drop_next h.tail
theorem bks_cons (a : Be) (r : List Be) : bks (a :: r) = .int .i64 a.id :: .int .u32 (a.addr : Int) :: .int .i64 a.weight :: bks r := rfl
theorem bks_set : ∀ (l : List Be) (m : Nat) (b : Be), (((bks l).set (m * 3) (.int .i64 b.id)).set (m * 3 + 1) (.int .u32 (b.addr : Int))).set (m * 3 + 2) (.int .i64 b.weight) = bks (l.set m b)
  | [], m, b => by simp [bks]
  | a :: r, 0, b => rfl
  | a :: r, m + 1, b => by
    have ih := bks_set r m b
    rw [show (m + 1) * 3 = m * 3 + 1 + 1 + 1 from by omega]
    simp only [bks_cons, List.set_cons_succ]
    rw [← ih]
theorem bks_take (l : List Be) (m : Nat) : (bks l).take (m * 3) = bks (l.take m) := by
  induction l generalizing m with
  | nil => simp [bks]
  | cons a r ih =>
    cases m with
    | zero => simp [bks]
    | succ m =>
      rw [show (m + 1) * 3 = m * 3 + 1 + 1 + 1 from by omega]
      simp only [bks_cons, List.take_succ_cons]
      rw [ih m]

theorem own_be3 {w : World} {base n c g : Nat} {e : TypeId} {l : List Be} (h : w.ownsRow base e 3 (.slice (some ⟨g, 0, none⟩) n c) n (bks l)) {j : Nat} (hj : j < n) :
    ∃ b : Be, (w.cell? ⟨g, j * 3, none⟩ = some (.int .i64 b.id) ∧ w.cell? ⟨g, j * 3 + 1, none⟩ = some (.int .u32 (b.addr : Int)) ∧ w.cell? ⟨g, j * 3 + 2, none⟩ = some (.int .i64 b.weight)) ∧
      w.frozen? ⟨g, j * 3, none⟩ = false ∧ w.frozen? ⟨g, j * 3 + 1, none⟩ = false ∧ w.frozen? ⟨g, j * 3 + 2, none⟩ = false := by
  obtain ⟨b0, off0, hl2, he0, hc0, hc1, hc2⟩ := (Reads.of_own h).be hj
  cases he0
  simp only [Nat.zero_add] at hc0 hc1 hc2
  exact ⟨l[j], ⟨hc0, hc1, hc2⟩, h.frozenAt _, h.frozenAt _, h.frozenAt _⟩
theorem own_set3 {w : World} {base n c g : Nat} {e : TypeId} {l : List Be} (h : w.ownsRow base e 3 (.slice (some ⟨g, 0, none⟩) n c) n (bks l)) (j : Nat) (b : Be) :
    (((w.setCell ⟨g, j * 3, none⟩ (.int .i64 b.id)).setCell ⟨g, j * 3 + 1, none⟩ (.int .u32 (b.addr : Int))).setCell ⟨g, j * 3 + 2, none⟩ (.int .i64 b.weight)).ownsRow base e 3 (.slice (some ⟨g, 0, none⟩) n c) n (bks (l.set j b)) := by
  have h3 := ((((h.stored (j * 3) (.int .i64 b.id)).1).stored (j * 3 + 1) (.int .u32 (b.addr : Int))).1.stored (j * 3 + 2) (.int .i64 b.weight)).1
  rwa [bks_set] at h3
theorem own_cap {w : World} {base size n c : Nat} {A : Option Addr} {e : TypeId} {xs : List Value} (h : w.ownsRow base e size (.slice A n c) n xs) : n ≤ c ∧ c ≤ maxLen := by
  rcases h.2 with ⟨h', _⟩ | ⟨g', cap', cur, h', hb, hg, hnc, hcm, hcs, htake⟩
  · injection h' with h1 h2 h3
    subst h2 h3
    exact ⟨Nat.le_refl _, by decide⟩
  · injection h' with h1 h2 h3
    subst h3
    exact ⟨hnc, hcm⟩
theorem below_cells {B : Nat} {a : World} (b : Nat) (hb : B ≤ b) : ∀ (vs : List Value) (o : Nat) {w : World}, Below B a w → Below B a (w.setCells b o vs)
  | [], _, _, h => h
  | v :: r, o, _, h => below_cells b hb r (o + 1) (h.setCell (p := ⟨b, o, none⟩) hb v)
theorem cell_in {w : World} {base n c g : Nat} {e : TypeId} {l : List Be} (h : w.ownsRow base e 3 (.slice (some ⟨g, 0, none⟩) n c) n (bks l)) {j : Nat} (hj : j < n * 3) : (w.cell? ⟨g, j, none⟩).isSome = true := by
  rw [h.cellAt j hj, List.getElem?_eq_getElem (by rw [h.1]; exact hj)]
  rfl
theorem cut_reads {w : World} {base n c g m : Nat} {e : TypeId} {l : List Be} (zs : List Value) (h : w.ownsRow base e 3 (.slice (some ⟨g, 0, none⟩) n c) n (bks l)) (hm : m ≤ n) :
    Reads (w.setCells g (m * 3) zs) w.heap.size 3 (some ⟨g, 0, none⟩) m (bks (l.take m)) := by
  have hl : l.length = n := (Reads.of_own h).be_length
  refine ⟨by rw [bks_length, List.length_take]; omega, fun h0 => ⟨_, rfl, (h.lt g rfl).2, fun j u hu => ?_⟩⟩
  have hj : j < m * 3 := by
    have := (List.getElem?_eq_some_iff.1 hu).1
    rw [bks_length, List.length_take] at this
    omega
  have e0 : (⟨g, 0, none⟩ : Addr).add j = ⟨g, j, none⟩ := by
    unfold Addr.add
    split
    · subst_vars; rfl
    · simp
  rw [e0, World.cell?_setCells_out g zs (m * 3) w ⟨g, j, none⟩ (fun _ _ => .inl hj), h.cellAt j (by omega), ← hu, ← bks_take, List.getElem?_take, if_pos hj]

set_option maxHeartbeats 4000000 in
set_option maxRecDepth 100000 in
theorem del_any (g : Nat) (lb : Array Value) (p : Be → Bool) (eg : ∀ args w, (callFunc g args).run Try.prog w = .ok (.enter g args) w) (A : Option Addr) (n c base : Nat) (l : List Be) (w : World)
    (hown : w.ownsRow base 27 3 (.slice A n c) n (bks l)) (hbase : base ≤ w.heap.size) (hn : n ≤ 1000000)
    (hp : ∀ (W : World) (x : Be), Below base w W → Calls Try.prog g (#[.agg #[.int .i64 x.id, .int .u32 (x.addr : Int), .int .i64 x.weight]] ++ lb) W fun e w' => e = .returned (.bool (p x)) ∧ Below W.heap.size W w') :
    Calls Try.prog 47 #[.slice A n c, .func (.func g) #[] lb] w fun e w' => ∃ A' m c', e = .returned (.slice A' m c') ∧ m = (keepBe p l).length ∧ m ≤ c' ∧ Reads w' w'.heap.size 3 A' m (bks (keepBe p l)) ∧ Below base w w' := by
  have hr := Reads.of_own hown
  have hlen := hr.be_length
  have CI := Lib.hid (idx_any g lb p eg A n c _ l w hr (Nat.le_refl _) (by omega) (fun W x hb => (hp W x (hb.mono hbase)).mono fun e w' ⟨h1, h2⟩ => ⟨h1, hb.trans (h2.mono hb.size)⟩))
  obtain ⟨v, hv⟩ : ∃ v, v = idxBe p l := ⟨_, rfl⟩
  rw [← hv] at CI
  by_cases h1 : v = -1
  · subst h1
    have HK := Lib.hid (keep_none hv.symm)
    have HO := Lib.hid hr
    have HC := Lib.hid (own_cap hown)
    clear hv hr hp hown
    go_enter Try.func47, Try.ntmps47
    go_wp2_with (refine CI.out.mono ?_; rintro e w' ⟨rfl, hb'⟩)
    go_ret
    exact ⟨A, n, c, rfl, by rw [HK.out]; exact hlen.symm, HC.out.1, by rw [HK.out]; exact (HO.out.below hb').more hb'.size, hb'.mono hbase⟩
  · obtain ⟨k0, hk0⟩ : ∃ k : Nat, v = (k : Int) := by
      rw [hv] at h1 ⊢
      unfold idxBe at h1 ⊢
      cases hf : l.findIdx? p with
      | some i => exact ⟨i, rfl⟩
      | none => rw [hf] at h1; exact absurd rfl h1
    subst hk0
    obtain ⟨hkl, hstart⟩ := DelInv.start hv.symm
    obtain ⟨gb, cap, he, hgb, hglt⟩ := hown.form (by omega)
    injection he with he1 he2 he3
    subst he1 he3
    have hd1 : ((k0 : Int) == -1) = false := by simp
    have HS := Lib.hid hstart
    clear hv h1 hr hstart
    go_enter Try.func47, Try.ntmps47
    go_wp2_with (refine CI.out.mono ?_; rintro e w' ⟨rfl, hb'⟩)
    have hown1 := own_below hown hb'
    have hbb := hb'.mono hbase
    clear hb' hown CI
    go_loopw [5, 6] (fun d i wr => ∃ (k m : Nat) (l' : List Be), k ≤ n ∧ m < k ∧ d = .int .i64 (m : Int) ∧ i = .int .i64 (k : Int) ∧ Hid (DelInv p l l' k m) ∧ wr.ownsRow base 27 3 (.slice (some ⟨gb, 0, none⟩) n c) n (bks l') ∧ Below base w wr) (fun _ i _ => n - (intOf i).toNat)
    case atStart => exact ⟨k0 + 1, k0, l, by omega, by omega, rfl, rfl, HS, hown1, hbb⟩
    case round =>
      obtain ⟨k, m, l', hk, hmk, rfl, rfl, hinv, ho, hb⟩ := hrel
      clear hown1 hbb HS hd1 hkl
      by_cases hkn : k < n
      · have hl : k < l.length := by omega
        have hl' : k < l'.length := by have := hinv.out.all; omega
        obtain ⟨b0, off0, hl2, he0, hc0, hc1, hc2⟩ := (Reads.of_own ho).be hkn
        cases he0
        rw [hinv.out.at_ hl hl'] at hc0 hc1 hc2
        simp only [Nat.zero_add] at hc0 hc1 hc2
        have HYES := Lib.hid (hinv.out.out hl)
        have HNO := Lib.hid (hinv.out.keep hl)
        have hb2 := hb.alloc (by have := hb.size; omega) (.cells #[.int .i64 l[k].id, .int .u32 (l[k].addr : Int), .int .i64 l[k].weight] 27)
        have hcall := hp _ l[k] hb2
        have hx2 := Blk.new wr 27 #[.int .i64 l[k].id, .int .u32 (l[k].addr : Int), .int .i64 l[k].weight]
        have ho2 := ho.alloc (.cells #[.int .i64 l[k].id, .int .u32 (l[k].addr : Int), .int .i64 l[k].weight] 27)
        obtain ⟨v, hv⟩ : ∃ v, v = p l[k] := ⟨_, rfl⟩
        rw [← hv] at HYES HNO hcall
        clear hv
        obtain ⟨⟨x, ad, wt⟩, hbe⟩ : ∃ b : Be, b = l[k] := ⟨_, rfl⟩
        rw [← hbe] at HNO hc0 hc1 hc2 hb2 hcall hx2 ho2
        dsimp only at HNO hc0 hc1 hc2 hb2 hcall hx2 ho2
        clear hbe ho hp
        have HX := Lib.hid (And.intro hb2 (And.intro hx2 ho2))
        clear hb2 hx2 ho2
        go_upto_region 8 with fail
        obtain ⟨q, hq⟩ : ∃ q, q = wr.heap.size := ⟨_, rfl⟩
        rw [← hq] at HX ⊢
        clear hc0 hc1 hc2
        generalize wr.alloc (.cells #[.int .i64 x, .int .u32 (ad : Int), .int .i64 wt] 27) = w2 at *
        clear hq hb
        have g0 := HX.out.2.1.cell 0
        have g1 := HX.out.2.1.cell 1
        have g2 := HX.out.2.1.cell 2
        simp only [List.getElem?_toArray, List.getElem?_cons_zero, List.getElem?_cons_succ] at g0 g1 g2
        have hbase2 : base ≤ w2.heap.size := Nat.le_trans hbase HX.out.1.size
        cases v with
        | true =>
          go_wp2_with (go_at_fn g; refine hcall.mono ?_; rintro e w3 ⟨rfl, hb3⟩)
          go_roundw
          case rel => exact ⟨k + 1, m, l', by omega, by omega, rfl, by go_num, HYES.out trivial, own_below HX.out.2.2 hb3, HX.out.1.trans (hb3.mono hbase2)⟩
          case measure => simp [intOf]; omega
        | false =>
          have hmn : m < n := by omega
          go_wp2_with (go_at_fn g; refine hcall.mono ?_; rintro e w3 ⟨rfl, hb3⟩; have ho3 := own_below HX.out.2.2 hb3; have hx3 := HX.out.2.1.below hb3 HX.out.2.1.lt; have d0 := hx3.cell 0; have d1 := hx3.cell 1; have d2 := hx3.cell 2; simp only [List.getElem?_toArray, List.getElem?_cons_zero, List.getElem?_cons_succ] at d0 d1 d2; obtain ⟨⟨bi, ba, bw⟩, ⟨s0, s1, s2⟩, f0, f1, f2⟩ := own_be3 ho3 hmn; dsimp only at s0 s1 s2; have HO3 := Lib.hid ho3; clear g0 g1 g2 ho3 hx3)
          go_roundw
          case rel =>
            exact ⟨k + 1, m + 1, l'.set m ⟨x, ad, wt⟩, by omega, by omega, by go_num, by go_num, HNO.out trivial, own_set3 HO3.out m ⟨x, ad, wt⟩,
              (((HX.out.1.trans (hb3.mono hbase2)).setCell (p := ⟨gb, m * 3, none⟩) hgb _).setCell (p := ⟨gb, m * 3 + 1, none⟩) hgb _).setCell (p := ⟨gb, m * 3 + 2, none⟩) hgb _⟩
          case measure => simp [intOf]; omega
      · have hkk : k = n := by omega
        subst hkk
        clear hp
        have hmn : m < k := hmk
        have hcap := own_cap ho
        have hzv : ∀ w, (zeroValue 27).run Try.prog w = .ok zeroBe w := fun _ => by kernel_rfl
        have hclr := run_clear_be wr 23 27 0 Try.underlying23 hzv gb (m * 3) (k - m) (c - m) (by omega) (fun j hj => cell_in ho (by omega)) (fun j _ => ho.frozenAt _)
        obtain ⟨zs, hzs⟩ : ∃ zs, (Builtin.zeroCells zeroBe.cells (k - m)).toList = zs := ⟨_, rfl⟩
        rw [hzs] at hclr
        clear hzs
        go_wp2_with fail
        go_ret
        have hsz : (wr.setCells gb (m * 3) zs).heap.size ≥ wr.heap.size := (below_cells gb (Nat.zero_le _) zs (m * 3) (Below.refl 0 wr)).size
        have hkeep : l'.take m = keepBe p l := by have := hinv.out.head; rwa [List.take_of_length_le (l := l) (by omega)] at this
        have hRd := cut_reads (m := m) zs ho (by omega)
        rw [hkeep] at hRd
        exact ⟨_, m, c, rfl, by have := hinv.out.len; rwa [List.take_of_length_le (l := l) (by omega)] at this, by omega, hRd.more hsz, below_cells gb hgb zs _ hb⟩
end Go.Proofs.Ytaamflhleommlaa
