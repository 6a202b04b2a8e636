/- append(x, make([]byte, m)...) onto a row of bytes of the call's own. -/
import Derived.Test.YtbimdogiollgkaaMem
import Derived.Lib.AppendZerosOnto
namespace Go.Proofs.Ytbimdogiollgkaa
set_option linter.unusedVariables false
open Go.RowKit

theorem zeros_list (m : Nat) : (Builtin.zeroCells (Value.int .u8 0).cells m).toList = bv (List.replicate m 0) := by
  rw [show (Value.int IntKind.u8 0).cells = #[Value.int .u8 0] from rfl]
  rw [List.eq_replicate_iff.2 (⟨rfl, fun b hb => ?_⟩ : _ = _ ∧ ∀ b ∈ (Builtin.zeroCells #[Value.int .u8 0] m).toList, b = Value.int .u8 0)]
  · simp [Builtin.zeroCells, bv]
  · simp [Builtin.zeroCells, Nat.mod_one] at hb
    exact hb.2.symm

theorem run_append_zeros_b {P : Program} {w : World} (base : Nat) (t tn ty e : TypeId) (kn kq : IntKind) (ht : P.underlying t = some (.slice e)) (htn : P.underlying tn = some (.int kn))
    (hinfo : (P.info? e).map (fun i => (i.zero, i.size, i.bytes)) = some (some (.int .u8 0), 1, 1))
    (v : Value) (n : Nat) (l : List Nat) (hown : w.ownsRow base e 1 v n (bv l)) (m : Nat) (hbytes : n + m ≤ 140737488355328) (hbase : base ≤ w.heap.size) :
    ∃ v' w', (Builtin.append_ #[t, tn] ty #[v, .int kq (m : Int)]).run P w = .ok v' w' ∧ w'.ownsRow base e 1 v' (n + m) (bv (l ++ List.replicate m 0)) ∧ w.grownBy w' v.ownBlock := by
  obtain ⟨i, hi, hz, hsz, hby⟩ := info_parts hinfo
  have hzero : (zeroValue e).run P w = .ok (.int .u8 0) w := by simp [zeroValue, typeInfo, hi, hz]
  have hw : IntKind.i64.wrap (m : Int) = m := by rw [IntKind.wrap_i64]; omega
  have hneg : ¬ ((m : Int) < 0) := by omega
  have h48i : ¬ (281474976710656 < (m : Int) * (i.bytes : Int)) := by rw [hby]; omega
  have grown : ∀ (old : Nat) (row : Option Nat), (w.drew.alloc (.cells ((bv l).toArray ++ Builtin.zeroCells (Value.int .u8 0).cells m ++ Builtin.zeroCells (Value.int .u8 0).cells (grownCap w (n + m) old e - (n + m))) e)).ownsRow base e 1
        (.slice (some ⟨w.heap.size, 0, none⟩) (n + m) (grownCap w (n + m) old e)) (n + m) (bv (l ++ List.replicate m 0)) ∧
      w.grownBy (w.drew.alloc (.cells ((bv l).toArray ++ Builtin.zeroCells (Value.int .u8 0).cells m ++ Builtin.zeroCells (Value.int .u8 0).cells (grownCap w (n + m) old e - (n + m))) e)) row := by
    intro old row
    have hge := grownCap_ge w (n + m) old e
    have hcm : grownCap w (n + m) old e ≤ maxLen := grownCap_le_maxLen w (n + m) old e (by unfold maxLen; omega)
    have hl1 := hown.1
    refine ⟨⟨?_, .inr ⟨w.heap.size, _, _, rfl, hbase, heap_alloc_new w.drew _, hge, hcm, ?_, ?_⟩⟩, ⟨rfl, rfl, rfl, by simp, fun k hk _ => heap_alloc_old w.drew _ k hk⟩⟩
    · rw [bv_length] at *; simp; omega
    · rw [show (Value.int IntKind.u8 0).cells = #[Value.int .u8 0] from rfl]
      simp only [Array.size_append, List.size_toArray, size_zeroCells]
      rw [bv_length] at *
      simp
      omega
    · simp only [Array.toList_append, zeros_list, List.append_assoc]
      rw [bv_append]
      rw [show (n + m) * 1 = ((bv l) ++ bv (List.replicate m 0)).length from by simp [bv_length] at *; omega]
      rw [← List.append_assoc]
      exact List.take_left
  rcases hown.2 with ⟨rfl, rfl⟩ | ⟨g, cap, cur, rfl, hbg, hg, hnc, hcm, hcs, htake⟩
  · have hl0 : l = [] := by
      have := hown.1
      rw [bv_length] at this
      exact List.eq_nil_of_length_eq_zero (by omega)
    subst hl0
    by_cases hm : m = 0
    · subst hm
      refine ⟨.slice none 0 0, w, ?_, by simpa [bv] using World.ownsRow_nil w base e 1, World.grownBy.refl w _⟩
      simp [Builtin.append_, run_underlying ht, run_underlying htn, sizeOf, typeInfo, hi, asInt, asIntOf, storeCells, IntKind.wrap_i64]
    · have hr := Lib.run_append_nil_zeros (P := P) w t tn ty e i _ kq kn ht htn hi hz m (by omega) (by omega) (by omega) (by rw [hby]; omega)
      have hgr := grown 0 (Value.ownBlock (.slice none 0 0))
      simp only [Nat.zero_add] at hgr ⊢
      simp only [bv_nil, List.nil_append] at hgr
      have e1 : ((#[] : Array Value) ++ Builtin.zeroCells (Value.int IntKind.u8 0).cells m) = Builtin.zeroCells (Value.int IntKind.u8 0).cells m := Array.empty_append
      rw [e1] at hgr
      exact ⟨_, _, hr, hgr.1, hgr.2⟩
  · by_cases hroom : n + m ≤ cap
    · have hst := run_storeCells_at P g n e (bv (List.replicate m 0)) 0 cur w hg (by rw [bv_length]; simp; omega) (bv_one _)
      simp only [Nat.add_zero] at hst
      refine ⟨.slice (some ⟨g, 0, none⟩) (n + m) cap, w.setRow g (cur.toList.take n ++ bv (List.replicate m 0) ++ cur.toList.drop (n + (bv (List.replicate m 0)).length)).toArray, ?_, ⟨?_, .inr ⟨g, cap, _, rfl, hbg, setRow_heap w g cur _ e _ hg, hroom, hcm, ?_, ?_⟩⟩, ⟨rfl, rfl, rfl, by simp, fun k _ hk => setRow_other w g k _ (fun e => hk (by simp [Value.ownBlock, e]))⟩⟩
      · by_cases hm : m = 0
        · subst hm
          have h2 : Result.ok () w = Result.ok () (w.setRow g (cur.toList.take n ++ bv (List.replicate 0 0) ++ cur.toList.drop (n + (bv (List.replicate 0 0)).length)).toArray) := hst
          injection h2 with _ h2
          rw [← h2]
          simp [Builtin.append_, run_underlying ht, run_underlying htn, sizeOf, typeInfo, hi, hsz, asInt, asIntOf, hnc, storeCells, IntKind.wrap_i64]
        · simp [Builtin.append_, run_underlying ht, run_underlying htn, sizeOf, typeInfo, hi, hsz, asInt, asIntOf, hw, hneg, h48i, hm, hroom, hzero, Addr.add_lit, zeros_list, hst]
      · have := hown.1; rw [bv_length] at *; simp; omega
      · simp only [List.size_toArray, List.length_append, List.length_take, List.length_drop, Array.length_toList, bv_length, List.length_replicate]
        omega
      · have h1 : (cur.toList.take n) = bv l := by simpa using htake
        rw [h1, bv_append]
        have hl := hown.1
        rw [show (n + m) * 1 = ((bv l) ++ bv (List.replicate m 0)).length from by simp [bv_length] at *; omega]
        exact List.take_left
    · have hold : ∀ j u, (bv l)[j]? = some u → w.drew.cell? ((⟨g, 0, none⟩ : Addr).add j) = some u := hown.cells (g := g) rfl
      have hlb := hown.1
      have hf := run_firstCells_some (P := P) w.drew i.size n ⟨g, 0, none⟩ n cap (bv l) (by rw [hsz]; exact hlb) hold
      have hr := Lib.run_append_grow_zeros (P := P) w t tn ty e i _ kq kn ht htn hi hz (some ⟨g, 0, none⟩) n cap (bv l) hf m (by omega) (by omega) (by omega) (by omega) (by rw [hby]; omega)
        (by have := growslice_fits (need := n + m) (old := cap) (bytes := 1) (by omega) (by omega); rw [hby]; exact this)
      have hgr := grown cap (Value.ownBlock (.slice (some ⟨g, 0, none⟩) n cap))
      exact ⟨_, _, hr, hgr.1, hgr.2⟩

theorem wpList_append_z {P : Program} {w : World} {ops : Array Oper} {rest : List Oper} {o : Oper} {a : Act} {Q : Exit → Act → World → Prop} (hw : Region.wanted o (yielded ops a.tmps) = true) (s x : Operand) (t tn : TypeId)
    (ho : o.op = .call { callee := .builtin .append, args := #[s, x], argTypes := #[t, tn] })
    (e : TypeId) (hi : (P.info? e).map (fun i => (i.zero, i.size, i.bytes)) = some (some (.int .u8 0), 1, 1)) (ht : P.underlying t = some (.slice e)) (kn kq : IntKind) (htn : P.underlying tn = some (.int kn))
    (base : Nat) (v : Value) (n : Nat) (l : List Nat) (hs : a.eval s = v) (hown : w.ownsRow base e 1 v n (bv l))
    (M : Int) (m : Nat) (hx : a.eval x = .int kq M) (hM : M = (m : Int))
    (k : Nat) (hk : n + m = k) (hbytes : k ≤ 140737488355328) (hbase : base ≤ w.heap.size)
    (h : ∀ A' c' w', w'.ownsRow base e 1 (.slice A' k c') k (bv (l ++ List.replicate m 0)) → Below base w w' → w.grownBy w' v.ownBlock → wpList P ops Q rest (a.put o.dst (.slice A' k c')) w') :
    wpList P ops Q (o :: rest) a w := by
  subst hk hM
  obtain ⟨v', w', hrun, h1, h2⟩ := run_append_zeros_b (P := P) (w := w) base t tn o.type e kn kq ht htn hi v n l hown m hbytes hbase
  obtain ⟨A', c', rfl⟩ := own_slice h1
  exact BigFrame.wpList_want hw fun _ hK => Lib.wp_append_run w s x t tn ho v _ hs hx _ _ hrun (hK _ _ (h A' c' w' h1 ((Below.refl _ _).grown h2 hbase (fun k hk => (hown.lt k hk).1)) h2))
end Go.Proofs.Ytbimdogiollgkaa
