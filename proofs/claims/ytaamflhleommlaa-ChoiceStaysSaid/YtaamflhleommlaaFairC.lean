/- What MaglevFair asks of a table, in plain words. -/
import Derived.Test.YtaamflhleommlaaBeRow
namespace Go.Proofs.Ytaamflhleommlaa
set_option linter.unusedVariables false
set_option linter.unusedSimpArgs false
open Go.RowKit Go.Maps

def idAt (l : List Be) (j : Nat) : Int := (l[j]?.map Be.id).getD 0
def wAt (l : List Be) (j : Nat) : Nat := ((l[j]?.map Be.weight).getD 0).toNat
theorem idAt_eq {l : List Be} {j : Nat} (h : j < l.length) : idAt l j = l[j].id := by unfold idAt; rw [List.getElem?_eq_getElem h]; rfl
theorem wAt_eq {l : List Be} {j : Nat} (h : j < l.length) : wAt l j = l[j].weight.toNat := by unfold wAt; rw [List.getElem?_eq_getElem h]; rfl
def eqK (l : List Be) : Nat → Bool
  | 0 => true
  | k + 1 => eqK l k && decide (wAt l k = wAt l 0)
theorem eqK_all {l : List Be} : ∀ (k : Nat), eqK l k = true → ∀ j, j < k → wAt l j = wAt l 0
  | k + 1, h, j, hj => by
    unfold eqK at h
    rw [Bool.and_eq_true, decide_eq_true_eq] at h
    by_cases e : j = k
    · subst e; exact h.2
    · exact eqK_all k h.1 j (by omega)
theorem sumTo_congr {f g : Nat → Nat} : ∀ k, (∀ j, j < k → f j = g j) → sumTo f k = sumTo g k
  | 0, _ => rfl
  | k + 1, h => by simp only [sumTo]; rw [sumTo_congr k (fun j hj => h j (by omega)), h k (by omega)]
theorem sumTo_sum : ∀ (l : List Nat), sumTo (fun j => (l[j]?).getD 0) l.length = l.sum := by
  intro l
  have key : ∀ (k : Nat), k ≤ l.length → sumTo (fun j => (l[j]?).getD 0) k = (l.take k).sum := by
    intro k
    induction k with
    | zero => intro _; rfl
    | succ k ih =>
      intro hk
      simp only [sumTo]
      rw [ih (by omega), List.take_succ_eq_append_getElem (by omega), List.sum_append, List.getElem?_eq_getElem (by omega)]
      simp
  have := key l.length (Nat.le_refl _)
  rwa [List.take_length] at this

structure FairOk (l : List Be) (n : Nat) (t : List Int) (all rounds : Nat) : Prop where
  len : t.length = n
  ok : IntsOk t
  all1 : 1 ≤ all
  all2 : all ≤ 160
  sum : sumTo (wAt l) l.length = all
  rnd : rounds = (n + all - 1) / all
  total : sumTo (fun j => t.count (idAt l j)) l.length = n
  size : Maps.size (shK t n) ≤ l.length
  each : ∀ j, j < l.length → (rounds - 1) * wAt l j ≤ t.count (idAt l j) ∧ t.count (idAt l j) ≤ rounds * wAt l j
  equal : eqK l l.length = true → ∀ i j, i < l.length → j < l.length → t.count (idAt l i) ≤ t.count (idAt l j) + wAt l i

theorem fair_ok {l : List Be} {n : Nat} (hm : mayN n = true) (hr : Rising l) (h0 : 0 < l.length) (h16 : l.length ≤ 16) : ∃ all rounds, FairOk l n (tableF l n) all rounds := by
  have hmay := hr.may h0 h16
  have hg := good_of hm hmay
  have hb := may_bounds hm
  have hnd := rising_nodup (n := n) hr.2
  have hlenb : (l.map (bkOf n)).length = l.length := by simp
  have hT : tableF l n = tableB (l.map (bkOf n)) n := tableF_yes hmay
  have hcnt : ∀ j, j < l.length → (tableF l n).count (idAt l j) = turnsBy (l.map (bkOf n)) j n := by
    intro j hj
    rw [hT, idAt_eq hj]
    have := tableB_count hg hnd (b := j) (by rw [hlenb]; exact hj)
    rw [← this]
    simp [bkOf]
  have hwt : ∀ j (hj : j < l.length), ((l.map (bkOf n))[j]'(by rw [hlenb]; exact hj)).weight = wAt l j := by
    intro j hj
    rw [wAt_eq hj]
    simp [bkOf]
  have hlen : (tableF l n).length = n := by rw [hT]; exact tableB_length hg
  have hlt := takes_length (l.map (bkOf n)) 0
  have hsum : sumTo (wAt l) l.length = (takes (l.map (bkOf n))).length := by
    have e : (takes (l.map (bkOf n))).length = (((l.map (bkOf n)).map Bk.weight)).sum := hlt
    rw [e, ← sumTo_sum]
    simp only [List.length_map]
    refine sumTo_congr _ (fun j hj => ?_)
    rw [wAt_eq hj]
    simp [hj, bkOf]
  have hle160 : ∀ k, k ≤ l.length → sumTo (wAt l) k ≤ 10 * k := by
    intro k
    induction k with
    | zero => intro _; exact Nat.le_refl _
    | succ k ih =>
      intro hk
      have := ih (by omega)
      obtain ⟨_, _, _, h3, h4, _⟩ := hr.2 k (by omega)
      simp only [sumTo]
      have := wAt_eq (l := l) (j := k) (by omega)
      omega
  refine ⟨(takes (l.map (bkOf n))).length, (n + (takes (l.map (bkOf n))).length - 1) / (takes (l.map (bkOf n))).length, hlen, ?_, takes_pos hg, ?_, hsum, rfl, ?_, ?_, ?_, ?_⟩
  · intro x hx
    rw [hT] at hx
    obtain ⟨b, hb, rfl⟩ := tableB_full hg x hx
    obtain ⟨y, hy, rfl⟩ := List.mem_map.1 hb
    exact (hr.1 y hy).1
  · rw [← hsum]
    have := hle160 l.length (Nat.le_refl _)
    omega
  · rw [sumTo_congr l.length hcnt]
    have := turnsBy_sum hg n
    rwa [hlenb] at this
  · have h1 := shK_size (tableF l n) (l.map Be.id) (fun x hx _ => by
      rw [hT] at hx
      obtain ⟨b, hb, rfl⟩ := tableB_full hg x hx
      obtain ⟨y, hy, rfl⟩ := List.mem_map.1 hb
      exact List.mem_map.2 ⟨y, hy, rfl⟩) n (by omega)
    have h2 := List.countP_le_length (p := fun x => decide (x ∈ (tableF l n).take n)) (l := l.map Be.id)
    rw [List.length_map] at h2
    omega
  · intro j hj
    rw [hcnt j hj]
    have := turnsBy_bounds hg (b := j) (by rw [hlenb]; exact hj) n _ rfl
    rwa [hwt j hj] at this
  · intro he i j hi hj
    have e1 := eqK_all _ he i hi
    have e2 := eqK_all _ he j hj
    have b1 := turnsBy_bounds hg (b := i) (by rw [hlenb]; exact hi) n _ rfl
    have b2 := turnsBy_bounds hg (b := j) (by rw [hlenb]; exact hj) n _ rfl
    rw [hwt i hi] at b1
    rw [hwt j hj] at b2
    rw [hcnt i hi, hcnt j hj]
    rw [e2, ← e1] at b2
    generalize (n + (takes (l.map (bkOf n))).length - 1) / (takes (l.map (bkOf n))).length = R at *
    generalize wAt l i = W at *
    have h3 : R * W ≤ (R - 1) * W + W := by
      rcases R with _ | R
      · simp
      · rw [Nat.add_sub_cancel, Nat.add_mul, Nat.one_mul]; exact Nat.le_refl _
    omega

theorem may_nil : ¬ MayB 0 [] := fun h => by have := h.1; omega
theorem fair_nil {n : Nat} (hm : mayN n = true) : tableF [] n = List.replicate n (-1) := tableF_no may_nil
theorem fair_nil_size (n : Nat) : Maps.size (shK (List.replicate n (-1)) n) = 0 := by
  rw [shK_none _ (fun x hx => by rw [(List.mem_replicate.1 hx).2]; omega) n (by simp)]
  rfl
theorem neg_ok (n : Nat) : IntsOk (List.replicate n (-1)) := by
  intro x hx
  rw [(List.mem_replicate.1 hx).2]
  exact ⟨by omega, by omega⟩

theorem sumTo_mono (f : Nat → Nat) : ∀ (m k : Nat), k ≤ m → sumTo f k ≤ sumTo f m
  | 0, k, h => by have : k = 0 := by omega
                  subst this; exact Nat.le_refl _
  | m + 1, k, h => by
    by_cases e : k = m + 1
    · subst e; exact Nat.le_refl _
    · have := sumTo_mono f m k (by omega)
      simp only [sumTo]; omega
theorem share_run {w : World} {b s : Nat} {t : List Int} {x : Int} (h : w.ownsMap Try.prog 3 (plainElem Try.prog 3) b s (shK t s)) (hlen : t.length = s) (h0 : 0 ≤ x) (hx : x ≤ 65535) :
    (Instr.lookup 30 (.map (some b)) (.int .i64 x) false).run Try.prog w = .ok (.int .i64 ((t.count x : Nat) : Int)) w := by
  obtain ⟨q, hrun, hat, _⟩ := h.lookup_int lawI infoM Try.underlying3 (zeroI _) (keyOf_int_mk Try.underlying3 (wf_of (x := x) (by omega)))
  rw [shK_at t x h0 s (by omega), ← hlen, List.take_length] at hat
  injection hat with hat
  injection hat with _ hat
  rw [hrun, hat]

/-- 'len(m)' of a map of the call's own, the guard says yes -/
theorem wpList_len_want {P : Program} {w : World} {ops : Array Oper} {rest : List Oper} {o : Oper} {a : Act} {Q : Exit → Act → World → Prop} (hgd : Region.wanted o (yielded ops a.tmps) = true) (m : Operand) (t : TypeId) (hop : o.op = Op.call { callee := Callee.builtin Builtin.len, args := #[m], argTypes := #[t] })
    (k e : TypeId) (ht : P.underlying t = some (.map k e)) (R : Value → Option (DataW Unit × List MemPlace)) (b n : Nat) (D : DataW Unit) (hm : a.eval m = .map (some b)) (hown : w.ownsMap P k R b n D)
    (hK : wpList P ops Q rest (a.put o.dst (.int .i64 (Maps.size D))) w) :
    wpList P ops Q (o :: rest) a w := by
  refine BigFrame.wpList_want hgd fun K' hK' => ?_
  unfold Oper.wp
  simp [execOp, hop, resolve, invoke, builtin, hm, hown.len ht o.type, Result.andThen]
  exact hK' _ _ hK

theorem be_cap {w : World} {base m c : Nat} {e : TypeId} {A : Option Addr} {xs : List Value} {size : Nat} (h : w.ownsRow base e size (.slice A m c) m xs) : m ≤ c := by
  rcases h.2 with ⟨h, _⟩ | ⟨g, cap, cur, h, _, _, hc, _⟩
  · cases h; exact Nat.le_refl _
  · cases h; exact hc
end Go.Proofs.Ytaamflhleommlaa
