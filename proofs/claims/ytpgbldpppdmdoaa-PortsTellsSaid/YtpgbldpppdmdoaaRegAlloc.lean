/- A region that draws its order and whose operations only read, but for one variable that is made and one store at the end: one walk of the text's order serves. -/
import Derived.Test.YtpgbldpppdmdoaaMem
import Derived.Deep.Quiet
import Derived.Tactics
namespace Go.Proofs.Ytpgbldpppdmdoaa
set_option linter.unusedVariables false
set_option linter.unusedSimpArgs false

/-- an operation that enters no function -/
def plainOp : Op → Bool
  | .move _ => true
  | .assign _ => true
  | .load _ _ => true
  | .binOp _ _ _ _ _ => true
  | .convert _ _ _ => true
  | .indexAddr _ _ _ => true
  | .build _ _ => true
  | .fieldAddr _ _ _ => true
  | _ => false

theorem noEnter_v {P : Program} {s : Sem Value} {w w' : World} {f : FuncId} {args : Array Value} (e : (do pure (Next.value (← s)) : Sem Next).run P w = .ok (.enter f args) w') : False := by
  simp [go_sem] at e
  cases hr : Sem.run P s w <;> rw [hr] at e <;> simp [Result.andThen, go_sem] at e
theorem plain_noEnter {P : Program} {o : Oper} {ρ : Operand → Value} {w w' : World} {f : FuncId} {args : Array Value} (h : plainOp o.op = true) (e : (execOp ρ o).run P w = .ok (.enter f args) w') : False := by
  unfold execOp at e
  cases ho : o.op <;> rw [ho] at h e <;> first
    | (simp [plainOp] at h; done)
    | exact noEnter_v e
    | (simp [go_sem] at e; done)
theorem plain_noSelect {o : Op} (h : plainOp o = true) : ∀ cs b, o ≠ .select cs b := by
  intro cs b e
  rw [e] at h
  cases h

section
variable {P : Program} {l : List Oper} {al st : Oper} {C : World → Prop} {Fin : Act → Prop} {Q : Exit → Act → World → Prop}

def RegOk (l : List Oper) (al st : Oper) : Bool :=
  (List.range l.length).all (fun i => match l[i]? with
    | some o => plainOp o.op && o.guard.isNone && al.apart l.toArray o && o.after.all (fun e => decide (e.on < i))
    | none => true) &&
  (al.after.isEmpty && al.guard.isNone && st.guard.isNone &&
  (List.range (l.length + 1)).all (fun i => st.after.any (fun e => Region.binds .any e && e.on == i)))

def L2 (b : Bool) (listed : Array Bool) : Array Bool := (listed.push b).push false
theorem L2_lt {b d : Bool} {listed : Array Bool} {i : Nat} (h : i < listed.size) : (L2 b listed).getD i d = listed.getD i d := by
  unfold L2
  simp only [Array.getD_eq_getD_getElem?, Array.getElem?_push, Array.size_push]
  rw [if_neg (by omega), if_neg (by omega)]
theorem L2_al {b d : Bool} {listed : Array Bool} {n : Nat} (hs : listed.size = n) : (L2 b listed).getD n d = b := by
  unfold L2
  simp only [Array.getD_eq_getD_getElem?, Array.getElem?_push, Array.size_push]
  rw [if_neg (by omega), if_pos (by omega)]
  rfl
theorem L2_st {b d : Bool} {listed : Array Bool} {n : Nat} (hs : listed.size = n) : (L2 b listed).getD (n + 1) d = false := by
  unfold L2
  simp only [Array.getD_eq_getD_getElem?, Array.getElem?_push, Array.size_push]
  rw [if_pos (by omega)]
  rfl
theorem L2_set {b : Bool} {listed : Array Bool} {i : Nat} (h : i < listed.size) : (L2 b listed).setIfInBounds i true = L2 b (listed.setIfInBounds i true) := by
  apply Array.ext_getElem?
  intro k
  unfold L2
  simp only [Array.getElem?_setIfInBounds, Array.getElem?_push, Array.size_push, Array.size_setIfInBounds]
  by_cases hk : i = k
  · subst hk
    simp [h, show i < listed.size + 1 + 1 by omega, show ¬ i = listed.size + 1 by omega, show ¬ i = listed.size by omega]
  · simp [hk]
theorem L2_setal {listed : Array Bool} {n : Nat} (hs : listed.size = n) : (L2 false listed).setIfInBounds n true = L2 true listed := by
  subst hs
  apply Array.ext_getElem?
  intro k
  unfold L2
  simp only [Array.getElem?_setIfInBounds, Array.getElem?_push, Array.size_push]
  by_cases hk : listed.size = k
  · subst hk
    simp [show listed.size < listed.size + 1 + 1 by omega]
  · simp [hk, show ¬ k = listed.size from fun e => hk e.symm]
theorem L2_size {b : Bool} {listed : Array Bool} : (L2 b listed).size = listed.size + 2 := by unfold L2; simp
theorem L2_rep (n : Nat) : Array.replicate (n + 2) false = L2 false (Array.replicate n false) := by
  unfold L2
  apply Array.ext_getElem?
  intro k
  simp only [Array.getElem?_push, Array.size_push, Array.size_replicate, Array.getElem?_replicate]
  by_cases h1 : k = n + 1
  · subst h1; simp
  · by_cases h2 : k = n
    · subst h2; simp
    · rw [if_neg h1, if_neg h2]
      by_cases h3 : k < n
      · rw [if_pos (by omega), if_pos h3]
      · rw [if_neg (by omega), if_neg h3]

theorem full_lt {i : Nat} (h : i < l.length) : (l ++ [al, st]).toArray[i]? = l.toArray[i]? := by simp [List.getElem?_append_left h]
theorem full_al : (l ++ [al, st]).toArray[l.length]? = some al := by simp
theorem full_st : (l ++ [al, st]).toArray[l.length + 1]? = some st := by simp [List.getElem?_append_right]
theorem full_no {i : Nat} (h : l.length + 2 ≤ i) : (l ++ [al, st]).toArray[i]? = none := by simp; omega

theorem reg_head (h : RegOk l al st = true) {i : Nat} {o : Oper} (ho : l.toArray[i]? = some o) : i < l.length ∧ plainOp o.op = true ∧ o.guard = none ∧ al.apart l.toArray o = true ∧ ∀ e ∈ o.after, e.on < i := by
  rw [List.getElem?_toArray] at ho
  have hi : i < l.length := (List.getElem?_eq_some_iff.1 ho).1
  unfold RegOk at h
  simp only [Bool.and_eq_true] at h
  have h1 := List.all_eq_true.1 h.1 i (List.mem_range.2 hi)
  rw [ho] at h1
  simp only [Bool.and_eq_true, Option.isNone_iff_eq_none] at h1
  exact ⟨hi, h1.1.1.1, h1.1.1.2, h1.1.2, fun e he => by
    have := Array.all_eq_true'.1 h1.2 e he
    simpa using this⟩
theorem reg_al (h : RegOk l al st = true) : al.after = #[] ∧ al.guard = none ∧ st.guard = none := by
  unfold RegOk at h
  simp only [Bool.and_eq_true, Option.isNone_iff_eq_none, Array.isEmpty_iff] at h
  exact ⟨h.2.1.1.1, h.2.1.1.2, h.2.1.2⟩
theorem reg_waits (h : RegOk l al st = true) {i : Nat} (hi : i < l.length + 1) : ∃ e ∈ st.after, Region.binds .any e = true ∧ e.on = i := by
  unfold RegOk at h
  simp only [Bool.and_eq_true] at h
  have h1 := List.all_eq_true.1 h.2.2 i (List.mem_range.2 hi)
  obtain ⟨e, he, hb⟩ := Array.any_eq_true'.1 h1
  simp only [Bool.and_eq_true, beq_iff_eq] at hb
  exact ⟨e, he, hb.1, hb.2⟩

theorem wanted_none {o : Oper} (h : o.guard = none) (y : Nat → Option Bool) : Region.wanted o y = true := by unfold Region.wanted; rw [h]

theorem getD_of {listed : Array Bool} {i : Nat} (hi : i < listed.size) (b d : Bool) : listed.getD i b = listed.getD i d := by
  simp [hi]

theorem ready_head {b : Bool} {listed : Array Bool} {i : Nat} (hok : RegOk l al st = true) (hs : listed.size = l.length) (hi : i < l.length) :
    i ∈ Region.ready .any (l ++ [al, st]).toArray (L2 b listed) ↔ i ∈ Region.ready .any l.toArray listed := by
  rw [mem_ready, mem_ready, L2_lt (by omega), full_lt hi]
  constructor
  · rintro ⟨h1, o, ho, h2⟩
    refine ⟨h1, o, ho, fun e he hb => ?_⟩
    have := (reg_head hok ho).2.2.2.2 e he
    rw [← h2 e he hb, L2_lt (by omega)]
  · rintro ⟨h1, o, ho, h2⟩
    refine ⟨h1, o, ho, fun e he hb => ?_⟩
    have := (reg_head hok ho).2.2.2.2 e he
    rw [L2_lt (by omega)]
    exact h2 e he hb

theorem all_listed {listed : Array Bool} (hok : RegOk l al st = true) (hs : listed.size = l.length) (h : Region.ready .any l.toArray listed = []) : ∀ i, i < l.length → listed.getD i true = true := by
  intro i
  induction i using Nat.strongRecOn with
  | _ i ih =>
    intro hi
    cases hl : listed.getD i true with
    | true => rfl
    | false =>
      exfalso
      have ho : l.toArray[i]? = some l[i] := by simp [hi]
      have : i ∈ Region.ready .any l.toArray listed := by
        rw [mem_ready]
        refine ⟨hl, _, ho, fun e he hb => ?_⟩
        have h1 := (reg_head hok ho).2.2.2.2 e he
        rw [getD_of (by omega) false true]
        exact ih e.on h1 (by omega)
      rw [h] at this
      cases this
theorem none_ready {listed : Array Bool} (hs : listed.size = l.length) (h : ∀ i, i < l.length → listed.getD i true = true) : Region.ready .any l.toArray listed = [] := by
  cases hr : Region.ready .any l.toArray listed with
  | nil => rfl
  | cons i rest =>
    exfalso
    have hi : i ∈ Region.ready .any l.toArray listed := by rw [hr]; exact List.mem_cons_self
    obtain ⟨h1, o, ho, _⟩ := mem_ready.1 hi
    rw [List.getElem?_toArray] at ho
    have := (List.getElem?_eq_some_iff.1 ho).1
    rw [h i this] at h1
    cases h1
theorem st_ready {listed : Array Bool} (hok : RegOk l al st = true) (hs : listed.size = l.length) (hb : ∀ e ∈ st.after, e.on < l.length + 1) (h : ∀ i, i < l.length → listed.getD i true = true) : l.length + 1 ∈ Region.ready .any (l ++ [al, st]).toArray (L2 true listed) := by
  rw [mem_ready]
  refine ⟨L2_st hs, st, full_st, fun e he _ => ?_⟩
  have := hb e he
  by_cases h1 : e.on = l.length
  · rw [h1, L2_al hs]
  · rw [L2_lt (by omega), getD_of (by omega) false true]
    exact h _ (by omega)
theorem st_ready_inv {b : Bool} {listed : Array Bool} (hok : RegOk l al st = true) (hs : listed.size = l.length) (h : l.length + 1 ∈ Region.ready .any (l ++ [al, st]).toArray (L2 b listed)) : b = true ∧ ∀ i, i < l.length → listed.getD i true = true := by
  obtain ⟨_, o, ho, h2⟩ := mem_ready.1 h
  rw [full_st] at ho
  cases ho
  constructor
  · obtain ⟨e, he, hb, hi⟩ := reg_waits hok (i := l.length) (by omega)
    have := h2 e he hb
    rwa [hi, L2_al hs] at this
  · intro i hi
    obtain ⟨e, he, hb, hon⟩ := reg_waits hok (i := i) (by omega)
    have := h2 e he hb
    rwa [hon, L2_lt (by omega), getD_of (by omega) false true] at this

theorem wpAny_done {ops : Array Oper} {listed : Array Bool} {a : Act} {w : World} (hr : Region.ready .any ops listed = []) (hq : Q .normal a w) : ∀ f, wpAny P .any ops Q f listed a w
  | 0 => ⟨hr, hq⟩
  | f + 1 => ⟨fun _ => hq, fun i hi => by rw [hr] at hi; cases hi⟩

theorem done_ready {listed : Array Bool} (hs : listed.size = l.length) (h : ∀ i, i < l.length → listed.getD i true = true) : Region.ready .any (l ++ [al, st]).toArray ((L2 true listed).setIfInBounds (l.length + 1) true) = [] := by
  cases hr : Region.ready .any (l ++ [al, st]).toArray ((L2 true listed).setIfInBounds (l.length + 1) true) with
  | nil => rfl
  | cons i rest =>
    exfalso
    have hi : i ∈ Region.ready .any (l ++ [al, st]).toArray ((L2 true listed).setIfInBounds (l.length + 1) true) := by rw [hr]; exact List.mem_cons_self
    obtain ⟨h1, o, ho, _⟩ := mem_ready.1 hi
    have hlt : i < l.length + 2 := by
      rcases Nat.lt_or_ge i (l.length + 2) with h | h
      · exact h
      · rw [full_no h] at ho; cases ho
    by_cases h3 : i = l.length + 1
    · subst h3
      rw [Array.getD_eq_getD_getElem?, Array.getElem?_setIfInBounds_self_of_lt (by rw [L2_size]; omega)] at h1
      cases h1
    · have e : ((L2 true listed).setIfInBounds (l.length + 1) true).getD i true = (L2 true listed).getD i true := by
        simp only [Array.getD_eq_getD_getElem?]
        rw [Array.getElem?_setIfInBounds_ne (fun e => h3 e.symm)]
      rw [e] at h1
      by_cases h4 : i = l.length
      · rw [h4, L2_al hs] at h1; cases h1
      · rw [L2_lt (by omega), h i (by omega)] at h1; cases h1

theorem step_head {i : Nat} {o : Oper} {a a' : Act} {W : World} {K : Act → Prop} {K' : Act → World → Prop} (hok : RegOk l al st = true) (ho : l.toArray[i]? = some o) (hC : C W)
    (he : execOp a'.eval o = execOp a.eval o) (hK : ∀ v, K (a.put o.dst v) → K' (a'.put o.dst v) W) (h : qOp P l.toArray C i K a) : wpOp P (l ++ [al, st]).toArray Q i K' a' W := by
  obtain ⟨hi, hp, hg, _, _⟩ := reg_head hok ho
  unfold qOp at h
  simp only [ho] at h
  rw [if_pos (wanted_none hg _)] at h
  obtain ⟨v, h1, h2⟩ := h
  have h3 := h1 W hC
  unfold Oper.quietAt at h3
  unfold wpOp
  rw [full_lt hi, ho]
  simp only
  rw [if_pos (wanted_none hg _)]
  left
  unfold Oper.wp
  rw [he]
  cases hr : (execOp a.eval o).run P W with
  | halt x w' => rw [hr] at h3; simp only [Oper.quietUpon] at h3
  | ok n w' =>
    rw [hr] at h3
    cases n <;> simp only [Oper.quietUpon] at h3 <;> simp only [Oper.upon]
    case value u =>
      obtain ⟨e1, e2⟩ := h3
      rw [e1, e2]
      exact hK _ h2
    case skip =>
      obtain ⟨e1, e2⟩ := h3
      rw [e1, ← e2]
      exact hK _ h2
    case enter f args => exact (plain_noEnter hp hr).elim

theorem phaseB {p : Value} {W1 : World} (hok : RegOk l al st = true) (hb : ∀ e ∈ st.after, e.on < l.length + 1) (hC : C W1)
    (hfin : ∀ a, Fin a → st.wp P (a.put al.dst p) W1 (fun a' w' => Q .normal a' w') Q ∨ (st.asks P (a.put al.dst p) W1 ∧ LetsOut Q)) :
    ∀ (f : Nat) (listed : Array Bool) (a : Act), listed.size = l.length → wpAnyQ P .any l.toArray C Fin f listed a → wpAny P .any (l ++ [al, st]).toArray Q (f + 1) (L2 true listed) (a.put al.dst p) W1 := by
  intro f
  induction f with
  | zero =>
    intro listed a hs h
    have hall := all_listed hok hs h.1
    refine ⟨fun h0 => ?_, fun i hi => ?_⟩
    · have := st_ready hok hs hb hall
      rw [h0] at this
      cases this
    · obtain ⟨h1, o, ho, _⟩ := mem_ready.1 hi
      by_cases h3 : i = l.length + 1
      · subst h3
        unfold wpOp
        rw [full_st]
        simp only
        rw [if_pos (wanted_none (reg_al hok).2.2 _)]
        exact (hfin a h.2).imp (Oper.wp_mono (fun a w hq => wpAny_done (done_ready hs hall) hq 0)) id
      · exfalso
        by_cases h4 : i = l.length
        · rw [h4, L2_al hs] at h1; cases h1
        · have hlt : i < l.length := by
            rcases Nat.lt_or_ge i (l.length + 2) with h | h
            · omega
            · rw [full_no h] at ho; cases ho
          rw [L2_lt (by omega), hall i hlt] at h1; cases h1
  | succ f ih =>
    intro listed a hs h
    refine ⟨fun h0 => ?_, fun i hi => ?_⟩
    · exfalso
      cases hr : Region.ready .any l.toArray listed with
      | nil =>
        have := st_ready hok hs hb (all_listed hok hs hr)
        rw [h0] at this
        cases this
      | cons i rest =>
        have hi : i ∈ Region.ready .any l.toArray listed := by rw [hr]; exact List.mem_cons_self
        obtain ⟨_, o, ho, _⟩ := mem_ready.1 hi
        have := (ready_head (b := true) hok hs (reg_head hok ho).1).2 hi
        rw [h0] at this
        cases this
    · obtain ⟨h1, o, ho, _⟩ := mem_ready.1 hi
      by_cases h3 : i = l.length + 1
      · subst h3
        have hall := (st_ready_inv hok hs hi).2
        unfold wpOp
        rw [full_st]
        simp only
        rw [if_pos (wanted_none (reg_al hok).2.2 _)]
        exact (hfin a (h.1 (none_ready hs hall))).imp (Oper.wp_mono (fun a w hq => wpAny_done (done_ready hs hall) hq (f + 1))) id
      · by_cases h4 : i = l.length
        · exfalso; rw [h4, L2_al hs] at h1; cases h1
        · have hlt : i < l.length := by
            rcases Nat.lt_or_ge i (l.length + 2) with h | h
            · omega
            · rw [full_no h] at ho; cases ho
          rw [full_lt hlt] at ho
          obtain ⟨_, hp, hg, hap, _⟩ := reg_head hok ho
          obtain ⟨q1, q2, q3⟩ := Oper.apart_spec hap
          rw [L2_set (by omega)]
          exact step_head hok ho hC (execOp_put o (plain_noSelect hp) a al.dst p q1)
            (fun v hv => by rw [Act.put_comm a p v q2]; exact ih _ _ (by simpa using hs) hv) (h.2 i ((ready_head hok hs hlt).1 hi))

theorem phaseA {p : Value} {W0 W1 : World} (hok : RegOk l al st = true) (hb : ∀ e ∈ st.after, e.on < l.length + 1) (hC0 : C W0) (hC : C W1)
    (hal : ∀ a : Act, (execOp a.eval al).run P W0 = .ok (.value p) W1)
    (hfin : ∀ a, Fin a → st.wp P (a.put al.dst p) W1 (fun a' w' => Q .normal a' w') Q ∨ (st.asks P (a.put al.dst p) W1 ∧ LetsOut Q)) :
    ∀ (f : Nat) (listed : Array Bool) (a : Act), listed.size = l.length → wpAnyQ P .any l.toArray C Fin f listed a → wpAny P .any (l ++ [al, st]).toArray Q (f + 2) (L2 false listed) a W0 := by
  intro f
  induction f with
  | zero =>
    intro listed a hs h
    have hall := all_listed hok hs h.1
    have hm : l.length ∈ Region.ready .any (l ++ [al, st]).toArray (L2 false listed) := mem_ready.2 ⟨L2_al hs, al, full_al, fun e he => by rw [(reg_al hok).1] at he; simp at he⟩
    refine ⟨fun h0 => (by rw [h0] at hm; cases hm), fun i hi => ?_⟩
    obtain ⟨h1, o, ho, _⟩ := mem_ready.1 hi
    by_cases h3 : i = l.length + 1
    · subst h3; have := (st_ready_inv hok hs hi).1; cases this
    · by_cases h4 : i = l.length
      · subst h4
        unfold wpOp
        rw [full_al]
        simp only
        rw [if_pos (wanted_none (reg_al hok).2.1 _)]
        left
        unfold Oper.wp
        rw [hal a]
        simp only [Oper.upon]
        rw [L2_setal hs]
        exact phaseB hok hb hC hfin 0 listed a hs h
      · exfalso
        have hlt : i < l.length := by
          rcases Nat.lt_or_ge i (l.length + 2) with h | h
          · omega
          · rw [full_no h] at ho; cases ho
        rw [L2_lt (by omega), hall i hlt] at h1; cases h1
  | succ f ih =>
    intro listed a hs h
    have hm : l.length ∈ Region.ready .any (l ++ [al, st]).toArray (L2 false listed) := mem_ready.2 ⟨L2_al hs, al, full_al, fun e he => by rw [(reg_al hok).1] at he; simp at he⟩
    refine ⟨fun h0 => (by rw [h0] at hm; cases hm), fun i hi => ?_⟩
    obtain ⟨h1, o, ho, _⟩ := mem_ready.1 hi
    by_cases h3 : i = l.length + 1
    · subst h3; have := (st_ready_inv hok hs hi).1; cases this
    · by_cases h4 : i = l.length
      · subst h4
        unfold wpOp
        rw [full_al]
        simp only
        rw [if_pos (wanted_none (reg_al hok).2.1 _)]
        left
        unfold Oper.wp
        rw [hal a]
        simp only [Oper.upon]
        rw [L2_setal hs]
        exact phaseB hok hb hC hfin (f + 1) listed a hs h
      · have hlt : i < l.length := by
          rcases Nat.lt_or_ge i (l.length + 2) with h | h
          · omega
          · rw [full_no h] at ho; cases ho
        rw [full_lt hlt] at ho
        rw [L2_set (by omega)]
        exact step_head hok ho hC0 rfl (fun v hv => ih _ _ (by simpa using hs) hv) (h.2 i ((ready_head hok hs hlt).1 hi))

/-- the law -/
theorem wp_region_alloc_store {id : Nat} {a : Act} {w W1 : World} {p : Value} (hm : P.follows .mixedOrders = true) (hB : Region.lexB .any l.toArray = true) (hok : RegOk l al st = true)
    (hb : st.after.all (fun e => decide (e.on < l.length + 1)) = true) (hal : ∀ a : Act, (execOp a.eval al).run P { w with drawn := w.drawn + 1 } = .ok (.value p) W1)
    (h : wpQuiet P l.toArray (fun w' => w' = { w with drawn := w.drawn + 1 } ∨ w' = W1) (fun a' => st.wp P (a'.put al.dst p) W1 (fun a' w' => Q .normal a' w') Q ∨ (st.asks P (a'.put al.dst p) W1 ∧ LetsOut Q)) l a) :
    (Code.region id (l ++ [al, st]).toArray true).wp P Q a w := by
  simp only [Region.lexB, Bool.and_eq_true] at hB
  refine wp_region_any hm ?_
  have h1 := wpAnyQ_lex (P := P) (C := fun w' => w' = { w with drawn := w.drawn + 1 } ∨ w' = W1) (md := .any) hB.1 l 0 (Array.replicate l.toArray.size false) a (by simp) (by simpa using hB.2) h
  have h2 := phaseA hok (fun e he => by simpa using Array.all_eq_true'.1 hb e he) (Or.inl rfl) (Or.inr rfl) hal (fun a ha => ha) l.length _ a (by simp) h1
  have e : (l ++ [al, st]).toArray.size = l.length + 2 := by simp
  rw [e, L2_rep]
  simpa using h2
/-- the law, at a region whose operations are written out: 'n' of them read, the next makes the variable, the last one stores -/
theorem wp_region_alloc_lit {id : Nat} {a : Act} {w W1 : World} {p : Value} {L : List Oper} (n : Nat) (hd : L.drop n = [al, st]) (hm : P.follows .mixedOrders = true) (hB : Region.lexB .any (L.take n).toArray = true) (hok : RegOk (L.take n) al st = true)
    (hb : st.after.all (fun e => decide (e.on < (L.take n).length + 1)) = true) (hal : ∀ a : Act, (execOp a.eval al).run P w.drew = .ok (.value p) W1)
    (h : wpQuiet P (L.take n).toArray (fun w' => w' = w.drew ∨ w' = W1) (fun a' => wpList P L.toArray Q [st] (a'.put al.dst p) W1) (L.take n) a) :
    (Code.region id L.toArray true).wp P Q a w := by
  have e : L = L.take n ++ [al, st] := by rw [← hd, List.take_append_drop]
  rw [e]
  refine wp_region_alloc_store hm hB hok hb hal ?_
  have hf : (fun a' : Act => wpList P L.toArray Q [st] (a'.put al.dst p) W1) = fun a' => (st.wp P (a'.put al.dst p) W1 (fun a' w' => Q .normal a' w') Q ∨ (st.asks P (a'.put al.dst p) W1 ∧ LetsOut Q)) := by
    funext a'
    unfold wpList
    rw [if_pos (wanted_none (reg_al hok).2.2 _)]
    rfl
  rw [hf] at h
  exact h
end
end Go.Proofs.Ytpgbldpppdmdoaa
