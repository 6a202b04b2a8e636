/- The table of maglev as a plain function, and its laws. No program in sight. -/
namespace Go.Proofs.Ytaamflhleommlaa
set_option linter.unusedVariables false

/-! ### a prime's rows go everywhere -/
theorem pigeon : ∀ (n : Nat) (f : Nat → Nat), (∀ i, i < n → f i < n) → (∀ i j, i < n → j < n → f i = f j → i = j) → ∀ v, v < n → ∃ i, i < n ∧ f i = v
  | 0, _, _, _, v, hv => by omega
  | n + 1, f, hf, inj, v, hv => by
    have hw := hf n (by omega)
    have hg : ∀ i, i < n → (if f i = n then f n else f i) < n := by
      intro i hi
      have h1 := hf i (by omega)
      have h2 : f i = f n → i = n := inj i n (by omega) (by omega)
      split <;> omega
    have hginj : ∀ i j, i < n → j < n → (if f i = n then f n else f i) = (if f j = n then f n else f j) → i = j := by
      intro i j hi hj
      have h1 := inj i j (by omega) (by omega)
      have h2 : f i = f n → i = n := inj i n (by omega) (by omega)
      have h3 : f j = f n → j = n := inj j n (by omega) (by omega)
      split <;> split <;> intro h
      · exact h1 (by omega)
      · have := h3 h.symm; omega
      · have := h2 h; omega
      · exact h1 h
    have ih := pigeon n (fun i => if f i = n then f n else f i) hg hginj
    by_cases hvw : v = f n
    · exact ⟨n, by omega, hvw.symm⟩
    · by_cases hvn : v = n
      · obtain ⟨i, hi, he⟩ := ih (f n) (by omega)
        have h2 : f i = f n → i = n := inj i n (by omega) (by omega)
        refine ⟨i, by omega, ?_⟩
        split at he
        · omega
        · have := h2 he; omega
      · obtain ⟨i, hi, he⟩ := ih v (by omega)
        refine ⟨i, by omega, ?_⟩
        split at he <;> omega

theorem step_inj {n at_ skip : Nat} (hn : 0 < n) (hc : Nat.gcd n skip = 1) {i j : Nat} (hi : i < n) (hj : j < n) (h : (at_ + i * skip) % n = (at_ + j * skip) % n) : i = j := by
  have key : ∀ a b : Nat, a ≤ b → b < n → (at_ + a * skip) % n = (at_ + b * skip) % n → a = b := by
    intro a b hab hb h
    have hd : n ∣ (b - a) * skip := by
      have h1 : (at_ + b * skip) - (at_ + a * skip) = (b - a) * skip := by rw [Nat.sub_mul]; omega
      rw [← h1]
      exact Nat.dvd_of_mod_eq_zero (Nat.sub_mod_eq_zero_of_mod_eq h.symm)
    have hd2 : n ∣ (b - a) := Nat.Coprime.dvd_of_dvd_mul_right hc hd
    rcases Nat.eq_zero_or_pos (b - a) with h0 | h0
    · omega
    · have := Nat.le_of_dvd h0 hd2; omega
  rcases Nat.le_total i j with hij | hij
  · exact key i j hij hj h
  · exact (key j i hij hi h.symm).symm
theorem step_onto {n at_ skip : Nat} (hn : 0 < n) (hc : Nat.gcd n skip = 1) {v : Nat} (hv : v < n) : ∃ j, j < n ∧ (at_ + j * skip) % n = v :=
  pigeon n (fun j => (at_ + j * skip) % n) (fun j _ => Nat.mod_lt _ hn) (fun i j hi hj h => step_inj hn hc hi hj h) v hv

/-! ### the next slot that is free -/
/-- the place of the next free slot in a row -/
def findF (t : List Int) (skip n : Nat) : Nat → Nat → Nat
  | 0, at_ => at_
  | f + 1, at_ => if t[at_]? = some (-1) then at_ else findF t skip n f ((at_ + skip) % n)

/-- so many steps, all of them over slots that are taken -/
structure Walks (t : List Int) (at_ skip n J v : Nat) : Prop where
  lt : J < n
  goes : (at_ + J * skip) % n = v
  taken : ∀ i, i < J → t[(at_ + i * skip) % n]? ≠ some (-1)
  free : t[v]? = some (-1)

theorem least {p : Nat → Prop} [DecidablePred p] : ∀ (n : Nat), (∃ j, j < n ∧ p j) → ∃ J, J < n ∧ p J ∧ ∀ i, i < J → ¬ p i
  | 0, h => by obtain ⟨j, hj, _⟩ := h; omega
  | n + 1, h => by
    by_cases hp : ∃ j, j < n ∧ p j
    · obtain ⟨J, hJ, h1, h2⟩ := least n hp
      exact ⟨J, by omega, h1, h2⟩
    · obtain ⟨j, hj, hpj⟩ := h
      have : j = n := by
        rcases Nat.lt_or_ge j n with h' | h'
        · exact absurd ⟨j, h', hpj⟩ hp
        · omega
      subst this
      exact ⟨j, by omega, hpj, fun i hi hpi => hp ⟨i, hi, hpi⟩⟩

theorem findF_walks {t : List Int} {skip n : Nat} (hn : 0 < n) : ∀ (J f at_ v : Nat), at_ < n → (at_ + J * skip) % n = v → (∀ i, i < J → t[(at_ + i * skip) % n]? ≠ some (-1)) → t[v]? = some (-1) → J < f → findF t skip n f at_ = v
  | J, 0, _, _, _, _, _, _, h => by omega
  | 0, f + 1, at_, v, hat, hv, _, hfree, _ => by
    have e : at_ = v := by rw [← hv]; simp [Nat.mod_eq_of_lt hat]
    subst e
    rw [findF, if_pos hfree]
  | J + 1, f + 1, at_, v, hat, hv, htk, hfree, hf => by
    have h0 := htk 0 (by omega)
    rw [Nat.zero_mul, Nat.add_zero, Nat.mod_eq_of_lt hat] at h0
    rw [findF, if_neg h0]
    have sh : ∀ i, ((at_ + skip) % n + i * skip) % n = (at_ + (i + 1) * skip) % n := by
      intro i
      rw [Nat.mod_add_mod, Nat.add_assoc]
      congr 2
      rw [Nat.add_mul, Nat.one_mul]
      omega
    refine findF_walks hn J f _ v (Nat.mod_lt _ hn) (by rw [sh]; exact hv) (fun i hi => ?_) hfree (by omega)
    rw [sh]
    exact htk (i + 1) (by omega)

theorem walks_of {t : List Int} {at_ skip n : Nat} (hn : 0 < n) (hc : Nat.gcd n skip = 1) (hat : at_ < n) (hfree : ∃ v, v < n ∧ t[v]? = some (-1)) :
    ∃ J, Walks t at_ skip n J (findF t skip n n at_) := by
  obtain ⟨v, hv, hf⟩ := hfree
  obtain ⟨j, hj, hje⟩ := step_onto (at_ := at_) hn hc hv
  obtain ⟨J, hJ, h1, h2⟩ := least (p := fun j => t[(at_ + j * skip) % n]? = some (-1)) n ⟨j, hj, by rw [hje]; exact hf⟩
  have e := findF_walks (t := t) (skip := skip) hn J n at_ _ hat rfl h2 h1 hJ
  exact ⟨J, hJ, e.symm, h2, by rw [e]; exact h1⟩

/-! ### the table -/
/-- a backend's number, how many turns it has, its row -/
structure Bk where
  id : Int
  weight : Nat
  off : Nat
  skip : Nat

/-- one turn: the backend b takes its next slot -/
def turn (bs : List Bk) (n : Nat) (s : List Nat × List Int) (b : Nat) : List Nat × List Int :=
  let at_ := findF s.2 ((bs[b]?.map Bk.skip).getD 1) n n (s.1[b]?.getD 0)
  (s.1.set b at_, s.2.set at_ ((bs[b]?.map Bk.id).getD (-1)))

/-- whose turn it is, one behind the other -/
def turnsOf : Nat → List Bk → List Nat
  | _, [] => []
  | k, b :: r => List.replicate b.weight k ++ turnsOf (k + 1) r
def takes (bs : List Bk) : List Nat := turnsOf 0 bs

def run (bs : List Bk) (n : Nat) : Nat → List Nat × List Int
  | 0 => (bs.map Bk.off, List.replicate n (-1))
  | i + 1 => turn bs n (run bs n i) ((takes bs)[i % (takes bs).length]?.getD 0)
def tableB (bs : List Bk) (n : Nat) : List Int := (run bs n n).2

/-- what may be: rows within the slots, numbers that are none of -1 -/
structure Good (bs : List Bk) (n : Nat) : Prop where
  pos : 0 < n
  off : ∀ b ∈ bs, b.off < n
  skip : ∀ b ∈ bs, Nat.gcd n b.skip = 1
  id : ∀ b ∈ bs, 0 ≤ b.id
  weight : ∀ b ∈ bs, 0 < b.weight
  some_ : bs ≠ []

theorem turnsOf_lt : ∀ (bs : List Bk) (k x : Nat), x ∈ turnsOf k bs → k ≤ x ∧ x < k + bs.length
  | [], k, x, h => by simp [turnsOf] at h
  | b :: r, k, x, h => by
    simp only [turnsOf, List.mem_append, List.mem_replicate] at h
    rcases h with ⟨_, rfl⟩ | h
    · simp
    · have := turnsOf_lt r (k + 1) x h
      simp
      omega
theorem takes_lt {bs : List Bk} {x : Nat} (h : x ∈ takes bs) : x < bs.length := by
  have := turnsOf_lt bs 0 x h
  omega
theorem takes_pos {bs : List Bk} {n : Nat} (h : Good bs n) : 0 < (takes bs).length := by
  have h1 := h.some_
  match bs, h with
  | b :: r, h =>
    have := h.weight b (List.mem_cons_self ..)
    unfold takes turnsOf
    simp
    omega

/-- how many slots are free -/
def frees (t : List Int) : Nat := t.countP (· == -1)

structure Inv (bs : List Bk) (n i : Nat) (s : List Nat × List Int) : Prop where
  ats : s.1.length = bs.length
  atn : ∀ a ∈ s.1, a < n
  len : s.2.length = n
  free : frees s.2 = n - i

theorem frees_set {t : List Int} {v : Nat} {x : Int} (h : t[v]? = some (-1)) (hx : x ≠ -1) : frees (t.set v x) + 1 = frees t := by
  unfold frees
  have hv : v < t.length := (List.getElem?_eq_some_iff.1 h).1
  have he : t[v] = -1 := by rw [List.getElem?_eq_getElem hv] at h; exact Option.some.inj h
  rw [List.countP_set hv]
  have hpos : 0 < t.countP (· == -1) := List.countP_pos_iff.2 ⟨t[v], List.getElem_mem hv, by simp [he]⟩
  simp [he, hx]
  omega
theorem frees_some {t : List Int} (h : 0 < frees t) : ∃ v, v < t.length ∧ t[v]? = some (-1) := by
  obtain ⟨x, hx, he⟩ := List.countP_pos_iff.1 h
  obtain ⟨v, hv, hvx⟩ := List.getElem_of_mem hx
  refine ⟨v, hv, ?_⟩
  rw [List.getElem?_eq_getElem hv, hvx]
  simpa using he

/-- one turn, all that is known of it -/
theorem turn_inv {bs : List Bk} {n i b : Nat} {s : List Nat × List Int} (hg : Good bs n) (h : Inv bs n i s) (hi : i < n) (hb : b < bs.length) :
    Inv bs n (i + 1) (turn bs n s b) ∧ ∃ at_ J, s.1[b]? = some at_ ∧ at_ < n ∧ Walks s.2 at_ (bs[b]).skip n J (findF s.2 (bs[b]).skip n n at_) ∧
      turn bs n s b = (s.1.set b (findF s.2 (bs[b]).skip n n at_), s.2.set (findF s.2 (bs[b]).skip n n at_) (bs[b]).id) := by
  have hbm : bs[b] ∈ bs := List.getElem_mem hb
  have hb1 : b < s.1.length := by rw [h.ats]; exact hb
  have hat := h.atn _ (List.getElem_mem hb1)
  obtain ⟨v, hv, hfree⟩ := frees_some (t := s.2) (by rw [h.free]; omega)
  obtain ⟨J, hJ⟩ := walks_of hg.pos (hg.skip _ hbm) hat ⟨v, by rw [← h.len]; exact hv, hfree⟩
  have e : turn bs n s b = (s.1.set b (findF s.2 (bs[b]).skip n n s.1[b]), s.2.set (findF s.2 (bs[b]).skip n n s.1[b]) (bs[b]).id) := by
    unfold turn
    simp [hb, hb1]
  refine ⟨?_, s.1[b], J, List.getElem?_eq_getElem hb1, hat, hJ, e⟩
  rw [e]
  have hvn : findF s.2 (bs[b]).skip n n s.1[b] < n := by rw [← hJ.goes]; exact Nat.mod_lt _ hg.pos
  refine ⟨by simpa using h.ats, ?_, by simpa using h.len, ?_⟩
  · intro a ha
    rcases List.mem_or_eq_of_mem_set ha with ha | rfl
    · exact h.atn a ha
    · exact hvn
  · have hid := hg.id _ hbm
    have := frees_set (x := (bs[b]).id) hJ.free (by omega)
    simp only
    rw [h.free] at this
    omega

theorem run_inv {bs : List Bk} {n : Nat} (hg : Good bs n) : ∀ i, i ≤ n → Inv bs n i (run bs n i)
  | 0, _ => by
    refine ⟨by simp [run], ?_, by simp [run], by simp [run, frees, List.countP_replicate]⟩
    intro a ha
    simp only [run, List.mem_map] at ha
    obtain ⟨b, hb, rfl⟩ := ha
    exact hg.off b hb
  | i + 1, hi => by
    have ih := run_inv hg i (by omega)
    have hl := takes_pos hg
    have hm : i % (takes bs).length < (takes bs).length := Nat.mod_lt _ hl
    have hb : (takes bs)[i % (takes bs).length] < bs.length := takes_lt (List.getElem_mem hm)
    have := (turn_inv hg ih (by omega) hb).1
    rw [run, List.getElem?_eq_getElem hm]
    exact this
end Go.Proofs.Ytaamflhleommlaa
