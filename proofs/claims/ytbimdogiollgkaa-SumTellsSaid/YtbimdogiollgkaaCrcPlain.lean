/- The CRC is linear, and tells apart whatever differs within four bytes side by side; numbers of two bytes exchanged leave the sum. No program in sight. -/
import Derived.Test.YtbimdogiollgkaaSumPlain
namespace Go.Proofs.Ytbimdogiollgkaa

theorem xor_mod2 (a b : Nat) : (a ^^^ b) % 2 = (a % 2 + b % 2) % 2 := by
  have h := Nat.testBit_xor a b 0
  simp only [Nat.testBit_zero] at h
  rcases Nat.mod_two_eq_zero_or_one (a ^^^ b) with hx | hx <;> rcases Nat.mod_two_eq_zero_or_one a with ha | ha <;> rcases Nat.mod_two_eq_zero_or_one b with hb | hb <;> simp only [hx, ha, hb] at h ⊢ <;> simp at h ⊢
theorem xor_div2 (a b : Nat) : (a ^^^ b) / 2 = a / 2 ^^^ b / 2 := Nat.xor_div_two

theorem crcBit_xor (a b : Nat) : crcBit (a ^^^ b) = crcBit a ^^^ crcBit b := by
  unfold crcBit
  rw [xor_mod2, xor_div2]
  rcases Nat.mod_two_eq_zero_or_one a with ha | ha <;> rcases Nat.mod_two_eq_zero_or_one b with hb | hb <;> simp only [ha, hb]
  · simp
  · simp [Nat.xor_assoc]
  · simp only [Nat.add_zero, Nat.one_mod, if_true]
    rw [if_neg (by omega)]
    rw [Nat.xor_assoc, Nat.xor_comm (b / 2), ← Nat.xor_assoc]
  · rw [if_neg (by omega)]
    simp only [if_true]
    rw [Nat.xor_assoc, Nat.xor_comm 2197175160, Nat.xor_assoc, Nat.xor_self, Nat.xor_zero]
theorem crcBits_xor (j a b : Nat) : crcBits j (a ^^^ b) = crcBits j a ^^^ crcBits j b := by
  induction j with
  | zero => rfl
  | succ j ih => simp only [crcBits, ih, crcBit_xor]
theorem xor4 (a b x y : Nat) : (a ^^^ b) ^^^ (x ^^^ y) = (a ^^^ x) ^^^ (b ^^^ y) := by
  rw [Nat.xor_assoc, ← Nat.xor_assoc b x y, Nat.xor_comm b x, Nat.xor_assoc x b y, ← Nat.xor_assoc]
theorem crcByte_xor (a b x y : Nat) : crcByte (a ^^^ b) (x ^^^ y) = crcByte a x ^^^ crcByte b y := by
  unfold crcByte
  rw [xor4, crcBits_xor]

/-- two rows as long, byte by byte -/
def xorL : List Nat → List Nat → List Nat
  | x :: r, y :: t => (x ^^^ y) :: xorL r t
  | _, _ => []
theorem xorL_length : ∀ (a b : List Nat), a.length = b.length → (xorL a b).length = a.length
  | [], [], _ => rfl
  | x :: r, y :: t, h => by simp [xorL]; exact xorL_length r t (by simpa using h)
  | [], _ :: _, h => by simp at h
  | _ :: _, [], h => by simp at h
theorem xorL_get : ∀ (a b : List Nat) (j : Nat) (x y : Nat), a[j]? = some x → b[j]? = some y → (xorL a b)[j]? = some (x ^^^ y)
  | [], _, _, _, _, h, _ => by simp at h
  | _ :: _, [], _, _, _, _, h => by simp at h
  | x :: r, y :: t, 0, u, v, h, k => by simp at h k; simp [xorL, h, k]
  | x :: r, y :: t, j + 1, u, v, h, k => by simp at h k; simp [xorL]; exact xorL_get r t j u v h k
theorem xorL_lt : ∀ (a b : List Nat), AllB a → AllB b → AllB (xorL a b)
  | [], _, _, _ => by intro x hx; simp [xorL] at hx
  | _ :: _, [], _, _ => by intro x hx; simp [xorL] at hx
  | x :: r, y :: t, ha, hb => by
    intro z hz
    simp only [xorL, List.mem_cons] at hz
    rcases hz with rfl | hz
    · exact Nat.xor_lt_two_pow (n := 8) (ha x (List.mem_cons_self ..)) (hb y (List.mem_cons_self ..))
    · exact xorL_lt r t (fun z hz => ha z (List.mem_cons_of_mem _ hz)) (fun z hz => hb z (List.mem_cons_of_mem _ hz)) z hz
theorem crc_fold_xor : ∀ (a b : List Nat) (s t : Nat), a.length = b.length → (xorL a b).foldl crcByte (s ^^^ t) = a.foldl crcByte s ^^^ b.foldl crcByte t
  | [], [], s, t, _ => rfl
  | x :: r, y :: u, s, t, h => by
    simp only [xorL, List.foldl_cons]
    rw [crcByte_xor]
    exact crc_fold_xor r u _ _ (by simpa using h)
  | [], _ :: _, _, _, h => by simp at h
  | _ :: _, [], _, _, h => by simp at h

theorem ones_sub (a : Nat) (h : a < 4294967296) : 4294967295 - a = 4294967295 ^^^ a := by
  have e : 4294967295 - a = 2 ^ 32 - (a + 1) := by omega
  rw [e]
  apply Nat.eq_of_testBit_eq
  intro i
  rw [Nat.testBit_xor, show (4294967295 : Nat) = 2 ^ 32 - 1 from rfl, Nat.testBit_two_pow_sub_one, Nat.testBit_two_pow_sub_succ (by omega)]
  by_cases hi : i < 32
  · simp [hi]
  · have : a.testBit i = false := Nat.testBit_lt_two_pow (Nat.lt_of_lt_of_le (show a < 2 ^ 32 by omega) (Nat.pow_le_pow_right (by omega) (by omega)))
    simp [hi, this]

/-- THREE ROWS -/
theorem crc_three (a b c : List Nat) (ha : AllB a) (hb : AllB b) (hc : AllB c) (h1 : a.length = b.length) (h2 : a.length = c.length) :
    crcN (xorL (xorL a b) c) = crcN a ^^^ crcN b ^^^ crcN c := by
  have hd := xorL_lt _ _ (xorL_lt _ _ ha hb) hc
  unfold crcN
  rw [ones_sub _ (crcL_lt hd), ones_sub _ (crcL_lt ha), ones_sub _ (crcL_lt hb), ones_sub _ (crcL_lt hc)]
  have e : crcL (xorL (xorL a b) c) = crcL a ^^^ crcL b ^^^ crcL c := by
    unfold crcL
    have := crc_fold_xor (xorL a b) c (4294967295 ^^^ 4294967295) 4294967295 (by rw [xorL_length _ _ h1]; exact h2)
    rw [crc_fold_xor a b _ _ h1] at this
    rwa [show ((4294967295 ^^^ 4294967295 : Nat) ^^^ 4294967295) = 4294967295 from rfl] at this
  rw [e]
  generalize crcL a = x; generalize crcL b = y; generalize crcL c = z; generalize (4294967295 : Nat) = m
  rw [xor4 m x m y, Nat.xor_self, Nat.zero_xor, ← Nat.xor_assoc (x ^^^ y), Nat.xor_comm (x ^^^ y) m, Nat.xor_assoc m (x ^^^ y) z]

/-! ### what differs is told -/
theorem crcBit_small {c v : Nat} (hc : c < 4294967296) (h : crcBit c = v) (hv : v < 2147483648) : c = 2 * v := by
  unfold crcBit at h
  split at h
  · exfalso
    have h1 : (c / 2 ^^^ 2197175160).testBit 31 = true := by
      rw [Nat.testBit_xor, Nat.testBit_lt_two_pow (show c / 2 < 2 ^ 31 by omega)]
      decide
    rw [h, Nat.testBit_lt_two_pow (show v < 2 ^ 31 by omega)] at h1
    cases h1
  · omega
theorem crcBits_small : ∀ (j : Nat) {c v : Nat}, c < 4294967296 → crcBits j c = v → v * 2 ^ j < 4294967296 → c = v * 2 ^ j
  | 0, c, v, _, h, _ => by simpa [crcBits] using h
  | j + 1, c, v, hc, h, hv => by
    simp only [crcBits] at h
    have hp : 0 < 2 ^ j := Nat.two_pow_pos j
    have hv2 : v < 2147483648 := by
      have : v * 2 ≤ v * 2 ^ (j + 1) := Nat.mul_le_mul_left _ (by rw [Nat.pow_succ]; omega)
      omega
    have h1 := crcBit_small (crcBits_lt j hc) h hv2
    have e : 2 * v * 2 ^ j = v * 2 ^ (j + 1) := by rw [Nat.pow_succ, Nat.mul_comm 2 v, Nat.mul_assoc, Nat.mul_comm 2]
    have h2 := crcBits_small j hc h1 (by rw [e]; exact hv)
    rw [h2, e]
theorem xor_self_cancel {a b c : Nat} (h : a ^^^ b = c) : a = c ^^^ b := by rw [← h, Nat.xor_assoc, Nat.xor_self, Nat.xor_zero]
theorem shift_xor (v x : Nat) (hx : x < 256) : (v * 256) ^^^ x = v * 256 + x := by
  have h1 : v * 256 + x = v * 256 ||| x := by
    rw [Nat.mul_comm, show (256 : Nat) = 2 ^ 8 from rfl, Nat.two_pow_add_eq_or_of_lt (by simpa using hx)]
  rw [h1]
  apply Nat.eq_of_testBit_eq
  intro i
  rw [Nat.testBit_xor, Nat.testBit_or]
  by_cases hi : i < 8
  · have : (v * 256).testBit i = false := by rw [show (256 : Nat) = 2 ^ 8 from rfl, Nat.testBit_mul_two_pow]; simp; omega
    simp [this]
  · have : x.testBit i = false := Nat.testBit_lt_two_pow (Nat.lt_of_lt_of_le (show x < 2 ^ 8 by omega) (Nat.pow_le_pow_right (by omega) (by omega)))
    simp [this]
theorem crcByte_small {s x v : Nat} (hs : s < 4294967296) (hx : x < 256) (h : crcByte s x = v) (hv : v < 16777216) : s = v * 256 + x := by
  unfold crcByte at h
  have h1 := crcBits_small 8 (xor_lt32 hs (by omega)) h (by omega)
  rw [xor_self_cancel h1]
  exact shift_xor v x hx

/-- up to four bytes behind nothing: nothing comes out of nothing alone -/
theorem four_zero : ∀ (n : Nat) (xs : List Nat) (v : Nat), xs.length = n → n ≤ 4 → AllB xs → xs.foldl crcByte 0 = v → v < 256 ^ (4 - n) → v = 0 ∧ ∀ x ∈ xs, x = 0
  | 0, xs, v, hn, _, _, h, _ => by
    have : xs = [] := List.eq_nil_of_length_eq_zero hn
    subst this
    exact ⟨by simpa using h.symm, by simp⟩
  | n + 1, xs, v, hn, h4, hb, h, hv => by
    have hne : xs ≠ [] := by intro e; rw [e] at hn; simp at hn
    obtain ⟨ys, x, rfl⟩ : ∃ ys x, xs = ys ++ [x] := ⟨xs.dropLast, xs.getLast hne, (List.dropLast_concat_getLast hne).symm⟩
    have hby : AllB ys := fun z hz => hb z (List.mem_append_left _ hz)
    have hx : x < 256 := hb x (List.mem_append_right _ (List.mem_singleton_self _))
    rw [List.foldl_append] at h
    have hs : ys.foldl crcByte 0 < 4294967296 := foldl_lt (fun _ _ => crcByte_lt) ys 0 hby (by omega)
    have hv24 : v < 16777216 := Nat.lt_of_lt_of_le hv (by
      have : (256 : Nat) ^ (4 - (n + 1)) ≤ 256 ^ 3 := Nat.pow_le_pow_right (by omega) (by omega)
      simpa using this)
    have h1 := crcByte_small hs hx h hv24
    have hlt : ys.foldl crcByte 0 < 256 ^ (4 - n) := by
      rw [h1, show 4 - n = (4 - (n + 1)) + 1 from by omega, Nat.pow_succ]
      omega
    obtain ⟨e0, hz⟩ := four_zero n ys _ (by simp at hn; exact hn) (by omega) hby rfl hlt
    rw [e0] at h1
    refine ⟨by omega, fun z hz' => ?_⟩
    rcases List.mem_append.1 hz' with h | h
    · exact hz z h
    · rw [List.mem_singleton.1 h]; omega
theorem zeros_fold : ∀ (zs : List Nat) (s : Nat), s < 4294967296 → (∀ z ∈ zs, z = 0) → zs.foldl crcByte s = 0 → s = 0
  | [], _, _, _, h => h
  | z :: r, s, hs, hz, h => by
    obtain rfl := hz z (List.mem_cons_self ..)
    have h1 := zeros_fold r (crcByte s 0) (crcByte_lt hs (by omega)) (fun y hy => hz y (List.mem_cons_of_mem _ hy)) h
    have := crcByte_small hs (by omega) h1 (by omega)
    omega
theorem zeros_fold0 : ∀ (zs : List Nat), (∀ z ∈ zs, z = 0) → zs.foldl crcByte 0 = 0
  | [], _ => rfl
  | z :: r, hz => by
    obtain rfl := hz z (List.mem_cons_self ..)
    exact zeros_fold0 r (fun y hy => hz y (List.mem_cons_of_mem _ hy))

/-- as long, alike but for four places from 'at' on -/
structure Near (l m : List Nat) (at_ : Nat) : Prop where
  len : m.length = l.length
  all : AllB m
  same : ∀ j, (j < at_ ∨ at_ + 4 ≤ j) → m[j]? = l[j]?

theorem xorL_zero_of {l m : List Nat} (hlen : m.length = l.length) {j z : Nat} (h : m[j]? = l[j]?) (hz : (xorL l m)[j]? = some z) : z = 0 := by
  have hj : j < (xorL l m).length := (List.getElem?_eq_some_iff.1 hz).1
  rw [xorL_length _ _ hlen.symm] at hj
  have h1 : l[j]? = some l[j] := List.getElem?_eq_getElem hj
  rw [xorL_get l m j _ _ h1 (h.trans h1)] at hz
  simpa using hz.symm
theorem crc_tells {l m : List Nat} {at_ : Nat} (hl : AllB l) (h : Near l m at_) : crcN l = crcN m ↔ l = m := by
  constructor
  · intro he
    have hx := xorL_lt l m hl h.all
    have e0 : (xorL l m).foldl crcByte 0 = 0 := by
      have := crc_fold_xor l m 4294967295 4294967295 h.len.symm
      rw [Nat.xor_self] at this
      rw [this]
      have h1 := crcL_lt hl
      have h2 := crcL_lt h.all
      unfold crcN at he
      have : crcL l = crcL m := by omega
      unfold crcL at this
      rw [this, Nat.xor_self]
    have hsplit : xorL l m = (xorL l m).take at_ ++ (((xorL l m).drop at_).take 4 ++ ((xorL l m).drop at_).drop 4) := by rw [List.take_append_drop, List.take_append_drop]
    have hpre : ∀ z ∈ (xorL l m).take at_, z = 0 := by
      intro z hz
      obtain ⟨j, hj, hjz⟩ := List.mem_iff_getElem?.1 hz |>.imp fun j hj => (⟨(List.getElem?_eq_some_iff.1 hj).1, hj⟩ : j < _ ∧ _)
      have hja : j < at_ := by simp at hj; omega
      rw [List.getElem?_take_of_lt hja] at hjz
      exact xorL_zero_of h.len (h.same j (.inl hja)) hjz
    have hpost : ∀ z ∈ ((xorL l m).drop at_).drop 4, z = 0 := by
      intro z hz
      obtain ⟨j, hjz⟩ := List.mem_iff_getElem?.1 hz
      rw [List.drop_drop, List.getElem?_drop] at hjz
      exact xorL_zero_of h.len (h.same _ (.inr (by omega))) hjz
    have hmid : ∀ z ∈ ((xorL l m).drop at_).take 4, z = 0 := by
      rw [hsplit, List.foldl_append, zeros_fold0 _ hpre, List.foldl_append] at e0
      have hb4 : AllB (((xorL l m).drop at_).take 4) := (hx.drop _).take _
      have e1 := zeros_fold _ _ (foldl_lt (fun _ _ => crcByte_lt) _ 0 hb4 (by omega)) hpost e0
      have hl4 : (((xorL l m).drop at_).take 4).length ≤ 4 := by simp; omega
      exact (four_zero _ _ _ rfl hl4 hb4 e1 (Nat.pow_pos (by omega))).2
    have hall : ∀ z ∈ xorL l m, z = 0 := by
      intro z hz
      rw [hsplit] at hz
      rcases List.mem_append.1 hz with hz | hz
      · exact hpre z hz
      · rcases List.mem_append.1 hz with hz | hz
        · exact hmid z hz
        · exact hpost z hz
    apply List.ext_getElem h.len.symm
    intro j h1 h2
    have := xorL_get l m j _ _ (List.getElem?_eq_getElem h1) (List.getElem?_eq_getElem h2)
    have hz := hall _ (List.mem_iff_getElem?.2 ⟨j, this⟩)
    have := xor_self_cancel hz
    simpa using this
  · intro e
    rw [e]

/-! ### exchanged -/
theorem wsum_swap (m : List Nat) (a b : Nat) (ha : 2 * a + 1 < m.length) (hb : 2 * b + 1 < m.length) :
    wsum ((((m.set (2 * a) m[2 * b]).set (2 * b) m[2 * a]).set (2 * a + 1) m[2 * b + 1]).set (2 * b + 1) m[2 * a + 1]) = wsum m := by
  by_cases e : a = b
  · subst e
    simp
  · have hc : (((m.set (2 * a) m[2 * b]).set (2 * b) m[2 * a]).set (2 * a + 1) m[2 * b + 1]).set (2 * b + 1) m[2 * a + 1] =
        (((m.set (2 * a) m[2 * b]).set (2 * a + 1) m[2 * b + 1]).set (2 * b) m[2 * a]).set (2 * b + 1) m[2 * a + 1] := by
      rw [List.set_comm (i := 2 * b) (j := 2 * a + 1) _ _ (by omega)]
    rw [hc]
    have h1 := wsum_set a m m[2 * b] m[2 * b + 1] ha
    have h2 := wsum_set b ((m.set (2 * a) m[2 * b]).set (2 * a + 1) m[2 * b + 1]) m[2 * a] m[2 * a + 1] (by simpa using hb)
    have g1 : ((m.set (2 * a) m[2 * b]).set (2 * a + 1) m[2 * b + 1])[2 * b]'(by simp; omega) = m[2 * b] := by
      rw [List.getElem_set_ne (by omega), List.getElem_set_ne (by omega)]
    have g2 : ((m.set (2 * a) m[2 * b]).set (2 * a + 1) m[2 * b + 1])[2 * b + 1]'(by simp; omega) = m[2 * b + 1] := by
      rw [List.getElem_set_ne (by omega), List.getElem_set_ne (by omega)]
    rw [g1, g2] at h2
    omega

end Go.Proofs.Ytbimdogiollgkaa
