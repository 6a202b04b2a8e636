/- The sums of the program as plain functions on numbers, and their laws: fo, wsum (one's complement sums), crcB, crcL (CRC-32C), mixL. No program in sight. -/
namespace Go.Proofs.Ytaamflhleommlaa

/-- a sum, its high half added to the low one till there is none -/
def fo (s : Nat) : Nat := if s = 0 then 0 else (s - 1) % 65535 + 1

theorem fo_le (s : Nat) : fo s ≤ 65535 := by unfold fo; split <;> omega
theorem fo_small {s : Nat} (h : s ≤ 65535) : fo s = s := by unfold fo; split <;> omega
theorem fo_step {s : Nat} (h : 65535 < s) : fo (s / 65536 + s % 65536) = fo s := by unfold fo; split <;> split <;> omega
theorem fo_add (a b : Nat) : fo (fo a + b) = fo (a + b) := by unfold fo; split <;> split <;> (try split) <;> omega
theorem fo_add' (a b : Nat) : fo (a + fo b) = fo (a + b) := by rw [Nat.add_comm, fo_add, Nat.add_comm]
theorem fo_zero : fo 0 = 0 := rfl
theorem fo_fo (a : Nat) : fo (fo a) = fo a := by have := fo_add a 0; simpa using this
theorem fo_behind (a : Nat) : fo (a + (65535 - fo a)) = 65535 := by unfold fo; split <;> split <;> omega
theorem fo_mod (a : Nat) : fo a % 65535 = a % 65535 := by unfold fo; split <;> omega
theorem fo_eq {a b : Nat} (h : a % 65535 = b % 65535) (ha : a ≠ 0) (hb : b ≠ 0) : fo a = fo b := by unfold fo; rw [if_neg ha, if_neg hb]; omega
theorem fo_pos {a : Nat} (ha : a ≠ 0) : 1 ≤ fo a := by unfold fo; rw [if_neg ha]; omega
theorem fo_zero_iff (a : Nat) : fo a = 0 ↔ a = 0 := by unfold fo; split <;> omega

/-- the numbers of two bytes, added; a last single byte is the high one -/
def wsum : List Nat → Nat
  | [] => 0
  | [x] => x * 256
  | x :: y :: r => x * 256 + y + wsum r

def AllB (l : List Nat) : Prop := ∀ x ∈ l, x < 256

theorem wsum_append : ∀ (k : Nat) (a b : List Nat), a.length = 2 * k → wsum (a ++ b) = wsum a + wsum b
  | 0, a, b, h => by
    have : a = [] := List.eq_nil_of_length_eq_zero (by omega)
    subst this; simp [wsum]
  | k + 1, [], b, h => by simp at h
  | k + 1, [x], b, h => by simp at h; omega
  | k + 1, x :: y :: r, b, h => by
    simp only [List.cons_append, wsum]
    rw [wsum_append k r b (by simp at h; omega)]
    omega
theorem wsum_even {a : List Nat} (b : List Nat) (h : a.length % 2 = 0) : wsum (a ++ b) = wsum a + wsum b := wsum_append (a.length / 2) a b (by omega)

theorem wsum_pad : ∀ (k : Nat) (a : List Nat), a.length = 2 * k + 1 → wsum (a ++ [0]) = wsum a
  | 0, a, h => by
    match a, h with
    | [x], _ => simp [wsum]
  | k + 1, [], h => by simp at h
  | k + 1, [x], h => by simp at h
  | k + 1, x :: y :: r, h => by
    simp only [List.cons_append, wsum]
    rw [wsum_pad k r (by simp at h; omega)]

/-- so many bytes from the front, then the next number -/
theorem wsum_take_two (l : List Nat) (k : Nat) (h : 2 * k + 1 < l.length) : wsum (l.take (2 * (k + 1))) = wsum (l.take (2 * k)) + (l[2 * k] * 256 + l[2 * k + 1]) := by
  have e : l.take (2 * (k + 1)) = l.take (2 * k) ++ [l[2 * k], l[2 * k + 1]] := by
    rw [show 2 * (k + 1) = 2 * k + 1 + 1 from by omega, List.take_succ_eq_append_getElem h, List.take_succ_eq_append_getElem (show 2 * k < l.length from by omega), List.append_assoc]
    rfl
  rw [e, wsum_append k _ _ (by simp; omega)]
  simp [wsum]
theorem wsum_take_last (l : List Nat) (k : Nat) (h : 2 * k + 1 = l.length) : wsum l = wsum (l.take (2 * k)) + l[2 * k] * 256 := by
  have e : l = l.take (2 * k) ++ [l[2 * k]] := by
    have := List.take_succ_eq_append_getElem (l := l) (i := 2 * k) (by omega)
    rw [← this, List.take_of_length_le (by omega)]
  conv => lhs; rw [e]
  rw [wsum_append k _ _ (by simp; omega)]
  simp [wsum]

/-- one number of two bytes changed -/
theorem wsum_set : ∀ (j : Nat) (l : List Nat) (a b : Nat) (h : 2 * j + 1 < l.length), wsum ((l.set (2 * j) a).set (2 * j + 1) b) + (l[2 * j] * 256 + l[2 * j + 1]) = wsum l + (a * 256 + b)
  | _, [], _, _, h => by simp at h
  | _, [x], _, _, h => by simp at h
  | 0, x :: y :: r, a, b, h => by simp [wsum]; omega
  | j + 1, x :: y :: r, a, b, h => by
    have ih := wsum_set j r a b (by simp at h; omega)
    simp only [show 2 * (j + 1) = 2 * j + 1 + 1 from by omega, List.set_cons_succ, List.getElem_cons_succ, wsum]
    omega

/-- The sum with bytes added; the sum of bytes. -/
def partN (s : Nat) (b : List Nat) : Nat := fo (s + wsum b)
def foldN (s : Nat) : Nat := 65535 - fo s
def netN (b : List Nat) : Nat := 65535 - fo (wsum b)
def fixN (x old now : Nat) : Nat := 65535 - fo ((65535 - x) + (65535 - old) + now)

theorem partN_le (s : Nat) (b : List Nat) : partN s b ≤ 65535 := fo_le _
theorem netN_lt (b : List Nat) : netN b < 65536 := by unfold netN; omega
theorem foldN_lt (s : Nat) : foldN s < 65536 := by unfold foldN; omega
theorem fixN_lt (x o n : Nat) : fixN x o n < 65536 := by unfold fixN; omega
/-- a sum that is fixed is the sum that is made anew, but that 0 and ffff are one -/
theorem fix_net {W W' old now : Nat} (ho : old < 65536) (h : W' + old = W + now) : fixN (65535 - fo W) old now = 65535 - fo W' ∨ (fixN (65535 - fo W) old now = 0 ∧ 65535 - fo W' = 65535) ∨ (fixN (65535 - fo W) old now = 65535 ∧ 65535 - fo W' = 0) := by
  unfold fixN
  have h1 := fo_le W
  have h2 := fo_mod W
  generalize fo W = F at h1 h2
  unfold fo
  split <;> split <;> omega
theorem net_of (b : List Nat) : foldN (partN 0 b) = netN b := by unfold foldN partN netN; rw [fo_fo]; simp

/-- one bit, so many bits, one byte, all bytes of the CRC -/
def crcBit (c : Nat) : Nat := if c % 2 = 1 then (c / 2) ^^^ 2197175160 else c / 2
def crcBits : Nat → Nat → Nat
  | 0, c => c
  | j + 1, c => crcBit (crcBits j c)
def crcByte (c x : Nat) : Nat := crcBits 8 (c ^^^ x)
def crcL (l : List Nat) : Nat := l.foldl crcByte 4294967295
def crcN (l : List Nat) : Nat := 4294967295 - crcL l

theorem xor_lt32 {a b : Nat} (ha : a < 4294967296) (hb : b < 4294967296) : a ^^^ b < 4294967296 := Nat.xor_lt_two_pow (n := 32) (by omega) (by omega)
theorem crcBit_lt {c : Nat} (h : c < 4294967296) : crcBit c < 4294967296 := by
  unfold crcBit
  split
  · exact xor_lt32 (by omega) (by omega)
  · omega
theorem crcBits_lt (j : Nat) {c : Nat} (h : c < 4294967296) : crcBits j c < 4294967296 := by
  induction j with
  | zero => exact h
  | succ j ih => exact crcBit_lt ih
theorem crcByte_lt {c x : Nat} (h : c < 4294967296) (hx : x < 256) : crcByte c x < 4294967296 := crcBits_lt 8 (xor_lt32 h (by omega))
theorem foldl_lt {f : Nat → Nat → Nat} (hf : ∀ c x, c < 4294967296 → x < 256 → f c x < 4294967296) : ∀ (l : List Nat) (c : Nat), AllB l → c < 4294967296 → l.foldl f c < 4294967296
  | [], _, _, h => h
  | x :: r, c, hb, h => foldl_lt hf r (f c x) (fun y hy => hb y (List.mem_cons_of_mem _ hy)) (hf c x h (hb x (List.mem_cons_self ..)))
theorem foldl_take {f : Nat → Nat → Nat} (l : List Nat) (k c : Nat) (h : k < l.length) : (l.take (k + 1)).foldl f c = f ((l.take k).foldl f c) l[k] := by
  rw [List.take_succ_eq_append_getElem h, List.foldl_append]; rfl
theorem AllB.take {l : List Nat} (h : AllB l) (k : Nat) : AllB (l.take k) := fun x hx => h x (List.mem_of_mem_take hx)
theorem AllB.drop {l : List Nat} (h : AllB l) (k : Nat) : AllB (l.drop k) := fun x hx => h x (List.mem_of_mem_drop hx)
theorem AllB.append {a b : List Nat} (h : AllB a) (k : AllB b) : AllB (a ++ b) := fun x hx => (List.mem_append.1 hx).elim (h x) (k x)
theorem crcL_lt {l : List Nat} (h : AllB l) : crcL l < 4294967296 := foldl_lt (fun _ _ => crcByte_lt) l _ h (by omega)
theorem crcN_lt (l : List Nat) : crcN l < 4294967296 := by unfold crcN; omega

/-- the hash -/
def mixByte (c x : Nat) : Nat := (c ^^^ x) * 16777619 % 4294967296
def mixL (seed : Nat) (l : List Nat) : Nat := l.foldl mixByte (seed ^^^ 2166136261)
def mixEnd (c : Nat) : Nat := let d := (c ^^^ c / 32768) * 2246822507 % 4294967296; d ^^^ d / 8192
def mixN (seed : Nat) (l : List Nat) : Nat := mixEnd (mixL seed l)
theorem mixByte_lt (c x : Nat) : mixByte c x < 4294967296 := Nat.mod_lt _ (by omega)
theorem mixL_lt {seed : Nat} {l : List Nat} (h : seed < 4294967296) (hl : AllB l) : mixL seed l < 4294967296 := foldl_lt (fun _ _ _ _ => mixByte_lt _ _) l _ hl (xor_lt32 h (by omega))
theorem mixEnd_lt (c : Nat) : mixEnd c < 4294967296 := by
  have : (c ^^^ c / 32768) * 2246822507 % 4294967296 < 4294967296 := Nat.mod_lt _ (by omega)
  exact xor_lt32 this (by omega)
theorem mixN_lt (seed : Nat) (l : List Nat) : mixN seed l < 4294967296 := mixEnd_lt _

theorem crc_known : crcN [49, 50, 51, 52, 53, 54, 55, 56, 57] = 3808858755 := by decide +kernel
theorem net_known : netN [0, 1] = 65534 := by decide +kernel

end Go.Proofs.Ytaamflhleommlaa
