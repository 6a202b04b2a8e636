/- IPv4 headers, plain: a header's bytes, a packet's header. -/
import Derived.Test.YtpgbldpppdmdoaaReader
import Derived.Test.YtpgbldpppdmdoaaSumFold
import Derived.Laws.BitsLemmas
namespace Go.Proofs.Ytpgbldpppdmdoaa
set_option linter.unusedVariables false
set_option linter.unusedSimpArgs false
open Go.RowKit

theorem or_def (x y : Int) : bits .or .i64 x y = IntKind.i64.wrap ((BitVec.ofInt 64 x ||| BitVec.ofInt 64 y).toNat : Nat) := rfl
theorem and_def (x y : Int) : bits .and .i64 x y = IntKind.i64.wrap ((BitVec.ofInt 64 x &&& BitVec.ofInt 64 y).toNat : Nat) := rfl
theorem i64_and_mask (k : Nat) (hk : k ≤ 62) (n : Int) : bits .and .i64 n ((2 ^ k - 1 : Nat) : Int) = ((n % ((2 ^ k : Nat) : Int)).toNat : Int) := by
  have hm : (BitVec.ofInt 64 ((2 ^ k - 1 : Nat) : Int)).toNat = 2 ^ k - 1 := by
    rw [BitVec.ofInt_natCast, BitVec.toNat_ofNat]
    exact Nat.mod_eq_of_lt (Nat.lt_of_lt_of_le (Nat.sub_lt (Nat.two_pow_pos k) (by omega)) (Nat.pow_le_pow_right (by omega) (by omega)))
  have key : (BitVec.ofInt 64 n &&& BitVec.ofInt 64 ((2 ^ k - 1 : Nat) : Int)).toNat = (n % ((2 ^ 64 : Nat) : Int)).toNat % 2 ^ k := by
    rw [BitVec.toNat_and, BitVec.toNat_ofInt, hm, Nat.and_two_pow_sub_one_eq_mod]
  rw [and_def, key]
  have hp : (2 ^ k : Nat) ≤ 2 ^ 62 := Nat.pow_le_pow_right (by omega) hk
  have hd : (2 ^ k : Nat) ∣ 2 ^ 64 := Nat.pow_dvd_pow 2 (by omega)
  have hpos : 0 < 2 ^ k := Nat.two_pow_pos k
  have e : ((n % ((2 ^ 64 : Nat) : Int)).toNat % 2 ^ k : Nat) = (n % ((2 ^ k : Nat) : Int)).toNat := by
    have h0 : 0 ≤ n % ((2 ^ 64 : Nat) : Int) := Int.emod_nonneg _ (by decide)
    apply Int.ofNat.inj
    show (((n % ((2 ^ 64 : Nat) : Int)).toNat % 2 ^ k : Nat) : Int) = (((n % ((2 ^ k : Nat) : Int)).toNat : Nat) : Int)
    rw [Int.natCast_emod, Int.toNat_of_nonneg h0, Int.toNat_of_nonneg (Int.emod_nonneg _ (by omega))]
    exact Int.emod_emod_of_dvd _ (Int.natCast_dvd_natCast.2 hd)
  rw [e]
  have hlt : (n % ((2 ^ k : Nat) : Int)).toNat < 2 ^ k := by
    have h1 := Int.emod_lt_of_pos n (show (0 : Int) < ((2 ^ k : Nat) : Int) by omega)
    have h2 := Int.emod_nonneg n (show ((2 ^ k : Nat) : Int) ≠ 0 by omega)
    omega
  have e62 : (2 ^ 62 : Nat) = 4611686018427387904 := by decide
  rw [e62] at hp
  generalize (n % ((2 ^ k : Nat) : Int)).toNat = x at *
  exact IntWalk.i64_in _ (by omega)
theorem i64_or_nat (a b : Nat) (ha : a < 9223372036854775808) (hb : b < 9223372036854775808) : bits .or .i64 (a : Int) (b : Int) = ((a ||| b : Nat) : Int) :=
  (bits_nat .i64 63 (by decide) (fun n h0 h1 => IntWalk.i64_in n (by have : (2 : Int) ^ 63 = 9223372036854775808 := by decide
                                                                     omega)) a b ha hb).2
theorem i64_and_nat (a b : Nat) (ha : a < 9223372036854775808) (hb : b < 9223372036854775808) : bits .and .i64 (a : Int) (b : Int) = ((a &&& b : Nat) : Int) :=
  (bits_nat .i64 63 (by decide) (fun n h0 h1 => IntWalk.i64_in n (by have : (2 : Int) ^ 63 = 9223372036854775808 := by decide
                                                                     omega)) a b ha hb).1

structure Hd where
  ihl : Int
  tos : Int
  len : Int
  id : Int
  flags : Int
  off : Int
  ttl : Int
  proto : Int
  sum : Int
  src : Nat
  dst : Nat
def Hd.vals (h : Hd) : Array Value := #[.int .i64 h.ihl, .int .i64 h.tos, .int .i64 h.len, .int .i64 h.id, .int .i64 h.flags, .int .i64 h.off, .int .i64 h.ttl, .int .i64 h.proto, .int .i64 h.sum, .int .u32 (h.src : Int), .int .u32 (h.dst : Int)]
def hd0 : Hd := ⟨0, 0, 0, 0, 0, 0, 0, 0, 0, 0, 0⟩

/-- the j-th byte -/
def at' (b : List Nat) (j : Nat) : Nat := b.getD j 0
def two' (b : List Nat) (j : Nat) : Nat := at' b j * 256 + at' b (j + 1)
def four' (b : List Nat) (j : Nat) : Nat := two' b j * 65536 + two' b (j + 2)
theorem at_lt {b : List Nat} (h : AllB b) (j : Nat) : at' b j < 256 := by
  unfold at'
  rw [List.getD_eq_getElem?_getD]
  by_cases hj : j < b.length
  · rw [List.getElem?_eq_getElem hj]; exact h _ (List.getElem_mem hj)
  · rw [List.getElem?_eq_none (by omega)]; simp
theorem two_lt {b : List Nat} (h : AllB b) (j : Nat) : two' b j < 65536 := by
  unfold two'
  have := at_lt h j
  have := at_lt h (j + 1)
  omega
theorem four_lt {b : List Nat} (h : AllB b) (j : Nat) : four' b j < 4294967296 := by
  unfold four'
  have := two_lt h j
  have := two_lt h (j + 2)
  omega
theorem drop_one {b : List Nat} {j : Nat} (h : j < b.length) : b.drop j = at' b j :: b.drop (j + 1) := by
  rw [List.drop_eq_getElem_cons h]
  unfold at'
  simp [h]
theorem nb_at {b : List Nat} {j : Nat} (h : j < b.length) : nb ((b.drop j).take 1) = at' b j := by
  rw [drop_one h]; simp [nb]
theorem nb_two {b : List Nat} {j : Nat} (h : j + 1 < b.length) : nb ((b.drop j).take 2) = two' b j := by
  rw [drop_one (j := j) (by omega), drop_one (j := j + 1) h]; simp [nb, two']
theorem nb_four {b : List Nat} {j : Nat} (h : j + 3 < b.length) : nb ((b.drop j).take 4) = four' b j := by
  have h2 : b.drop (j + 1 + 1) = at' b (j + 2) :: b.drop (j + 3) := drop_one (j := j + 2) (by omega)
  have h3 : b.drop (j + 3) = at' b (j + 3) :: b.drop (j + 4) := drop_one (j := j + 3) h
  rw [drop_one (j := j) (by omega), drop_one (j := j + 1) (by omega), h2, h3]
  show _ = (at' b j * 256 + at' b (j + 1)) * 65536 + (at' b (j + 2) * 256 + at' b (j + 3))
  simp [nb]
  omega

def ihlP (b : List Nat) : Nat := at' b 0 % 16
def lenP (b : List Nat) : Nat := two' b 2
def hdP (b : List Nat) : Hd := ⟨(ihlP b : Nat), (at' b 1 : Nat), (lenP b : Nat), (two' b 4 : Nat), (two' b 6 / 8192 : Nat), (two' b 6 % 8192 : Nat), (at' b 8 : Nat), (at' b 9 : Nat), (two' b 10 : Nat), four' b 12, four' b 16⟩
/-- why bytes are no packet; 0: they are -/
def whyP (b : List Nat) : Nat :=
  if b.length < 20 then 1
  else if at' b 0 / 16 ≠ 4 then 2
  else if ihlP b < 5 then 3
  else if b.length < 4 * ihlP b then 1
  else if netN (b.take (4 * ihlP b)) ≠ 0 then 4
  else if lenP b < 4 * ihlP b then 3
  else if b.length < lenP b then 5
  else 0
def bodyP (b : List Nat) : List Nat := (b.take (lenP b)).drop (4 * ihlP b)

/-- flags and offset, in two bytes -/
def flof (h : Hd) : Nat := (h.flags % 8).toNat * 8192 + (h.off % 8192).toNat
def headB (h : Hd) (c : Nat) : List Nat := be 69 1 ++ be (u64n h.tos) 1 ++ be (u64n h.len) 2 ++ be (u64n h.id) 2 ++ be (flof h) 2 ++ be (u64n h.ttl) 1 ++ be (u64n h.proto) 1 ++ be c 2 ++ be h.src 4 ++ be h.dst 4
def buildB (h : Hd) : List Nat := headB h (netN (headB h 0))
theorem headB_length (h : Hd) (c : Nat) : (headB h c).length = 20 := by simp [headB, be_length]
theorem headB_all (h : Hd) (c : Nat) : AllB (headB h c) := by
  unfold headB
  exact (((((((((be_all _ _).append (be_all _ _)).append (be_all _ _)).append (be_all _ _)).append (be_all _ _)).append (be_all _ _)).append (be_all _ _)).append (be_all _ _)).append (be_all _ _)).append (be_all _ _)
theorem buildB_length (h : Hd) : (buildB h).length = 20 := headB_length _ _
theorem buildB_all (h : Hd) : AllB (buildB h) := headB_all _ _
def wholeP (h : Hd) : Bool := decide (h.flags % 2 = 0) && decide (h.off = 0)

/-- numbers as they fit -/
structure HdOk (h : Hd) : Prop where
  ihl : -9223372036854775808 ≤ h.ihl ∧ h.ihl ≤ 9223372036854775807
  tos : -9223372036854775808 ≤ h.tos ∧ h.tos ≤ 9223372036854775807
  len : -9223372036854775808 ≤ h.len ∧ h.len ≤ 9223372036854775807
  id : -9223372036854775808 ≤ h.id ∧ h.id ≤ 9223372036854775807
  flags : -9223372036854775808 ≤ h.flags ∧ h.flags ≤ 9223372036854775807
  off : -9223372036854775808 ≤ h.off ∧ h.off ≤ 9223372036854775807
  ttl : -9223372036854775808 ≤ h.ttl ∧ h.ttl ≤ 9223372036854775807
  proto : -9223372036854775808 ≤ h.proto ∧ h.proto ≤ 9223372036854775807
  sum : -9223372036854775808 ≤ h.sum ∧ h.sum ≤ 9223372036854775807
  src : h.src < 4294967296
  dst : h.dst < 4294967296
theorem hd0_ok : HdOk hd0 := ⟨by decide, by decide, by decide, by decide, by decide, by decide, by decide, by decide, by decide, by decide, by decide⟩

theorem toNat_i64 (z : Int) : (BitVec.ofInt 64 (IntKind.i64.wrap z)).toNat = (z % 18446744073709551616).toNat := by
  rw [BitVec.toNat_ofInt, IntKind.wrap_i64]
  have e2 : ((2 ^ 64 : Nat) : Int) = 18446744073709551616 := by decide
  rw [e2]
  omega
theorem toNat_small (o : Nat) (h : o < 8192) : (BitVec.ofInt 64 (o : Int)).toNat = o := by
  rw [BitVec.ofInt_natCast, BitVec.toNat_ofNat]
  exact Nat.mod_eq_of_lt (Nat.lt_of_lt_of_le h (by decide))
theorem or_low (z : Int) (o : Nat) (hz : z % 8192 = 0) (h : o < 8192) : bits .or .i64 (IntKind.i64.wrap z) (o : Int) = IntKind.i64.wrap (((z % 18446744073709551616).toNat + o : Nat) : Int) := by
  have h0 : (z % 18446744073709551616).toNat % 2 ^ 13 = 0 := by omega
  rw [or_def, BitVec.toNat_or, toNat_i64, toNat_small o h, nat_join 13 _ o h0 h]
theorem u64n_wrap (z : Int) : u64n (IntKind.i64.wrap z) = (z % 18446744073709551616).toNat := by
  unfold u64n
  rw [IntKind.wrap_i64]
  omega
/-- the flags shifted up, the offset's low bits behind -/
theorem flof_or (h : Hd) : be (u64n (bits .or .i64 (IntKind.i64.wrap (h.flags * 8192)) ((h.off % 8192).toNat : Int))) 2 = be (flof h) 2 := by
  have hol : (h.off % 8192).toNat < 8192 := by omega
  rw [or_low _ _ (by omega) hol, u64n_wrap]
  apply be_mod
  unfold flof
  generalize (h.off % 8192).toNat = o at *
  generalize h.flags = f at *
  have e : (256 : Nat) ^ 2 = 65536 := by decide
  rw [e]
  omega
end Go.Proofs.Ytpgbldpppdmdoaa
