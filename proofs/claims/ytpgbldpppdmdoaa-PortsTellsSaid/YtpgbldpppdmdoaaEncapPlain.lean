/- Plain laws of packets in packets: a hop less, its sum right again. -/
import Derived.Test.YtpgbldpppdmdoaaPortsLaws
import Derived.Test.YtpgbldpppdmdoaaIpGen
namespace Go.Proofs.Ytpgbldpppdmdoaa
set_option linter.unusedVariables false
set_option linter.unusedSimpArgs false
open Go.RowKit

theorem AllB.set2 {l : List Nat} (h : AllB l) (j y : Nat) (hy : y < 256) : AllB (l.set j y) := by
  intro x hx
  rcases List.mem_or_eq_of_mem_set hx with h1 | h1
  · exact h x h1
  · omega

/-- what is known of a packet -/
theorem why_zero {l : List Nat} (h : whyP l = 0) : 20 ≤ l.length ∧ at' l 0 / 16 = 4 ∧ 5 ≤ ihlP l ∧ 4 * ihlP l ≤ l.length ∧ netN (l.take (4 * ihlP l)) = 0 ∧ 4 * ihlP l ≤ lenP l ∧ lenP l ≤ l.length := by
  have h20 : 20 ≤ l.length := by
    rcases Nat.lt_or_ge l.length 20 with h1 | h1
    · rw [why_short h1] at h; cases h
    · exact h1
  have hc := why_cases (l := l) h20 rfl rfl rfl rfl rfl
  rw [h] at hc
  omega

/-- a packet a hop further -/
def olderN (l : List Nat) : Nat := fixN (two' l 10) (two' l 8) (two' (l.set 8 (at' l 8 - 1)) 8)
def olderB (l : List Nat) : List Nat := ((l.set 8 (at' l 8 - 1)).set 10 (olderN l / 256)).set 11 (olderN l % 256)
theorem olderN_lt (l : List Nat) : olderN l < 65536 := fixN_lt _ _ _
theorem olderB_length (l : List Nat) : (olderB l).length = l.length := by unfold olderB; simp
theorem olderB_all {l : List Nat} (h : AllB l) : AllB (olderB l) := by
  have := olderN_lt l
  have := at_lt h 8
  exact ((h.set2 8 _ (by omega)).set2 10 _ (by omega)).set2 11 _ (by omega)
theorem at_set_ne {l : List Nat} {i y j : Nat} (h : i ≠ j) : at' (l.set i y) j = at' l j := by
  unfold at'
  simp [List.getD_eq_getElem?_getD, List.getElem?_set_ne h]
theorem at_set_eq {l : List Nat} {i y : Nat} (h : i < l.length) : at' (l.set i y) i = y := by
  unfold at'
  simp [List.getD_eq_getElem?_getD, List.getElem?_set_self h]
theorem older_at {l : List Nat} {j : Nat} (h8 : j ≠ 8) (h10 : j ≠ 10) (h11 : j ≠ 11) : at' (olderB l) j = at' l j := by
  unfold olderB
  rw [at_set_ne (by omega), at_set_ne (by omega), at_set_ne (by omega)]
theorem older_ttl {l : List Nat} (h : 20 ≤ l.length) : at' (olderB l) 8 = at' l 8 - 1 := by
  unfold olderB
  rw [at_set_ne (by omega), at_set_ne (by omega), at_set_eq (by omega)]
theorem older_now {l : List Nat} (h : 20 ≤ l.length) : two' (l.set 8 (at' l 8 - 1)) 8 = (at' l 8 - 1) * 256 + at' l 9 := by
  unfold two'
  rw [at_set_eq (by omega), at_set_ne (by omega)]
theorem older_ihl (l : List Nat) : ihlP (olderB l) = ihlP l := by
  unfold ihlP; rw [older_at (by omega) (by omega) (by omega)]
theorem older_lenP (l : List Nat) : lenP (olderB l) = lenP l := by
  unfold lenP two'; rw [older_at (by omega) (by omega) (by omega), older_at (by omega) (by omega) (by omega)]
theorem older_id (l : List Nat) : two' (olderB l) 4 = two' l 4 := by
  unfold two'; rw [older_at (by omega) (by omega) (by omega), older_at (by omega) (by omega) (by omega)]
theorem older_drop {l : List Nat} {k : Nat} (h : 12 ≤ k) : (olderB l).drop k = l.drop k := by
  apply List.ext_getElem?
  intro i
  unfold olderB
  rw [List.getElem?_drop, List.getElem?_drop, List.getElem?_set_ne (by omega), List.getElem?_set_ne (by omega), List.getElem?_set_ne (by omega)]
theorem older_take {l : List Nat} {k : Nat} (h : 12 ≤ k) (hl : k ≤ l.length) : (olderB l).take k = olderB (l.take k) := by
  have e : ∀ j, j < k → at' (l.take k) j = at' l j := by
    intro j hj
    unfold at'
    simp [List.getD_eq_getElem?_getD, List.getElem?_take_of_lt hj]
  have e2 : olderN (l.take k) = olderN l := by
    have h3 : ∀ m : List Nat, two' (m.set 8 (at' m 8 - 1)) 8 = (at' (m.set 8 (at' m 8 - 1)) 8) * 256 + at' m 9 := by
      intro m
      unfold two'
      rw [at_set_ne (i := 8) (j := 8 + 1) (by omega)]
    unfold olderN
    rw [h3, h3, at_set_eq (by rw [List.length_take]; omega), at_set_eq (by omega)]
    unfold two'
    rw [e 8 (by omega), e 9 (by omega), e 10 (by omega), e (10 + 1) (by omega)]
  unfold olderB
  rw [e2, e 8 (by omega), List.take_set, List.take_set, List.take_set]
theorem older_four {l : List Nat} {j : Nat} (h : 12 ≤ j) : four' (olderB l) j = four' l j := by
  unfold four' two'
  rw [older_at (by omega) (by omega) (by omega), older_at (by omega) (by omega) (by omega), older_at (by omega) (by omega) (by omega), older_at (by omega) (by omega) (by omega)]

/-- with its sum right, a hop further, the sum is right again -/
theorem wsum_older {l : List Nat} (hl : 20 ≤ l.length) (h8 : 1 ≤ at' l 8) :
    wsum (olderB l) + two' l 10 + two' l 8 = wsum l + olderN l + ((at' l 8 - 1) * 256 + at' l 9) := by
  have e8 : l.set 8 (at' l 8 - 1) = (l.set (2 * 4) (at' l 8 - 1)).set (2 * 4 + 1) (at' l 9) := by
    apply List.ext_getElem?
    intro i
    by_cases h9 : i = 9
    · subst h9
      rw [List.getElem?_set_ne (by omega), List.getElem?_set_self (by rw [List.length_set]; omega)]
      unfold at'
      rw [List.getD_eq_getElem?_getD, List.getElem?_eq_getElem (by omega)]
      rfl
    · rw [List.getElem?_set_ne (i := 2 * 4 + 1) (by omega)]
  have g : ∀ j, (h : j < l.length) → l[j] = at' l j := by
    intro j h
    unfold at'
    rw [List.getD_eq_getElem?_getD, List.getElem?_eq_getElem h]
    rfl
  have a1 := wsum_set 4 l (at' l 8 - 1) (at' l 9) (by omega)
  rw [← e8, g _ (by omega), g _ (by omega)] at a1
  have hm : 2 * 5 + 1 < (l.set 8 (at' l 8 - 1)).length := by rw [List.length_set]; omega
  have a2 := wsum_set 5 (l.set 8 (at' l 8 - 1)) (olderN l / 256) (olderN l % 256) hm
  have g10 : (l.set 8 (at' l 8 - 1))[2 * 5]'(by omega) = at' l 10 := by
    rw [List.getElem_set_ne (by omega)]
    exact g 10 (by omega)
  have g11 : (l.set 8 (at' l 8 - 1))[2 * 5 + 1]'hm = at' l 11 := by
    rw [List.getElem_set_ne (by omega)]
    exact g 11 (by omega)
  rw [g10, g11] at a2
  have e2 : (((l.set 8 (at' l 8 - 1)).set (2 * 5) (olderN l / 256)).set (2 * 5 + 1) (olderN l % 256)) = olderB l := rfl
  rw [e2] at a2
  unfold two'
  have h1 : at' l (10 + 1) = at' l 11 := rfl
  have h2 : at' l (8 + 1) = at' l 9 := rfl
  rw [h1, h2]
  have h3 : at' l (2 * 4) = at' l 8 := rfl
  have h4 : at' l (2 * 4 + 1) = at' l 9 := rfl
  rw [h3, h4] at a1
  omega
theorem net_older {l : List Nat} (ha : AllB l) (hl : 20 ≤ l.length) (h8 : 1 ≤ at' l 8) (h0 : 1 ≤ at' l 0) (hn : netN l = 0) : netN (olderB l) = 0 := by
  have h := wsum_older hl h8
  have hs : two' l 10 < 65536 := two_lt ha 10
  have ho : two' l 8 < 65536 := two_lt ha 8
  have hnow : olderN l = 65535 - fo ((65535 - two' l 10) + (65535 - two' l 8) + ((at' l 8 - 1) * 256 + at' l 9)) := by
    unfold olderN fixN
    rw [older_now hl]
  have hp : 1 ≤ wsum (olderB l) := by
    have hpos : ∀ m : List Nat, 2 ≤ m.length → 1 ≤ at' m 0 → 1 ≤ wsum m := by
      intro m hm h1
      match m, hm with
      | a :: b :: r, _ =>
        have : at' (a :: b :: r) 0 = a := rfl
        rw [this] at h1
        unfold wsum
        omega
    exact hpos _ (by rw [olderB_length]; omega) (by rw [older_at (by omega) (by omega) (by omega)]; exact h0)
  generalize two' l 10 = s at *
  generalize two' l 8 = o at *
  generalize (at' l 8 - 1) * 256 + at' l 9 = k at *
  generalize olderN l = c at *
  have hle := fo_le (wsum l)
  have hle2 := fo_le (wsum (olderB l))
  unfold netN at hn ⊢
  have m1 := fo_mod (wsum l)
  have m2 := fo_mod (wsum (olderB l))
  have m3 := fo_mod ((65535 - s) + (65535 - o) + k)
  have hle3 := fo_le ((65535 - s) + (65535 - o) + k)
  have hp2 : fo (wsum (olderB l)) ≠ 0 := fun e => by have := (fo_zero_iff _).1 e; omega
  generalize fo (wsum l) = a at *
  generalize fo (wsum (olderB l)) = b at *
  generalize fo ((65535 - s) + (65535 - o) + k) = d at *
  generalize wsum l = x at *
  generalize wsum (olderB l) = y at *
  omega

theorem at_take {l : List Nat} {k j : Nat} (h : j < k) : at' (l.take k) j = at' l j := by
  unfold at'
  simp [List.getD_eq_getElem?_getD, List.getElem?_take_of_lt h]
/-- a packet, a hop further, is a packet -/
theorem why_older {l : List Nat} (ha : AllB l) (h : whyP l = 0) (h8 : 1 ≤ at' l 8) : whyP (olderB l) = 0 := by
  obtain ⟨k1, k2, k3, k4, k5, k6, k7⟩ := why_zero h
  have e0 : at' (olderB l) 0 = at' l 0 := older_at (by omega) (by omega) (by omega)
  have hnet : netN ((olderB l).take (4 * ihlP l)) = 0 := by
    rw [older_take (by omega) k4]
    refine net_older (ha.take _) (by rw [List.length_take]; omega) (by rw [at_take (by omega)]; exact h8) (by rw [at_take (by omega)]; omega) k5
  unfold whyP
  rw [olderB_length, e0, older_ihl, older_lenP, hnet, if_neg (by omega), if_neg (by omega), if_neg (by omega), if_neg (by omega), if_neg (by omega), if_neg (by omega), if_neg (by omega)]
theorem body_older {l : List Nat} (h : whyP l = 0) : bodyP (olderB l) = bodyP l := by
  obtain ⟨k1, k2, k3, k4, k5, k6, k7⟩ := why_zero h
  unfold bodyP
  rw [older_ihl, older_lenP, List.drop_take, List.drop_take, older_drop (by omega)]

/-- what is behind a packet's own length makes no difference -/
theorem why_take {l : List Nat} (h : whyP l = 0) : whyP (l.take (lenP l)) = 0 := by
  obtain ⟨k1, k2, k3, k4, k5, k6, k7⟩ := why_zero h
  have e0 : at' (l.take (lenP l)) 0 = at' l 0 := at_take (by omega)
  have ei : ihlP (l.take (lenP l)) = ihlP l := by unfold ihlP; rw [e0]
  have eL : lenP (l.take (lenP l)) = lenP l := by unfold lenP two'; rw [at_take (by unfold lenP two' at *; omega), at_take (by unfold lenP two' at *; omega)]
  unfold whyP
  rw [ei, eL, e0, List.length_take, List.take_take, show min (4 * ihlP l) (lenP l) = 4 * ihlP l from by omega, k5, if_neg (by omega), if_neg (by omega), if_neg (by omega), if_neg (by omega), if_neg (by omega), if_neg (by omega), if_neg (by omega)]

/-- the outer header -/
def outHd (l : List Nat) (self dest : Nat) : Hd := ⟨0, (at' l 1 : Nat), ((lenP l + 20 : Nat) : Int), (two' l 4 : Nat), ((two' l 6 / 8192 / 2 * 2 : Nat) : Int), 0, 64, 4, 0, self, dest⟩
def wrapB (l : List Nat) (self dest : Nat) : List Nat := buildB (outHd l self dest) ++ olderB (l.take (lenP l))
def whyW (l : List Nat) (mtu : Int) : Nat :=
  if whyP l ≠ 0 then whyP l else if at' l 8 ≤ 1 then 7 else if ((lenP l + 20 : Nat) : Int) > min mtu 2000 then 11 else 0
def whyU (l : List Nat) : Nat := if whyP l ≠ 0 then whyP l else if at' l 9 ≠ 4 then 8 else whyP (bodyP l)
def innerU (l : List Nat) : List Nat := (bodyP l).take (lenP (bodyP l))
theorem wrapB_length {l : List Nat} (h : whyP l = 0) (self dest : Nat) : (wrapB l self dest).length = 20 + lenP l := by
  have := (why_zero h).2.2.2.2.2.2
  unfold wrapB
  rw [List.length_append, buildB_length, olderB_length, List.length_take]
  omega
theorem wrapB_all {l : List Nat} (ha : AllB l) (self dest : Nat) : AllB (wrapB l self dest) := (buildB_all _).append (olderB_all (ha.take _))
end Go.Proofs.Ytpgbldpppdmdoaa
