/- The walks of ports' tcp and udp; goitlaw21's bytes2. -/
import Derived.Test.YtpgbldpppdmdoaaIpAwake
import Derived.Test.YtpgbldpppdmdoaaRefBuild
namespace Go.Proofs.Ytpgbldpppdmdoaa
set_option linter.unusedVariables false
set_option linter.unusedSimpArgs false
open Go.RowKit

def tcpB (b : List Nat) : Bool := decide (20 ≤ b.length ∧ 5 ≤ at' b 12 / 16 ∧ 4 * (at' b 12 / 16) ≤ b.length)
def udpB (b : List Nat) : Bool := decide (8 ≤ b.length ∧ 8 ≤ two' b 4 ∧ two' b 4 ≤ b.length)

theorem tcp_any (A : Option Addr) (n c B : Nat) (l : List Nat) (w : World) (hr : Reads w B 1 A n (bv l)) (hn : n ≤ 140737488355328) (ha : AllB l) :
    Calls Try.prog 60 #[.slice A n c] w fun e w' => e = .returned (.bool (tcpB l)) ∧ w = w' := by
  have hlen := hr.length
  by_cases h20 : n < 20
  · have H : Hid (tcpB l = false) := decide_eq_false (by omega)
    go_enter Try.func60, Try.ntmps60
    go_wp2_with fail
    go_ret
    exact ⟨by rw [H.out]; rfl, rfl⟩
  · obtain ⟨b, off, hA, _, hc⟩ := hr.plain (by omega) (by omega)
    subst hA
    have h12 : 12 < l.length := by omega
    have hc12 := hc 12 _ (bv_get h12)
    rw [show l[12] = at' l 12 from by unfold at'; simp [h12]] at hc12
    have hx := at_lt ha 12
    have HT : Hid (∀ b : Bool, (b = true ↔ 5 ≤ at' l 12 / 16 ∧ 4 * (at' l 12 / 16) ≤ n) → b = tcpB l) := by
      intro b h
      rw [Bool.eq_iff_iff, h]
      unfold tcpB
      rw [decide_eq_true_eq, hlen]
      constructor
      · intro h; exact ⟨by omega, h.1, h.2⟩
      · intro h; exact h.2
    have hdv : ((at' l 12 : Nat) : Int) / 16 = ((at' l 12 / 16 : Nat) : Int) := by omega
    have hlt : at' l 12 / 16 < 16 := by omega
    clear hc hr hlen h12
    generalize at' l 12 / 16 = y at *
    generalize at' l 12 = x at *
    by_cases h5 : 5 ≤ y
    · by_cases h4 : 4 * y ≤ n
      · have HB := Lib.hid (HT.out true (by simp [h5, h4]))
        have d1 : decide ((5 : Int) ≤ (y : Int)) = true := decide_eq_true (by omega)
        have d2 : decide (4 * (y : Int) ≤ (n : Int)) = true := decide_eq_true (by omega)
        go_enter Try.func60, Try.ntmps60
        go_wp2_with fail
        go_ret
        exact ⟨by rw [← HB.out]; rfl, rfl⟩
      · have HB := Lib.hid (HT.out false (by simp; omega))
        have d1 : decide ((5 : Int) ≤ (y : Int)) = true := decide_eq_true (by omega)
        have d2 : decide (4 * (y : Int) ≤ (n : Int)) = false := decide_eq_false (by omega)
        go_enter Try.func60, Try.ntmps60
        go_wp2_with fail
        go_ret
        exact ⟨by rw [← HB.out]; rfl, rfl⟩
    · have HB := Lib.hid (HT.out false (by simp; omega))
      have d1 : decide ((5 : Int) ≤ (y : Int)) = false := decide_eq_false (by omega)
      go_enter Try.func60, Try.ntmps60
      go_wp2_with fail
      go_ret
      exact ⟨by rw [← HB.out]; rfl, rfl⟩

theorem udp_any (A : Option Addr) (n c B : Nat) (l : List Nat) (w : World) (hr : Reads w B 1 A n (bv l)) (hB : B ≤ w.heap.size) (hn : n ≤ 140737488355328) (hnc : n ≤ c) (ha : AllB l) :
    Calls Try.prog 61 #[.slice A n c] w fun e w' => e = .returned (.bool (udpB l)) ∧ Below w.heap.size w w' := by
  have hlen := hr.length
  by_cases h8 : n < 8
  · have H : Hid (udpB l = false) := decide_eq_false (by omega)
    go_enter Try.func61, Try.ntmps61
    go_wp2_with fail
    go_ret
    exact ⟨by rw [H.out]; rfl, Below.refl _ _⟩
  · obtain ⟨b, off, hA, _, _⟩ := hr.plain (by omega) (by omega)
    subst hA
    have hx := two_lt ha 4
    have HT : Hid (∀ b : Bool, (b = true ↔ 8 ≤ two' l 4 ∧ two' l 4 ≤ n) → b = udpB l) := by
      intro b h
      rw [Bool.eq_iff_iff, h]
      unfold udpB
      rw [decide_eq_true_eq, hlen]
      constructor
      · intro h; exact ⟨by omega, h.1, h.2⟩
      · intro h; exact h.2
    have hcut := hr.cut (k := 4) (cap := c) (by omega) hnc
    have hc4 : ¬ c = 4 := by omega
    rw [if_neg hc4, show (bv l).drop (4 * 1) = bv (l.drop 4) from by simp [bv]] at hcut
    simp only [Option.map_some, Addr.add_lit] at hcut
    have CR := Lib.hid (newreader_any (some ⟨b, off + 4 * 1, none⟩) (n - 4) (c - 4) B (l.drop 4) w hcut hB (by omega) (fun h => by cases h))
    have CU := Lib.hid (fun p w' (h : RBuf w' p (l.drop 4)) => u16r_at p 4 l w' (by omega) (by omega) ha h)
    have i1 : (4 : Int) ≤ (n : Int) := by omega
    have i2 : (n : Int) ≤ (c : Int) := by omega
    clear hr hcut hlen
    generalize two' l 4 = y at *
    have rest : ∀ bb : Bool, bb = udpB l → (decide ((8 : Int) ≤ (y : Int)) && decide ((y : Int) ≤ (n : Int))) = bb → Calls Try.prog 61 #[.slice (some ⟨b, off, none⟩) n c] w fun e w' => e = .returned (.bool (udpB l)) ∧ Below w.heap.size w w' := by
      intro bb hbb hd
      have HB := Lib.hid hbb
      have HD := Lib.hid hd
      clear hbb hd HT
      by_cases h1 : 8 ≤ y
      · have d1 : decide ((8 : Int) ≤ (y : Int)) = true := decide_eq_true (by omega)
        by_cases h2 : y ≤ n
        · have d2 : decide ((y : Int) ≤ (n : Int)) = true := decide_eq_true (by omega)
          have d3 : decide (y ≤ n) = true := decide_eq_true h2
          obtain rfl : bb = true := by rw [← HD.out, d1, d2]; rfl
          go_enter Try.func61, Try.ntmps61
          go_wp2_with fail
          refine CR.out.mono ?_
          rintro e w1 ⟨p, rfl, hp, hrb, hb1⟩
          go_wp2_with fail
          refine (CU.out p w1 hrb).mono ?_
          rintro e w2 ⟨rfl, _, hg⟩
          have hB2 := hb1.grown hg hb1.size (fun k hk => by cases hk; exact hp)
          go_wp2_with fail
          go_ret
          exact ⟨by rw [← HB.out]; rfl, hB2⟩
        · have d2 : decide ((y : Int) ≤ (n : Int)) = false := decide_eq_false (by omega)
          have d3 : decide (y ≤ n) = false := decide_eq_false h2
          obtain rfl : bb = false := by rw [← HD.out, d1, d2]; rfl
          go_enter Try.func61, Try.ntmps61
          go_wp2_with fail
          refine CR.out.mono ?_
          rintro e w1 ⟨p, rfl, hp, hrb, hb1⟩
          go_wp2_with fail
          refine (CU.out p w1 hrb).mono ?_
          rintro e w2 ⟨rfl, _, hg⟩
          have hB2 := hb1.grown hg hb1.size (fun k hk => by cases hk; exact hp)
          go_wp2_with fail
          go_ret
          exact ⟨by rw [← HB.out]; rfl, hB2⟩
      · have d1 : decide ((8 : Int) ≤ (y : Int)) = false := decide_eq_false (by omega)
        obtain rfl : bb = false := by rw [← HD.out, d1]; rfl
        go_enter Try.func61, Try.ntmps61
        go_wp2_with fail
        refine CR.out.mono ?_
        rintro e w1 ⟨p, rfl, hp, hrb, hb1⟩
        go_wp2_with fail
        refine (CU.out p w1 hrb).mono ?_
        rintro e w2 ⟨rfl, _, hg⟩
        have hB2 := hb1.grown hg hb1.size (fun k hk => by cases hk; exact hp)
        go_wp2_with fail
        go_ret
        exact ⟨by rw [← HB.out]; rfl, hB2⟩
    exact rest (decide ((8 : Int) ≤ (y : Int)) && decide ((y : Int) ≤ (n : Int))) (HT.out _ (by simp; omega)) rfl

theorem bytes2_any (z : Int) (w : World) :
    Calls Try.prog 47 #[.int .i64 z] w fun e w' => e = .returned (.slice (some ⟨w.heap.size, 0, none⟩) 2 2) ∧ w.alloc (.cells #[.int .u8 (((u64n z) / 256 % 256 : Nat) : Int), .int .u8 (((u64n z) % 256 : Nat) : Int)] 5) = w' := by
  have h1 : Hid (z % 256 = ((u64n z % 256 : Nat) : Int)) := by show _ = _; unfold u64n; omega
  have h2 : Hid (z / 256 % 256 = ((u64n z / 256 % 256 : Nat) : Int)) := by show _ = _; unfold u64n; omega
  go_enter Try.func47, Try.ntmps47
  go_wp2_with fail
  rw [h1.out, h2.out]
  go_ret
  exact ⟨rfl, rfl⟩
end Go.Proofs.Ytpgbldpppdmdoaa
