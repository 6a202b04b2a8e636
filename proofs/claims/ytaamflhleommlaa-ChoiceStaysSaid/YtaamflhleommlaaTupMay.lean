/- The walks of goitref4.MayTuple and tuple.May (wip/genmaytu.py). -/
import Derived.Test.YtaamflhleommlaaTup
namespace Go.Proofs.Ytaamflhleommlaa
set_option linter.unusedVariables false
set_option linter.unusedSimpArgs false
open Go.RowKit

set_option maxHeartbeats 4000000 in
theorem maytuple_any (k : Tu) (w : World) :
    Calls Try.prog 24 #[.agg k.vals] w fun e w' => e = .returned (.bool (mayTu k)) ∧ Below w.heap.size w w' := by
  obtain ⟨src, dst, proto, sport, dport⟩ := k
  unfold Tu.vals
  dsimp only
  by_cases hp : proto = 6 ∨ proto = 17
  · have hb : ((proto == 6) = true) ∨ ((proto == 6) = false ∧ (proto == 17) = true) := by
      rcases hp with h | h
      · left; simp [h]
      · right; simp [h]
    rcases hb with b6 | ⟨b6, b17⟩
    all_goals
      by_cases h1 : 0 ≤ sport
      case neg =>
        have HB : Hid (mayTu ⟨src, dst, proto, sport, dport⟩ = false) := decide_eq_false (by dsimp only; omega)
        clear hp
        go_enter Try.func24, Try.ntmps24
        go_wp2_with fail
        go_ret
        exact ⟨by rw [HB.out]; rfl, (Below.refl _ _).alloc (Nat.le_refl _) _⟩
      by_cases h2 : sport ≤ 65535
      case neg =>
        have HB : Hid (mayTu ⟨src, dst, proto, sport, dport⟩ = false) := decide_eq_false (by dsimp only; omega)
        clear hp
        go_enter Try.func24, Try.ntmps24
        go_wp2_with fail
        go_ret
        exact ⟨by rw [HB.out]; rfl, (Below.refl _ _).alloc (Nat.le_refl _) _⟩
      by_cases h3 : 0 ≤ dport
      case neg =>
        have HB : Hid (mayTu ⟨src, dst, proto, sport, dport⟩ = false) := decide_eq_false (by dsimp only; omega)
        clear hp
        go_enter Try.func24, Try.ntmps24
        go_wp2_with fail
        go_ret
        exact ⟨by rw [HB.out]; rfl, (Below.refl _ _).alloc (Nat.le_refl _) _⟩
      by_cases h4 : dport ≤ 65535
      case neg =>
        have HB : Hid (mayTu ⟨src, dst, proto, sport, dport⟩ = false) := decide_eq_false (by dsimp only; omega)
        clear hp
        go_enter Try.func24, Try.ntmps24
        go_wp2_with fail
        go_ret
        exact ⟨by rw [HB.out]; rfl, (Below.refl _ _).alloc (Nat.le_refl _) _⟩
      have HB : Hid (mayTu ⟨src, dst, proto, sport, dport⟩ = true) := decide_eq_true (by dsimp only; omega)
      clear hp
      go_enter Try.func24, Try.ntmps24
      go_wp2_with fail
      go_ret
      exact ⟨by rw [HB.out]; rfl, (Below.refl _ _).alloc (Nat.le_refl _) _⟩
  · have b6 : (proto == 6) = false := by simp; omega
    have b17 : (proto == 17) = false := by simp; omega
    have HB : Hid (mayTu ⟨src, dst, proto, sport, dport⟩ = false) := decide_eq_false (by dsimp only; omega)
    clear hp
    go_enter Try.func24, Try.ntmps24
    go_wp2_with fail
    go_ret
    exact ⟨by rw [HB.out]; rfl, (Below.refl _ _).alloc (Nat.le_refl _) _⟩
set_option maxHeartbeats 4000000 in
theorem tupmay_any (k : Tu) (w : World) :
    Calls Try.prog 40 #[.agg k.vals] w fun e w' => e = .returned (.bool (mayTu k)) ∧ Below w.heap.size w w' := by
  obtain ⟨src, dst, proto, sport, dport⟩ := k
  unfold Tu.vals
  dsimp only
  by_cases hp : proto = 6 ∨ proto = 17
  · have hb : ((proto == 6) = true) ∨ ((proto == 6) = false ∧ (proto == 17) = true) := by
      rcases hp with h | h
      · left; simp [h]
      · right; simp [h]
    rcases hb with b6 | ⟨b6, b17⟩
    all_goals
      by_cases h1 : 0 ≤ sport
      case neg =>
        have HB : Hid (mayTu ⟨src, dst, proto, sport, dport⟩ = false) := decide_eq_false (by dsimp only; omega)
        clear hp
        go_enter Try.func40, Try.ntmps40
        go_wp2_with fail
        go_ret
        exact ⟨by rw [HB.out]; rfl, (Below.refl _ _).alloc (Nat.le_refl _) _⟩
      by_cases h2 : sport ≤ 65535
      case neg =>
        have HB : Hid (mayTu ⟨src, dst, proto, sport, dport⟩ = false) := decide_eq_false (by dsimp only; omega)
        clear hp
        go_enter Try.func40, Try.ntmps40
        go_wp2_with fail
        go_ret
        exact ⟨by rw [HB.out]; rfl, (Below.refl _ _).alloc (Nat.le_refl _) _⟩
      by_cases h3 : 0 ≤ dport
      case neg =>
        have HB : Hid (mayTu ⟨src, dst, proto, sport, dport⟩ = false) := decide_eq_false (by dsimp only; omega)
        clear hp
        go_enter Try.func40, Try.ntmps40
        go_wp2_with fail
        go_ret
        exact ⟨by rw [HB.out]; rfl, (Below.refl _ _).alloc (Nat.le_refl _) _⟩
      by_cases h4 : dport ≤ 65535
      case neg =>
        have HB : Hid (mayTu ⟨src, dst, proto, sport, dport⟩ = false) := decide_eq_false (by dsimp only; omega)
        clear hp
        go_enter Try.func40, Try.ntmps40
        go_wp2_with fail
        go_ret
        exact ⟨by rw [HB.out]; rfl, (Below.refl _ _).alloc (Nat.le_refl _) _⟩
      have HB : Hid (mayTu ⟨src, dst, proto, sport, dport⟩ = true) := decide_eq_true (by dsimp only; omega)
      clear hp
      go_enter Try.func40, Try.ntmps40
      go_wp2_with fail
      go_ret
      exact ⟨by rw [HB.out]; rfl, (Below.refl _ _).alloc (Nat.le_refl _) _⟩
  · have b6 : (proto == 6) = false := by simp; omega
    have b17 : (proto == 17) = false := by simp; omega
    have HB : Hid (mayTu ⟨src, dst, proto, sport, dport⟩ = false) := decide_eq_false (by dsimp only; omega)
    clear hp
    go_enter Try.func40, Try.ntmps40
    go_wp2_with fail
    go_ret
    exact ⟨by rw [HB.out]; rfl, (Below.refl _ _).alloc (Nat.le_refl _) _⟩
end Go.Proofs.Ytaamflhleommlaa
