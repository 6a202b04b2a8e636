/- What both wrappers and both unwrappers hand back, in one form. -/
import Derived.Test.YtpgbldpppdmdoaaRefWrap
import Derived.Test.YtpgbldpppdmdoaaRefUnwrap
import Derived.Test.YtpgbldpppdmdoaaAwake22
namespace Go.Proofs.Ytpgbldpppdmdoaa
set_option linter.unusedVariables false
set_option linter.unusedSimpArgs false
open Go.RowKit

def outW (l : List Nat) (s d : Nat) (m : Int) : List Nat := if whyW l m = 0 then wrapB l s d else []
def outU (l : List Nat) : List Nat := if whyU l = 0 then innerU l else []
def srcU (l : List Nat) : Nat := if whyU l = 0 then four' l 12 else 0
def dstU (l : List Nat) : Nat := if whyU l = 0 then four' l 16 else 0
theorem outW_all {l : List Nat} (h : AllB l) (s d : Nat) (m : Int) : AllB (outW l s d m) := by
  unfold outW
  split
  · exact wrapB_all h s d
  · intro x hx; cases hx
theorem outU_all {l : List Nat} (h : AllB l) : AllB (outU l) := by
  unfold outU
  split
  · exact ((h.take _).drop _).take _
  · intro x hx; cases hx
theorem WrapRet.gen {l : List Nat} {s d : Nat} {m : Int} {w w' : World} {e : Ending} (h : WrapRet l s d m w e w') :
    ∃ A c, e = .returned (.tuple #[.slice A (outW l s d m).length c, .int .i64 (whyW l m : Nat)]) ∧ Reads w' w'.heap.size 1 A (outW l s d m).length (bv (outW l s d m)) := by
  by_cases h0 : whyW l m = 0
  · obtain ⟨A, c, he, ho⟩ := h.yes h0
    have e1 : outW l s d m = wrapB l s d := if_pos h0
    have hl : 20 + lenP l = (wrapB l s d).length := by have := ho.1; rw [bv_length] at this; omega
    rw [hl] at he ho
    rw [e1, h0]
    exact ⟨A, c, he, Reads.of_own ho⟩
  · have e1 : outW l s d m = [] := if_neg h0
    rw [e1]
    exact ⟨none, 0, h.no h0, Reads.none_⟩
theorem UnwrapRet.gen {l : List Nat} {w w' : World} {e : Ending} (h : UnwrapRet l w e w') :
    ∃ A c, e = .returned (.tuple #[.slice A (outU l).length c, .int .u32 (srcU l : Nat), .int .u32 (dstU l : Nat), .int .i64 (whyU l : Nat)]) ∧ Reads w' w'.heap.size 1 A (outU l).length (bv (outU l)) := by
  by_cases h0 : whyU l = 0
  · obtain ⟨A, c, he, _, hr⟩ := h.yes h0
    have e1 : outU l = innerU l := if_pos h0
    have e2 : srcU l = four' l 12 := if_pos h0
    have e3 : dstU l = four' l 16 := if_pos h0
    have hl : lenP (bodyP l) = (innerU l).length := by have := hr.1; rw [bv_length] at this; omega
    rw [hl] at he hr
    rw [e1, e2, e3, h0]
    exact ⟨A, c, he, hr⟩
  · have e1 : outU l = [] := if_neg h0
    have e2 : srcU l = 0 := if_neg h0
    have e3 : dstU l = 0 := if_neg h0
    rw [e1, e2, e3]
    rcases h with ⟨h1, _⟩ | ⟨_, he⟩
    · exact absurd h1 h0
    · exact ⟨none, 0, he, Reads.none_⟩
end Go.Proofs.Ytpgbldpppdmdoaa
