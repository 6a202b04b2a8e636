/- What both parsers hand back, in one form; the walks of both Wholes at any header. -/
import Derived.Test.YtpgbldpppdmdoaaRefParse
import Derived.Test.YtpgbldpppdmdoaaIpBuild
import Derived.Test.YtpgbldpppdmdoaaIpAwake
namespace Go.Proofs.Ytpgbldpppdmdoaa
set_option linter.unusedVariables false
set_option linter.unusedSimpArgs false
open Go.RowKit

def hdQ (l : List Nat) : Hd := if whyP l = 0 then hdP l else hd0
def bodyQ (l : List Nat) : List Nat := if whyP l = 0 then bodyP l else []
theorem bodyQ_all {l : List Nat} (h : AllB l) : AllB (bodyQ l) := by
  unfold bodyQ
  split
  · exact (h.take _).drop _
  · intro x hx; cases hx
theorem ParseRet.gen {l : List Nat} {w w' : World} {e : Ending} (h : ParseRet l w e w') :
    ∃ A c, e = .returned (.tuple #[.agg (hdQ l).vals, .slice A (bodyQ l).length c, .int .i64 (whyP l : Nat)]) ∧ w'.ownsRow w.heap.size 5 1 (.slice A (bodyQ l).length c) (bodyQ l).length (bv (bodyQ l)) := by
  by_cases h0 : whyP l = 0
  · obtain ⟨A, c, he, ho⟩ := h.yes h0
    have e1 : hdQ l = hdP l := if_pos h0
    have e2 : bodyQ l = bodyP l := if_pos h0
    have hl : lenP l - 4 * ihlP l = (bodyP l).length := by have := ho.1; rw [bv_length] at this; omega
    rw [hl] at he ho
    rw [e1, e2, h0]
    exact ⟨A, c, he, ho⟩
  · have e1 : hdQ l = hd0 := if_neg h0
    have e2 : bodyQ l = [] := if_neg h0
    rw [e1, e2]
    exact ⟨none, 0, h.no h0, World.ownsRow_nil _ _ _ _⟩
theorem hdQ_names (l : List Nat) : ∃ (y0 y1 y2 y3 y4 y5 y6 y7 y8 : Int) (y9 y10 : Nat), (hdQ l).vals = #[.int .i64 y0, .int .i64 y1, .int .i64 y2, .int .i64 y3, .int .i64 y4, .int .i64 y5, .int .i64 y6, .int .i64 y7, .int .i64 y8, .int .u32 (y9 : Int), .int .u32 (y10 : Int)] :=
  ⟨_, _, _, _, _, _, _, _, _, _, _, rfl⟩

def wholeZ (f o : Int) : Bool := decide (f % 2 = 0 ∧ o = 0)
theorem wholez_any (y0 y1 y2 y3 f o y6 y7 y8 : Int) (y9 y10 : Nat) (w : World) :
    Calls Try.prog 20 #[.agg #[.int .i64 y0, .int .i64 y1, .int .i64 y2, .int .i64 y3, .int .i64 f, .int .i64 o, .int .i64 y6, .int .i64 y7, .int .i64 y8, .int .u32 (y9 : Int), .int .u32 (y10 : Int)]] w fun e w' => e = .returned (.bool (wholeZ f o)) ∧ Below w.heap.size w w' := by
  obtain ⟨b, hb, hm⟩ : ∃ b : Nat, b = (f % 2).toNat ∧ bits BinOp.and IntKind.i64 f 1 = (b : Int) := ⟨_, rfl, i64_and_mask 1 (by omega) f⟩
  by_cases hf : f % 2 = 0
  · have hb0 : b = 0 := by omega
    subst hb0
    by_cases ho : o = 0
    · have b2 : (o == 0) = true := by simp [ho]
      have HB : Hid (wholeZ f o = true) := decide_eq_true (by omega)
      clear hb
      go_enter Try.func20, Try.ntmps20
      go_wp2_with fail
      go_ret
      exact ⟨by rw [HB.out]; rfl, (Below.refl _ _).alloc (Nat.le_refl _) _⟩
    · have b2 : (o == 0) = false := by simp [ho]
      have HB : Hid (wholeZ f o = false) := decide_eq_false (by omega)
      clear hb
      go_enter Try.func20, Try.ntmps20
      go_wp2_with fail
      go_ret
      exact ⟨by rw [HB.out]; rfl, (Below.refl _ _).alloc (Nat.le_refl _) _⟩
  · have b1 : ((b : Int) == 0) = false := by simp; omega
    have HB : Hid (wholeZ f o = false) := decide_eq_false (by omega)
    clear hb
    go_enter Try.func20, Try.ntmps20
    go_wp2_with fail
    go_ret
    exact ⟨by rw [HB.out]; rfl, (Below.refl _ _).alloc (Nat.le_refl _) _⟩
theorem refwholez_any (y0 y1 y2 y3 f o y6 y7 y8 : Int) (y9 y10 : Nat) (w : World) :
    Calls Try.prog 21 #[.agg #[.int .i64 y0, .int .i64 y1, .int .i64 y2, .int .i64 y3, .int .i64 f, .int .i64 o, .int .i64 y6, .int .i64 y7, .int .i64 y8, .int .u32 (y9 : Int), .int .u32 (y10 : Int)]] w fun e w' => e = .returned (.bool (wholeZ f o)) ∧ Below w.heap.size w w' := by
  obtain ⟨b, hb, hm⟩ : ∃ b : Nat, b = (f % 2).toNat ∧ bits BinOp.and IntKind.i64 f 1 = (b : Int) := ⟨_, rfl, i64_and_mask 1 (by omega) f⟩
  by_cases hf : f % 2 = 0
  · have hb0 : b = 0 := by omega
    subst hb0
    by_cases ho : o = 0
    · have b2 : (o == 0) = true := by simp [ho]
      have HB : Hid (wholeZ f o = true) := decide_eq_true (by omega)
      clear hb
      go_enter Try.func21, Try.ntmps21
      go_wp2_with fail
      go_ret
      exact ⟨by rw [HB.out]; rfl, (Below.refl _ _).alloc (Nat.le_refl _) _⟩
    · have b2 : (o == 0) = false := by simp [ho]
      have HB : Hid (wholeZ f o = false) := decide_eq_false (by omega)
      clear hb
      go_enter Try.func21, Try.ntmps21
      go_wp2_with fail
      go_ret
      exact ⟨by rw [HB.out]; rfl, (Below.refl _ _).alloc (Nat.le_refl _) _⟩
  · have b1 : ((b : Int) == 0) = false := by simp; omega
    have HB : Hid (wholeZ f o = false) := decide_eq_false (by omega)
    clear hb
    go_enter Try.func21, Try.ntmps21
    go_wp2_with fail
    go_ret
    exact ⟨by rw [HB.out]; rfl, (Below.refl _ _).alloc (Nat.le_refl _) _⟩
end Go.Proofs.Ytpgbldpppdmdoaa
