/- The walk of ip.Whole at a header that was parsed; why a packet tells no tuple. -/
import Derived.Test.YtpgbldpppdmdoaaMade
namespace Go.Proofs.Ytpgbldpppdmdoaa
set_option linter.unusedVariables false
set_option linter.unusedSimpArgs false
open Go.RowKit

def wholeN (f o : Nat) : Bool := decide (f % 2 = 0 ∧ o = 0)
theorem whole_any (y0 y1 y2 y3 f o y6 y7 y8 y9 y10 : Nat) (w : World) (hf : f < 65536) (ho : o < 65536) :
    Calls Try.prog 20 #[.agg #[.int .i64 (y0 : Int), .int .i64 (y1 : Int), .int .i64 (y2 : Int), .int .i64 (y3 : Int), .int .i64 (f : Int), .int .i64 (o : Int), .int .i64 (y6 : Int), .int .i64 (y7 : Int), .int .i64 (y8 : Int), .int .u32 (y9 : Int), .int .u32 (y10 : Int)]] w fun e w' => e = .returned (.bool (wholeN f o)) ∧ Below w.heap.size w w' := by
  have hm : bits BinOp.and IntKind.i64 (f : Int) 1 = ((f % 2 : Nat) : Int) := by
    have := i64_and_nat f 1 (by omega) (by omega)
    rw [nat_mask1] at this
    exact this
  by_cases h1 : f % 2 = 0
  · by_cases h2 : o = 0
    · have HB : Hid (wholeN f o = true) := decide_eq_true ⟨h1, h2⟩
      have b1 : (((f % 2 : Nat) : Int) == 0) = true := by simp [h1]
      have b1' : (((f : Int) % 2) == 0) = true := by simp; omega
      have b2 : ((o : Int) == 0) = true := by simp [h2]
      clear h1 h2
      go_enter Try.func20, Try.ntmps20
      go_wp2_with fail
      go_ret
      exact ⟨by rw [HB.out]; rfl, (Below.refl _ _).alloc (Nat.le_refl _) _⟩
    · have HB : Hid (wholeN f o = false) := decide_eq_false (by omega)
      have b1 : (((f % 2 : Nat) : Int) == 0) = true := by simp [h1]
      have b1' : (((f : Int) % 2) == 0) = true := by simp; omega
      have b2 : ((o : Int) == 0) = false := by simp; omega
      clear h1 h2
      go_enter Try.func20, Try.ntmps20
      go_wp2_with fail
      go_ret
      exact ⟨by rw [HB.out]; rfl, (Below.refl _ _).alloc (Nat.le_refl _) _⟩
  · have HB : Hid (wholeN f o = false) := decide_eq_false (by omega)
    have b1 : (((f % 2 : Nat) : Int) == 0) = false := by simp; omega
    have b1' : (((f : Int) % 2) == 0) = false := by simp; omega
    clear h1
    go_enter Try.func20, Try.ntmps20
    go_wp2_with fail
    go_ret
    exact ⟨by rw [HB.out]; rfl, (Below.refl _ _).alloc (Nat.le_refl _) _⟩

/-- is a packet that parses no part of another one -/
def wholeL (l : List Nat) : Bool := wholeN (two' l 6 / 8192) (two' l 6 % 8192)
/-- why bytes tell no tuple; 0: they do -/
def whyT (l : List Nat) : Nat :=
  if whyP l ≠ 0 then whyP l
  else if wholeL l = false then 6
  else if at' l 9 = 6 then (if tcpB (bodyP l) = true then 0 else 9)
  else if at' l 9 = 17 then (if udpB (bodyP l) = true then 0 else 9)
  else 8
def tuP (l : List Nat) : Tu := ⟨four' l 12, four' l 16, (at' l 9 : Nat), (two' (bodyP l) 0 : Nat), (two' (bodyP l) 2 : Nat)⟩
def tu0 : Tu := ⟨0, 0, 0, 0, 0⟩
/-- what 'within' hands back -/
def WithinRet (l : List Nat) (w : World) (e : Ending) (w' : World) : Prop :=
  (whyT l = 0 ∧ ∃ A c, e = .returned (.tuple #[.agg (tuP l).vals, .agg (hdP l).vals, .slice A (lenP l - 4 * ihlP l) c, .int .i64 0]) ∧ w'.ownsRow w.heap.size 5 1 (.slice A (lenP l - 4 * ihlP l) c) (lenP l - 4 * ihlP l) (bv (bodyP l))) ∨
  (whyT l ≠ 0 ∧ e = .returned (.tuple #[.agg tu0.vals, .agg hd0.vals, .slice none 0 0, .int .i64 (whyT l : Nat)]))
end Go.Proofs.Ytpgbldpppdmdoaa
