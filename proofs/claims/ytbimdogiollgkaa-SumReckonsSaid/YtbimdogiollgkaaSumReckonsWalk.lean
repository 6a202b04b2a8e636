/- The walk of SumReckons: the program's sums and the reference's come to the same plain functions. -/
import Derived.Test.YtbimdogiollgkaaSumAwake
import Derived.Test.YtbimdogiollgkaaSumRef
import Derived.Test.YtbimdogiollgkaaOpen
namespace Go.Proofs.Ytbimdogiollgkaa.sumReckons
set_option linter.unusedVariables false
open Go.RowKit

set_option maxRecDepth 100000 in
theorem lawWalk (A : Option Addr) (n c : Nat) (l : List Nat) (s seed old now x : Nat) (w : World) (hb : BytesIn w A n c l) (hs : s < 4294967296) (hseed : seed < 4294967296) (hold : old < 65536) (hnow : now < 65536) (hx : x < 65536) :
    Calls Try.prog 9 #[.slice A n c, .int .u32 s, .int .u32 seed, .int .u16 old, .int .u16 now, .int .u16 x] w fun e w' => e = .returned (.bool true) ∧ Below w.heap.size w w' := by
  have hr := hb.reads
  have ha := hb.all
  have hn : n ≤ 281474976710656 := by have := hb.le; have := hb.reach; omega
  clear hb
  go_enter Try.func9, Try.ntmps9
  go_wp2_with (first
    | (go_at_call 10; refine (net_any _ _ _ _ _ l hr hn ha).mono ?_; rintro e w' ⟨rfl, rfl⟩)
    | (go_at_call 16; refine (R1.net_any _ _ _ _ _ l hr hn ha).mono ?_; rintro e w' ⟨rfl, rfl⟩)
    | (go_at_call 12; refine (part_any s hs _ _ _ _ _ l hr hn ha).mono ?_; rintro e w' ⟨rfl, rfl⟩)
    | (go_at_call 17; refine (R1.part_any s hs _ _ _ _ _ l hr hn ha).mono ?_; rintro e w' ⟨rfl, rfl⟩)
    | (go_at_call 11; refine (fold_any s hs _).mono ?_; rintro e w' ⟨rfl, rfl⟩)
    | (go_at_call 18; refine (R1.fold_any s hs _).mono ?_; rintro e w' ⟨rfl, rfl⟩)
    | (go_at_call 15; refine (fix_any x old now hx hold hnow _).mono ?_; rintro e w' ⟨rfl, rfl⟩)
    | (go_at_call 19; refine (R1.fix_any x old now hx hold hnow _).mono ?_; rintro e w' ⟨rfl, rfl⟩)
    | (go_at_call 14; refine (crc_any _ _ _ _ _ l hr hn ha).mono ?_; rintro e w' ⟨rfl, rfl⟩)
    | (go_at_call 20; refine (R1.crc_any _ _ _ _ _ l hr hn ha).mono ?_; rintro e w' ⟨rfl, rfl⟩)
    | (go_at_call 21; refine (mix_any seed hseed _ _ _ _ _ l hr hn ha).mono ?_; rintro e w' ⟨rfl, rfl⟩)
    | (go_at_call 22; refine (R1.mix_any seed hseed _ _ _ _ _ l hr hn ha).mono ?_; rintro e w' ⟨rfl, rfl⟩)
    | (go_at_call 13; refine (awake_any _).mono ?_; rintro e w' ⟨rfl, hb2⟩))
  go_ret
  exact ⟨rfl, hb2⟩
end Go.Proofs.Ytbimdogiollgkaa.sumReckons
