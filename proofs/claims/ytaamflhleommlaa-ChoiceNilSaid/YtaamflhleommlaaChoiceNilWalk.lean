/- The walk of ChoiceNil. -/
import Derived.Test.YtaamflhleommlaaAwake19
import Derived.Test.YtaamflhleommlaaOpenTuC
namespace Go.Proofs.Ytaamflhleommlaa.choiceNil
set_option linter.unusedVariables false
set_option linter.unusedSimpArgs false
open Go.RowKit

set_option maxHeartbeats 4000000 in
set_option maxRecDepth 100000 in
theorem lawWalk (A : Option Addr) (n c : Nat) (l : List Be) (k : Tu) (id : Int) (w : World) (hi : BesIn w A n c l) (hk : TuOk k) (hid : -9223372036854775808 ≤ id ∧ id ≤ 9223372036854775807) :
    Calls Try.prog 9 #[.slice A n c, .agg k.vals, .int .i64 id] w fun e w' => e = .returned (.bool true) ∧ Below w.heap.size w w' := by
  clear hi
  have CP := Lib.hid (chpick_nil k)
  have hq0 := Blk.new w 54 k.vals
  have hb0 := (Below.refl w.heap.size w).alloc (Nat.le_refl _) (.cells k.vals 54)
  obtain ⟨src, dst, proto, sport, dport⟩ := k
  dsimp only [Tu.vals] at CP hq0 hb0 ⊢
  have v0 := hq0.cell 0
  have v1 := hq0.cell 1
  have v2 := hq0.cell 2
  have v3 := hq0.cell 3
  have v4 := hq0.cell 4
  simp only [List.getElem?_toArray, List.getElem?_cons_zero, List.getElem?_cons_succ] at v0 v1 v2 v3 v4
  have HB := Lib.hid hb0
  clear hq0 hb0
  go_enter Try.func9, Try.ntmps9
  go_wp2_with fail
  refine (CP.out _).mono ?_
  rintro e w1 ⟨rfl, hb1⟩
  have hB1 := HB.out.trans (hb1.mono HB.out.size)
  clear v0 v1 v2 v3 v4 hb1
  go_wp2_with fail
  have hB2 := hB1.alloc hB1.size (.cells #[.int .i64 0, .int .u32 0, .int .i64 0] 27)
  clear hB1
  refine (chfind_nil id _).mono ?_
  rintro e w2 ⟨rfl, hb2⟩
  have hB3 := hB2.trans (hb2.mono hB2.size)
  clear hB2 hb2
  go_wp2_with fail
  have hB4 := hB3.alloc hB3.size (.cells #[.int .i64 0, .int .u32 0, .int .i64 0] 27)
  clear hB3
  refine (set_nil A n c .nilFunc _).mono ?_
  rintro e w' ⟨rfl, rfl⟩
  go_wp2_with fail
  refine (chtable_nil _).mono ?_
  rintro e w' ⟨rfl, rfl⟩
  go_wp2_with fail
  refine (chmade_nil _).mono ?_
  rintro e w' ⟨rfl, rfl⟩
  go_wp2_with fail
  refine (awake19_any _).mono ?_
  rintro e w3 ⟨rfl, hb3⟩
  have hB5 := hB4.trans (hb3.mono hB4.size)
  go_wp2_with fail
  go_ret
  exact ⟨rfl, hB5⟩
end Go.Proofs.Ytaamflhleommlaa.choiceNil
