/- A choice.Chooser in memory; the walk of choice.New. -/
import Derived.Test.YtaamflhleommlaaTupHash
import Derived.Test.YtaamflhleommlaaTable
import Derived.Test.YtaamflhleommlaaAwake18
namespace Go.Proofs.Ytaamflhleommlaa
set_option linter.unusedVariables false
set_option linter.unusedSimpArgs false
open Go.RowKit

theorem own_base {w : World} {base base' n size : Nat} {e : TypeId} {v : Value} {xs : List Value} (h : w.ownsRow base e size v n xs) (hb : base' ≤ base) : w.ownsRow base' e size v n xs := by
  refine ⟨h.1, ?_⟩
  rcases h.2 with hn | ⟨g, cap, cur, rfl, hg, rest⟩
  · exact .inl hn
  · exact .inr ⟨g, cap, cur, rfl, by omega, rest⟩

/-- only block p may have turned, of those that were there -/
structure But (p : Nat) (w w' : World) : Prop where
  os : w'.os = w.os
  tape : w'.tape = w.tape
  output : w'.output = w.output
  size : w.heap.size ≤ w'.heap.size
  block : ∀ k, k < w.heap.size → k ≠ p → w'.heap[k]? = w.heap[k]?
theorem But.of_below {p : Nat} {w w' : World} (h : Below w.heap.size w w') : But p w w' := ⟨h.os, h.tape, h.output, h.size, fun k hk _ => h.block k hk⟩
theorem But.trans {p : Nat} {a b c : World} (h : But p a b) (k : But p b c) : But p a c :=
  ⟨k.os.trans h.os, k.tape.trans h.tape, k.output.trans h.output, Nat.le_trans h.size k.size, fun i h1 h2 => (k.block i (Nat.lt_of_lt_of_le h1 h.size) h2).trans (h.block i h1 h2)⟩
theorem But.set_ {p : Nat} {a w : World} (h : But p a w) (i : Nat) (u : Value) : But p a (w.setCell ⟨p, i, none⟩ u) :=
  h.trans ⟨rfl, rfl, rfl, by simp [World.setCell], fun k _ hk => Below.heap_setCell _ _ _ _ hk⟩
theorem But.drew {p : Nat} {a w : World} (h : But p a w) : But p a w.drew := h.trans ⟨rfl, rfl, rfl, Nat.le_refl _, fun _ _ _ => rfl⟩
theorem But.blk {p g : Nat} {w w' : World} {t : TypeId} {cs : Array Value} (h : But p w w') (hb : Blk w g t cs) (hne : g ≠ p) : Blk w' g t cs := (h.block g hb.lt hne).trans hb
theorem But.own {p base n size : Nat} {w w' : World} {e t : TypeId} {cs : Array Value} {v : Value} {xs : List Value} (h : But p w w') (ho : w.ownsRow base e size v n xs) (hp : Blk w p t cs) (hne : e ≠ t) : w'.ownsRow base e size v n xs := by
  have h1 := own_blk_ne ho hp hne
  refine ⟨ho.1, ?_⟩
  rcases ho.2 with hn | ⟨b, cap, cur, rfl, hb, hgg, rest⟩
  · exact .inl hn
  · exact .inr ⟨b, cap, cur, rfl, hb, (h.block b (Array.getElem?_eq_some_iff.1 hgg).1 (by simpa [Value.ownBlock] using h1)).trans hgg, rest⟩
theorem But.below {p B : Nat} {w w' : World} (h : But p w w') (hp : B ≤ p) (hB : B ≤ w.heap.size) : Below B w w' := ⟨h.os, h.tape, h.output, h.size, fun k hk => h.block k (by omega) (by omega)⟩

structure ChAt (w : World) (p slots : Nat) (l : List Be) (t : List Int) (made : Int) (A : Option Addr) (n c : Nat) (A2 : Option Addr) (c2 : Nat) : Prop where
  blk : Blk w p 77 #[.int .i64 slots, .slice A n c, .slice A2 slots c2, .int .i64 made]
  bes : w.ownsRow 0 27 3 (.slice A n c) n (bks l)
  tab : w.ownsRow 0 3 1 (.slice A2 slots c2) slots (iv t)
  few : n ≤ 16
/-- a chooser there -/
def Ch (w : World) (p slots : Nat) (l : List Be) (t : List Int) (made : Int) : Prop := ∃ A n c A2 c2, ChAt w p slots l t made A n c A2 c2
theorem Ch.below {w w' : World} {p slots : Nat} {l : List Be} {t : List Int} {made : Int} (h : Ch w p slots l t made) (hb : Below w.heap.size w w') : Ch w' p slots l t made := by
  obtain ⟨A, n, c, A2, c2, h1, h2, h3, h4⟩ := h
  exact ⟨A, n, c, A2, c2, h1.below hb h1.lt, own_below h2 hb, own_below h3 hb, h4⟩
theorem Ch.lt {w : World} {p slots : Nat} {l : List Be} {t : List Int} {made : Int} (h : Ch w p slots l t made) : p < w.heap.size := by
  obtain ⟨A, n, c, A2, c2, h1, h2, h3, h4⟩ := h
  exact h1.lt
/-- another chooser's turn leaves it -/
theorem Ch.but {w w' : World} {p q slots : Nat} {l : List Be} {t : List Int} {made : Int} {cs : Array Value} (h : Ch w p slots l t made) (hq : Blk w q 77 cs) (hb : But q w w') (hne : p ≠ q) : Ch w' p slots l t made := by
  obtain ⟨A, n, c, A2, c2, h1, h2, h3, h4⟩ := h
  exact ⟨A, n, c, A2, c2, hb.blk h1 hne, hb.own h2 hq (by decide), hb.own h3 hq (by decide), h4⟩
theorem Ch.blk {w : World} {p slots : Nat} {l : List Be} {t : List Int} {made : Int} (h : Ch w p slots l t made) : ∃ cs, Blk w p 77 cs := by
  obtain ⟨A, n, c, A2, c2, h1, h2, h3, h4⟩ := h
  exact ⟨_, h1⟩

theorem mayB_nil : ¬ MayB ([] : List Be).length [] := fun h => by have := h.1; simp at this

set_option maxHeartbeats 4000000 in
theorem new_yes (n : Nat) (hn : n ≤ 1000000) (hm : mayN n = true) (w : World) :
    Calls Try.prog 19 #[.int .i64 n] w fun e w' => ∃ p, e = .returned (.pointer (some ⟨p, 0, none⟩)) ∧ w.heap.size ≤ p ∧ Ch w' p n [] (List.replicate n (-1)) 0 ∧ Below w.heap.size w w' := by
  have CM := Lib.hid (may_any n hn)
  have CT := Lib.hid (table_may none 0 0 w.heap.size n [] w Reads.none_ (Nat.le_refl _) (fun b hb => by cases hb) (by omega) (by omega) hm)
  rw [tableF_no mayB_nil] at CT
  rw [hm] at CM
  clear hm
  go_enter Try.func19, Try.ntmps19
  go_wp2_with fail
  refine (CM.out _).mono ?_
  rintro e w' ⟨rfl, rfl⟩
  go_wp2_with fail
  refine CT.out.mono ?_
  rintro e w1 ⟨A1, c1, rfl, hown1, hb1⟩
  have hs1 := hb1.size
  go_wp2_with fail
  go_ret
  exact ⟨w1.heap.size, rfl, hs1, ⟨none, 0, 0, A1, c1, Blk.new_ rfl, World.ownsRow_nil _ _ _ _, own_base (hown1.alloc _) (Nat.zero_le _), by omega⟩, hb1.alloc hs1 _⟩
theorem new_no (n : Nat) (hn : n ≤ 1000000) (hm : mayN n = false) (w : World) :
    Calls Try.prog 19 #[.int .i64 n] w fun e w' => e = .returned (.pointer none) ∧ w = w' := by
  have CM := Lib.hid (may_any n hn)
  rw [hm] at CM
  clear hm
  go_enter Try.func19, Try.ntmps19
  go_wp2_with fail
  refine (CM.out _).mono ?_
  rintro e w' ⟨rfl, rfl⟩
  go_wp2_with fail
  go_ret
  exact ⟨rfl, rfl⟩
end Go.Proofs.Ytaamflhleommlaa
