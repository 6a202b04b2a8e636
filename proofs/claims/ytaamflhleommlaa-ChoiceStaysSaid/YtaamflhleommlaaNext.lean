/- The walk of maglev's (*row).next: the backend takes the next slot that is free. -/
import Derived.Test.YtaamflhleommlaaBits
import Derived.Test.YtaamflhleommlaaMagPlain
import Derived.BigRegion
import Derived.BigQuiet
import Derived.Deep.LoopGhost
namespace Go.Proofs.Ytaamflhleommlaa
set_option linter.unusedVariables false
set_option linter.unusedSimpArgs false
open Go.RowKit

/-- ints as cells -/
def iv (l : List Int) : List Value := l.map (Value.int .i64)
theorem iv_length (l : List Int) : (iv l).length = l.length := by simp [iv]
theorem iv_get {l : List Int} {j : Nat} (h : j < l.length) : (iv l)[j]? = some (.int .i64 l[j]) := by simp [iv, h]
theorem iv_one (l : List Int) : ∀ u ∈ iv l, u.oneCell' = true := by
  intro u hu
  obtain ⟨_, _, rfl⟩ := List.mem_map.1 hu
  rfl
theorem owni_cell {w : World} {base n c g : Nat} {e : TypeId} {l : List Int} (h : w.ownsRow base e 1 (.slice (some ⟨g, 0, none⟩) n c) n (iv l)) (j : Nat) (hj : j < n) (hl : j < l.length) : w.cell? ⟨g, j, none⟩ = some (.int .i64 l[j]) := by
  rw [h.cellAt j (by omega), iv_get hl]
theorem owni_store {w : World} {base n c g : Nat} {e : TypeId} {l : List Int} (h : w.ownsRow base e 1 (.slice (some ⟨g, 0, none⟩) n c) n (iv l)) (j : Nat) (x : Int) :
    (w.setCell ⟨g, j, none⟩ (.int .i64 x)).ownsRow base e 1 (.slice (some ⟨g, 0, none⟩) n c) n (iv (l.set j x)) := by
  have := (h.stored j (.int .i64 x)).1
  rwa [show (iv l).set j (.int .i64 x) = iv (l.set j x) from by simp [iv, List.map_set]] at this
theorem owni_length {w : World} {base n : Nat} {e : TypeId} {v : Value} {l : List Int} (h : w.ownsRow base e 1 v n (iv l)) : l.length = n := by have := h.1; rw [iv_length] at this; omega

/-- only two blocks have turned -/
structure Two (w w' : World) (p g : Nat) : Prop where
  os : w'.os = w.os
  tape : w'.tape = w.tape
  output : w'.output = w.output
  size : w'.heap.size = w.heap.size
  block : ∀ k, k ≠ p → k ≠ g → w'.heap[k]? = w.heap[k]?
theorem Two.refl (w : World) (p g : Nat) : Two w w p g := ⟨rfl, rfl, rfl, rfl, fun _ _ _ => rfl⟩
theorem Two.drew {w w' : World} {p g : Nat} (h : Two w w' p g) : Two w w'.drew p g := ⟨h.os, h.tape, h.output, h.size, h.block⟩
theorem Two.set_ {w w' : World} {p g : Nat} (h : Two w w' p g) {a : Addr} (ha : a.block = p ∨ a.block = g) (u : Value) : Two w (w'.setCell a u) p g :=
  ⟨h.os, h.tape, h.output, by simpa [World.setCell] using h.size, fun k hp hg => by
    rw [Below.heap_setCell _ _ _ _ (by rcases ha with e | e <;> rw [e] <;> assumption)]
    exact h.block k hp hg⟩
theorem Two.trans {a b c : World} {p g : Nat} (h : Two a b p g) (k : Two b c p g) : Two a c p g :=
  ⟨k.os.trans h.os, k.tape.trans h.tape, k.output.trans h.output, k.size.trans h.size, fun i h1 h2 => (k.block i h1 h2).trans (h.block i h1 h2)⟩
theorem Two.blk {w w' : World} {p g b : Nat} {t : TypeId} {cs : Array Value} (h : Two w w' p g) (hb : Blk w b t cs) (h1 : b ≠ p) (h2 : b ≠ g) : Blk w' b t cs := (h.block b h1 h2).trans hb
theorem Two.below {w w' : World} {p g B : Nat} (h : Two w w' p g) (h1 : B ≤ p) (h2 : B ≤ g) : Below B w w' := ⟨h.os, h.tape, h.output, Nat.le_of_eq h.size.symm, fun k hk => h.block k (by omega) (by omega)⟩
theorem Two.own {w w' : World} {p g base n size : Nat} {e : TypeId} {v : Value} {xs : List Value} (h : Two w w' p g) (ho : w.ownsRow base e size v n xs) (h1 : v.ownBlock ≠ some p) (h2 : v.ownBlock ≠ some g) : w'.ownsRow base e size v n xs := by
  refine ⟨ho.1, ?_⟩
  rcases ho.2 with hn | ⟨b, cap, cur, rfl, hb, hgg, rest⟩
  · exact .inl hn
  · refine .inr ⟨b, cap, cur, rfl, hb, ?_, rest⟩
    rw [h.block b (by simpa [Value.ownBlock] using h1) (by simpa [Value.ownBlock] using h2)]
    exact hgg

set_option maxRecDepth 100000 in
theorem next_any (p g n c base : Nat) (id : Int) (at_ skip J v : Nat) (t : List Int) (w : World) (hp : Blk w p 67 #[.int .i64 id, .int .i64 at_, .int .i64 skip])
    (ho : w.ownsRow base 3 1 (.slice (some ⟨g, 0, none⟩) n c) n (iv t)) (hn : n ≤ 251) (hat : at_ < n) (hsk : skip < 4294967296) (hw : Walks t at_ skip n J v) :
    Calls Try.prog 31 #[.pointer (some ⟨p, 0, none⟩), .slice (some ⟨g, 0, none⟩) n c] w fun e w' => e = .returned (.tuple #[]) ∧
      Blk w' p 67 #[.int .i64 id, .int .i64 v, .int .i64 skip] ∧ w'.ownsRow base 3 1 (.slice (some ⟨g, 0, none⟩) n c) n (iv (t.set v id)) ∧ Two w w' p g := by
  have hlen := owni_length ho
  have hne : g ≠ p := fun e => by
    have := own_blk_ne ho hp (by decide)
    exact this (by simp [Value.ownBlock, e])
  go_enter Try.func31, Try.ntmps31
  go_wp2
  go_loopg [] J (fun k wr => ∃ i : Nat, i + k = J ∧ Blk wr p 67 #[.int .i64 id, .int .i64 ((at_ + i * skip) % n : Nat), .int .i64 skip] ∧ wr.ownsRow base 3 1 (.slice (some ⟨g, 0, none⟩) n c) n (iv t) ∧ Two w wr p g)
  case atStart => exact ⟨0, by omega, by simpa [Nat.mod_eq_of_lt hat] using hp, ho, Two.refl _ _ _⟩
  case round =>
    obtain ⟨i, hik, hblk, hown, htwo⟩ := hrel
    have hn0 : 0 < n := by omega
    have ha : (at_ + i * skip) % n < n := Nat.mod_lt _ hn0
    have hstep : (((at_ + i * skip) % n : Nat) : Int) + (skip : Int) = (((at_ + i * skip) % n + skip : Nat) : Int) := by omega
    have hmod : ((((at_ + i * skip) % n + skip : Nat) : Int)) % (n : Int) = (((at_ + (i + 1) * skip) % n : Nat) : Int) := by
      rw [← Int.natCast_emod, Nat.mod_add_mod, Nat.add_assoc, Nat.add_mul, Nat.one_mul]
    have HS := Lib.hid (And.intro hstep hmod)
    have htk : Hid (i < J → t[(at_ + i * skip) % n]? ≠ some (-1)) := hw.taken i
    have hfr : Hid (i = J → (at_ + i * skip) % n = v ∧ t[v]? = some (-1)) := fun e => ⟨by rw [e]; exact hw.goes, hw.free⟩
    clear hstep hmod
    generalize (at_ + i * skip) % n = a at *
    generalize ha' : (at_ + (i + 1) * skip) % n = a' at *
    have HA := Lib.hid ha'
    clear ha'
    have hal : a < t.length := by omega
    have hct := owni_cell hown a ha hal
    have hcf := hown.frozenAt a
    have hc0 := hblk.cell 0
    have hc1 := hblk.cell 1
    have hc2 := hblk.cell 2
    have hf1 := hblk.frozen 1
    simp only [List.getElem?_toArray, List.getElem?_cons_zero, List.getElem?_cons_succ] at hc0 hc1 hc2
    have hgl : Hid (t[a]? = some t[a]) := List.getElem?_eq_getElem hal
    by_cases hk0 : i < J
    · have hx : t[a] ≠ -1 := fun e => htk.out hk0 (by rw [hgl.out, e])
      have hb1 : (t[a] == -1) = false := by simpa using hx
      have hb2 : (t[a] != -1) = true := by simpa using hx
      clear hx
      generalize t[a] = x at hct hb1 hb2 hgl
      obtain ⟨hstep, hmod⟩ := HS.out
      have hsum : (a : Int) + (skip : Int) = ((a + skip : Nat) : Int) := hstep
      have hsl : a + skip < 4294967547 := by omega
      generalize a + skip = z at *
      clear hal hstep
      go_wp2
      go_region
      go_wp2
      go_roundg (gk - 1)
      case measure => omega
      case rel =>
        refine ⟨i + 1, by omega, ?_, ?_, ?_⟩
        · rw [HA.out]
          exact hblk.set_ 1 (.int .i64 (a' : Int))
        · exact own_set_far hown hblk (by decide) 1 _
        · exact (htwo.set_ (a := ⟨p, 1, none⟩) (.inl rfl) _).drew
    · have hiJ : i = J := by omega
      obtain ⟨e1, e2⟩ := hfr.out hiJ
      have E1 := Lib.hid e1
      have hx : t[a] = -1 := by
        have h : t[a]? = some (-1) := by rw [e1]; exact e2
        rw [List.getElem?_eq_getElem hal] at h
        exact Option.some.inj h
      rw [hx] at hct
      clear hx e1 e2 hgl
      go_wp2
      go_region
      go_wp2
      go_end0
      have h2 : Blk (wr.setCell ⟨g, a, none⟩ (.int .i64 id)) p 67 #[.int .i64 id, .int .i64 (a : Int), .int .i64 skip] := hblk.far (p := ⟨g, a, none⟩) (Ne.symm hne) _
      have h3 := owni_store hown a id
      rw [E1.out] at h2 h3
      rw [E1.out]
      exact ⟨rfl, h2, h3, (htwo.set_ (a := ⟨g, v, none⟩) (.inr rfl) _).drew⟩
end Go.Proofs.Ytaamflhleommlaa
