/- The writer's calls once more, saying beside that blocks of other types stay. -/
import Derived.Test.YtaamflhleommlaaGMay
import Derived.Test.YtaamflhleommlaaMay
namespace Go.Proofs.Ytaamflhleommlaa
set_option linter.unusedVariables false
set_option linter.unusedSimpArgs false
open Go.RowKit

def Kept (w w' : World) : Prop := ∀ g t cs, Blk w g t cs → t ≠ 72 → t ≠ 5 → Blk w' g t cs
theorem Kept.refl (w : World) : Kept w w := fun _ _ _ h _ _ => h
theorem Kept.trans {a b c : World} (h : Kept a b) (k : Kept b c) : Kept a c := fun g t cs h0 h1 h2 => k g t cs (h g t cs h0 h1 h2) h1 h2
theorem Kept.alloc {a w : World} (h : Kept a w) (o : Obj) : Kept a (w.alloc o) := fun g t cs h0 h1 h2 => (h g t cs h0 h1 h2).alloc o
theorem Kept.drew {a w : World} (h : Kept a w) : Kept a w.drew := fun g t cs h0 h1 h2 => (h g t cs h0 h1 h2).drew
theorem Kept.grown {a w w' : World} {base n : Nat} {v : Value} {xs : List Value} (h : Kept a w) (ho : w.ownsRow base 5 1 v n xs) (hg : w.grownBy w' v.ownBlock) : Kept a w' :=
  fun g t cs h0 h1 h2 => (h g t cs h0 h1 h2).grown hg (fun e => own_blk_ne ho (h g t cs h0 h1 h2) h2.symm e.symm)
theorem Kept.setW {a w : World} {p : Nat} {ds : Array Value} (h : Kept a w) (hp : Blk w p 72 ds) (i : Nat) (u : Value) : Kept a (w.setCell ⟨p, i, none⟩ u) :=
  fun g t cs h0 h1 h2 => (h g t cs h0 h1 h2).far (Blk.ne_ (h g t cs h0 h1 h2) hp h1) u
theorem Kept.below {a w w' : World} (h : Kept a w) (hb : Below w.heap.size w w') : Kept a w' := fun g t cs h0 h1 h2 => (h g t cs h0 h1 h2).below hb (h g t cs h0 h1 h2).lt

theorem put_k (p base : Nat) (n width : Nat) (l : List Nat) (w : World) (hn : n < 18446744073709551616) (hwd : width ≤ 8) (hl : l.length ≤ 1099511627776) (h : WBuf w base p l) (hbase : base ≤ w.heap.size) :
    Calls Try.prog 44 #[.pointer (some ⟨p, 0, none⟩), .int .u64 n, .int .i64 width] w fun e w' => e = .returned (.tuple #[]) ∧ WBuf w' base p (l ++ be n width) ∧ Below base w w' ∧ Kept w w' := by
  go_enter Try.func44, Try.ntmps44
  go_wp2
  go_loopw [10] (fun i wr => ∃ k : Nat, k ≤ width ∧ i = .int .i64 (k : Int) ∧ WBuf wr base p (l ++ (be n width).take k) ∧ Below base w wr ∧ Kept w wr) (fun i _ => width - (intOf i).toNat)
  case atStart => exact ⟨0, by omega, rfl, by simpa using h, Below.refl _ _, Kept.refl _⟩
  case round =>
    obtain ⟨k, hk, rfl, hwb, hbr, hkr⟩ := hrel
    by_cases hkw : k < width
    · obtain ⟨hbp, A, c, hblk, hown⟩ := hwb
      have hcell := hblk.cell 0
      have hfr := hblk.frozen 0
      simp only [List.getElem?_toArray, List.getElem?_cons_zero] at hcell
      have hml : (l ++ (be n width).take k).length ≤ 1099511627784 := by rw [List.length_append, List.length_take, be_length]; omega
      have HT := Lib.hid (be_take n width k hkw)
      have HT2 : Hid (l ++ (be n width).take (k + 1) = (l ++ (be n width).take k) ++ [n / 256 ^ (width - 1 - k) % 256]) := by
        show _ = _
        rw [HT.out, List.append_assoc]
      generalize l ++ (be n width).take k = m at *
      obtain ⟨W, d, hW, hd, hdlt⟩ : ∃ W d : Nat, W + 1 = width ∧ d + k = W ∧ d ≤ 7 := ⟨width - 1, width - 1 - k, by omega, by omega, by omega⟩
      have e1 : IntKind.i64.wrap ((width : Int) - 1) = (W : Int) := by rw [IntWalk.i64_in _ (by omega)]; omega
      have e2 : IntKind.i64.wrap ((W : Int) - (k : Int)) = (d : Int) := by rw [IntWalk.i64_in _ (by omega)]; omega
      have e3 : IntKind.i64.wrap (8 * (d : Int)) = ((8 * d : Nat) : Int) := by rw [IntWalk.i64_in _ (by omega)]; omega
      have hq : n / 256 ^ (width - 1 - k) = n / 2 ^ (8 * d) := by
        rw [show width - 1 - k = d from by omega, Nat.pow_mul]
      have hsh : Op.shift BinOp.shr .u64 (n : Int) .i64 ((8 * d : Nat) : Int) = pure (.int .u64 ((n / 2 ^ (8 * d) : Nat) : Int)) := by
        rw [shift_shr_any _ _ _ _ (by omega)]
        have : min ((8 * d : Nat) : Int).toNat IntKind.u64.bits = 8 * d := by rw [Int.toNat_natCast]; show min (8 * d) 64 = _; omega
        rw [this, Int.natCast_ediv, Int.natCast_pow]
        rfl
      have hql : n / 2 ^ (8 * d) < 18446744073709551616 := Nat.lt_of_le_of_lt (Nat.div_le_self _ _) hn
      rw [hq] at HT2
      generalize n / 2 ^ (8 * d) = q at *
      generalize 8 * d = s8 at *
      clear hq hW hd
      have hwq : IntKind.u8.wrap (q : Int) = ((q % 256 : Nat) : Int) := by rw [IntKind.wrap_u8']; omega
      have hsz : base ≤ wr.heap.size := Nat.le_trans hbase hbr.size
      have hplt := hblk.lt
      go_wp2
      go_region_law (refine step_append_b rfl (.tmp 17) (.tmp 26) _ rfl 5 infoB Try.underlying70 base (.slice A m.length c) m.length m (by simp [Act.eval, Act.put]) (hown.alloc _) (wr.heap.size + 1) (some ⟨wr.heap.size, 0, none⟩) 1 1 [q % 256] (by simp [Act.eval, Act.put]) (reads_new _ _ _ _ 1 _ _ (by rfl) (by rfl) (by rfl) _ (by simp [bv])) (m.length + 1) rfl (by omega) (by simp; omega) ?_; intro A1 c1 w1 hown1 hb1 hg1 hat1; have hblk1 : Blk w1 p 72 #[.slice A m.length c] := Blk.grown ((hblk.alloc _).drew) hg1 (fun e => own_blk_ne hown hblk (by decide) e.symm); have hcell1 := hblk1.cell 0; have hfr1 := hblk1.frozen 0; simp only [List.getElem?_toArray, List.getElem?_cons_zero] at hcell1)
      all_goals
        go_wp2
        go_roundw
        case rel =>
          refine ⟨k + 1, by omega, by go_num, ⟨hbp, A1, c1, ?_, ?_⟩, ?_, ?_⟩
          · rw [HT2.out, List.length_append]
            exact hblk1.set_ 0 _
          · rw [HT2.out, List.length_append]
            exact own_set_far hown1 hblk1 (by decide) 0 _
          · exact (hbr.trans (((Below.refl _ _).alloc hsz _).drew.trans hb1)).setCell hbp _
          · exact (hkr.trans ((((Kept.refl _).alloc _).drew).grown (hown.alloc _) hg1)).setW hblk1 _ _
        case measure => simp [intOf]; omega
    · have hkk : k = width := by omega
      have hfin : Hid (WBuf wr base p (l ++ be n width)) := by
        have := hwb
        rw [hkk, List.take_of_length_le (by rw [be_length]; omega)] at this
        exact this
      clear hwb
      go_wp2
      go_end0
      exact ⟨rfl, hfin.out, hbr, hkr⟩

theorem u32_k (p base n : Nat) (l : List Nat) (w : World) (hn : n < 4294967296) (hl : l.length ≤ 1099511627776) (h : WBuf w base p l) (hbase : base ≤ w.heap.size) :
    Calls Try.prog 33 #[.pointer (some ⟨p, 0, none⟩), .int .u32 n] w fun e w' => e = .returned (.tuple #[]) ∧ WBuf w' base p (l ++ be n 4) ∧ Below base w w' ∧ Kept w w' := by
  have HC := Lib.hid (put_k p base n 4 l w (by omega) (by omega) hl h hbase)
  go_enter Try.func33, Try.ntmps33
  go_wp2_with fail
  refine HC.out.mono ?_
  rintro e w' ⟨rfl, hwb, hbw, hkw⟩
  go_wp2_with fail
  go_end0
  exact ⟨rfl, hwb, hbw, hkw⟩

theorem u8w_k (p base : Nat) (z : Int) (l : List Nat) (w : World) (hl : l.length ≤ 1099511627776) (h : WBuf w base p l) (hbase : base ≤ w.heap.size) :
    Calls Try.prog 52 #[.pointer (some ⟨p, 0, none⟩), .int .i64 z] w fun e w' => e = .returned (.tuple #[]) ∧ WBuf w' base p (l ++ be (u64n z) 1) ∧ Below base w w' ∧ Kept w w' := by
  have HC := Lib.hid (put_k p base (u64n z) 1 l w (u64n_lt z) (by omega) hl h hbase)
  have hw := u64_wrap z
  go_enter Try.func52, Try.ntmps52
  go_wp2_with fail
  refine HC.out.mono ?_
  rintro e w' ⟨rfl, hwb, hbw, hkw⟩
  go_wp2_with fail
  go_end0
  exact ⟨rfl, hwb, hbw, hkw⟩

theorem u16w_k (p base : Nat) (z : Int) (l : List Nat) (w : World) (hl : l.length ≤ 1099511627776) (h : WBuf w base p l) (hbase : base ≤ w.heap.size) :
    Calls Try.prog 53 #[.pointer (some ⟨p, 0, none⟩), .int .i64 z] w fun e w' => e = .returned (.tuple #[]) ∧ WBuf w' base p (l ++ be (u64n z) 2) ∧ Below base w w' ∧ Kept w w' := by
  have HC := Lib.hid (put_k p base (u64n z) 2 l w (u64n_lt z) (by omega) hl h hbase)
  have hw := u64_wrap z
  go_enter Try.func53, Try.ntmps53
  go_wp2_with fail
  refine HC.out.mono ?_
  rintro e w' ⟨rfl, hwb, hbw, hkw⟩
  go_wp2_with fail
  go_end0
  exact ⟨rfl, hwb, hbw, hkw⟩

end Go.Proofs.Ytaamflhleommlaa
