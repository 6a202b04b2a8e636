/- The walks of octet's Writer: what it writes, highest byte first. -/
import Derived.Test.YtaamflhleommlaaBits
import Derived.Test.YtaamflhleommlaaOpen
import Derived.Deep.RegionLaw
import Derived.Deep.RegionHeld3
namespace Go.Proofs.Ytaamflhleommlaa
set_option linter.unusedVariables false
set_option linter.unusedSimpArgs false
open Go.RowKit

/-- a number's bytes, the highest first -/
def be (n width : Nat) : List Nat := (List.range width).map fun i => n / 256 ^ (width - 1 - i) % 256
theorem be_length (n width : Nat) : (be n width).length = width := by simp [be]
theorem be_all (n width : Nat) : AllB (be n width) := by
  intro x hx
  obtain ⟨i, _, rfl⟩ := List.mem_map.1 hx
  exact Nat.mod_lt _ (by omega)
theorem be_take (n width k : Nat) (h : k < width) : (be n width).take (k + 1) = (be n width).take k ++ [n / 256 ^ (width - 1 - k) % 256] := by
  rw [List.take_succ_eq_append_getElem (by rw [be_length]; exact h)]
  simp [be]

theorem infoB : (Try.prog.info? 5).map (fun i => (i.zero, i.size, i.bytes)) = some (some (.int .u8 0), 1, 1) := by kernel_rfl

/-- a Writer of the call's own that has written these bytes -/
def WBuf (w : World) (base p : Nat) (l : List Nat) : Prop := base ≤ p ∧ ∃ A c, Blk w p 72 #[.slice A l.length c] ∧ w.ownsRow base 5 1 (.slice A l.length c) l.length (bv l)

theorem WBuf.below {w w' : World} {base p : Nat} {l : List Nat} (h : WBuf w base p l) (hb : Below w.heap.size w w') : WBuf w' base p l := by
  obtain ⟨h1, A, c, h2, h3⟩ := h
  exact ⟨h1, A, c, h2.below hb h2.lt, own_below h3 hb⟩

theorem put_any (p base : Nat) (n width : Nat) (l : List Nat) (w : World) (hn : n < 18446744073709551616) (hwd : width ≤ 8) (hl : l.length ≤ 1099511627776) (h : WBuf w base p l) (hbase : base ≤ w.heap.size) :
    Calls Try.prog 44 #[.pointer (some ⟨p, 0, none⟩), .int .u64 n, .int .i64 width] w fun e w' => e = .returned (.tuple #[]) ∧ WBuf w' base p (l ++ be n width) ∧ Below base w w' := by
  go_enter Try.func44, Try.ntmps44
  go_wp2
  go_loopw [10] (fun i wr => ∃ k : Nat, k ≤ width ∧ i = .int .i64 (k : Int) ∧ WBuf wr base p (l ++ (be n width).take k) ∧ Below base w wr) (fun i _ => width - (intOf i).toNat)
  case atStart => exact ⟨0, by omega, rfl, by simpa using h, Below.refl _ _⟩
  case round =>
    obtain ⟨k, hk, rfl, hwb, hbr⟩ := hrel
    by_cases hkw : k < width
    · obtain ⟨hbp, A, c, hblk, hown⟩ := hwb
      have hcell := hblk.cell 0
      have hfr := hblk.frozen 0
      simp only [List.getElem?_toArray, List.getElem?_cons_zero] at hcell
      have hml : (l ++ (be n width).take k).length ≤ 1099511627784 := by rw [List.length_append, List.length_take, be_length]; omega
      have HT := Lib.hid (be_take n width k hkw)
      have HT2 : Hid (l ++ (be n width).take (k + 1) = (l ++ (be n width).take k) ++ [n / 256 ^ (width - 1 - k) % 256]) := by
        show _ = _
        rw [HT.out, List.append_assoc]
      generalize l ++ (be n width).take k = m at *
      obtain ⟨W, d, hW, hd, hdlt⟩ : ∃ W d : Nat, W + 1 = width ∧ d + k = W ∧ d ≤ 7 := ⟨width - 1, width - 1 - k, by omega, by omega, by omega⟩
      have e1 : IntKind.i64.wrap ((width : Int) - 1) = (W : Int) := by rw [IntWalk.i64_in _ (by omega)]; omega
      have e2 : IntKind.i64.wrap ((W : Int) - (k : Int)) = (d : Int) := by rw [IntWalk.i64_in _ (by omega)]; omega
      have e3 : IntKind.i64.wrap (8 * (d : Int)) = ((8 * d : Nat) : Int) := by rw [IntWalk.i64_in _ (by omega)]; omega
      have hq : n / 256 ^ (width - 1 - k) = n / 2 ^ (8 * d) := by
        rw [show width - 1 - k = d from by omega, Nat.pow_mul]
      have hsh : Op.shift BinOp.shr .u64 (n : Int) .i64 ((8 * d : Nat) : Int) = pure (.int .u64 ((n / 2 ^ (8 * d) : Nat) : Int)) := by
        rw [shift_shr_any _ _ _ _ (by omega)]
        have : min ((8 * d : Nat) : Int).toNat IntKind.u64.bits = 8 * d := by rw [Int.toNat_natCast]; show min (8 * d) 64 = _; omega
        rw [this, Int.natCast_ediv, Int.natCast_pow]
        rfl
      have hql : n / 2 ^ (8 * d) < 18446744073709551616 := Nat.lt_of_le_of_lt (Nat.div_le_self _ _) hn
      rw [hq] at HT2
      generalize n / 2 ^ (8 * d) = q at *
      generalize 8 * d = s8 at *
      clear hq hW hd
      have hwq : IntKind.u8.wrap (q : Int) = ((q % 256 : Nat) : Int) := by rw [IntKind.wrap_u8']; omega
      have hsz : base ≤ wr.heap.size := Nat.le_trans hbase hbr.size
      have hplt := hblk.lt
      go_wp2
      go_region_law (refine step_append_b rfl (.tmp 17) (.tmp 26) _ rfl 5 infoB Try.underlying70 base (.slice A m.length c) m.length m (by simp [Act.eval, Act.put]) (hown.alloc _) (wr.heap.size + 1) (some ⟨wr.heap.size, 0, none⟩) 1 1 [q % 256] (by simp [Act.eval, Act.put]) (reads_new _ _ _ _ 1 _ _ (by rfl) (by rfl) (by rfl) _ (by simp [bv])) (m.length + 1) rfl (by omega) (by simp; omega) ?_; intro A1 c1 w1 hown1 hb1 hg1 hat1; have hblk1 : Blk w1 p 72 #[.slice A m.length c] := Blk.grown ((hblk.alloc _).drew) hg1 (fun e => own_blk_ne hown hblk (by decide) e.symm); have hcell1 := hblk1.cell 0; have hfr1 := hblk1.frozen 0; simp only [List.getElem?_toArray, List.getElem?_cons_zero] at hcell1)
      all_goals
        go_wp2
        go_roundw
        case rel =>
          refine ⟨k + 1, by omega, by go_num, ⟨hbp, A1, c1, ?_, ?_⟩, ?_⟩
          · rw [HT2.out, List.length_append]
            exact hblk1.set_ 0 _
          · rw [HT2.out, List.length_append]
            exact own_set_far hown1 hblk1 (by decide) 0 _
          · exact (hbr.trans (((Below.refl _ _).alloc hsz _).drew.trans hb1)).setCell hbp _
        case measure => simp [intOf]; omega
    · have hkk : k = width := by omega
      have hfin : Hid (WBuf wr base p (l ++ be n width)) := by
        have := hwb
        rw [hkk, List.take_of_length_le (by rw [be_length]; omega)] at this
        exact this
      clear hwb
      go_wp2
      go_end0
      exact ⟨rfl, hfin.out, hbr⟩

theorem put_at (z : Int) (p base : Nat) (width : Nat) (l : List Nat) (w : World) (h0 : 0 ≤ z) (hn : z < 18446744073709551616) (hwd : width ≤ 8) (hl : l.length ≤ 1099511627776) (h : WBuf w base p l) (hbase : base ≤ w.heap.size) :
    Calls Try.prog 44 #[.pointer (some ⟨p, 0, none⟩), .int .u64 z, .int .i64 width] w fun e w' => e = .returned (.tuple #[]) ∧ WBuf w' base p (l ++ be z.toNat width) ∧ Below base w w' := by
  obtain ⟨n, rfl⟩ := Int.eq_ofNat_of_zero_le h0
  exact put_any p base n width l w (by omega) hwd hl h hbase

theorem u32_any (p base n : Nat) (l : List Nat) (w : World) (hn : n < 4294967296) (hl : l.length ≤ 1099511627776) (h : WBuf w base p l) (hbase : base ≤ w.heap.size) :
    Calls Try.prog 33 #[.pointer (some ⟨p, 0, none⟩), .int .u32 n] w fun e w' => e = .returned (.tuple #[]) ∧ WBuf w' base p (l ++ be n 4) ∧ Below base w w' := by
  have HC := Lib.hid (put_any p base n 4 l w (by omega) (by omega) hl h hbase)
  go_enter Try.func33, Try.ntmps33
  go_wp2_with fail
  refine HC.out.mono ?_
  rintro e w' ⟨rfl, hwb, hbw⟩
  go_wp2_with fail
  go_end0
  exact ⟨rfl, hwb, hbw⟩

/-- uint64 of an int -/
def u64n (z : Int) : Nat := (z % 18446744073709551616).toNat
theorem u64n_lt (z : Int) : u64n z < 18446744073709551616 := by unfold u64n; omega
theorem u64_wrap (z : Int) : IntKind.u64.wrap z = (u64n z : Int) := by rw [IntKind.wrap_u64]; unfold u64n; omega
theorem u64n_nat (n : Nat) (h : n < 18446744073709551616) : u64n (n : Int) = n := by unfold u64n; omega
theorem be_one (n : Nat) : be n 1 = [n % 256] := by simp [be]
theorem be_two (n : Nat) : be n 2 = [n / 256 % 256, n % 256] := by simp [be, List.range_succ]
theorem be_four (n : Nat) : be n 4 = [n / 16777216 % 256, n / 65536 % 256, n / 256 % 256, n % 256] := by simp [be, List.range_succ]
theorem be_mod (n m width : Nat) (h : n % 256 ^ width = m % 256 ^ width) : be n width = be m width := by
  unfold be
  apply List.map_congr_left
  intro i hi
  have hi' : i < width := List.mem_range.1 hi
  have e : 256 ^ width = 256 ^ (width - 1 - i) * (256 * 256 ^ i) := by
    rw [← Nat.mul_assoc, Nat.mul_comm _ 256, Nat.mul_assoc, ← Nat.pow_add, ← Nat.pow_succ']
    congr 1; omega
  have k : ∀ x : Nat, x / 256 ^ (width - 1 - i) % 256 = x % 256 ^ width / 256 ^ (width - 1 - i) % 256 := by
    intro x
    rw [e, Nat.mod_mul_right_div_self, Nat.mod_mul_right_mod]
  rw [k n, k m, h]

theorem u8w_any (p base : Nat) (z : Int) (l : List Nat) (w : World) (hl : l.length ≤ 1099511627776) (h : WBuf w base p l) (hbase : base ≤ w.heap.size) :
    Calls Try.prog 52 #[.pointer (some ⟨p, 0, none⟩), .int .i64 z] w fun e w' => e = .returned (.tuple #[]) ∧ WBuf w' base p (l ++ be (u64n z) 1) ∧ Below base w w' := by
  have HC := Lib.hid (put_any p base (u64n z) 1 l w (u64n_lt z) (by omega) hl h hbase)
  have hw := u64_wrap z
  go_enter Try.func52, Try.ntmps52
  go_wp2_with fail
  refine HC.out.mono ?_
  rintro e w' ⟨rfl, hwb, hbw⟩
  go_wp2_with fail
  go_end0
  exact ⟨rfl, hwb, hbw⟩

theorem u16w_any (p base : Nat) (z : Int) (l : List Nat) (w : World) (hl : l.length ≤ 1099511627776) (h : WBuf w base p l) (hbase : base ≤ w.heap.size) :
    Calls Try.prog 53 #[.pointer (some ⟨p, 0, none⟩), .int .i64 z] w fun e w' => e = .returned (.tuple #[]) ∧ WBuf w' base p (l ++ be (u64n z) 2) ∧ Below base w w' := by
  have HC := Lib.hid (put_any p base (u64n z) 2 l w (u64n_lt z) (by omega) hl h hbase)
  have hw := u64_wrap z
  go_enter Try.func53, Try.ntmps53
  go_wp2_with fail
  refine HC.out.mono ?_
  rintro e w' ⟨rfl, hwb, hbw⟩
  go_wp2_with fail
  go_end0
  exact ⟨rfl, hwb, hbw⟩

theorem clone_any (A : Option Addr) (n c B : Nat) (l : List Nat) (w : World) (hr : Reads w B 1 A n (bv l)) (hB : B ≤ w.heap.size) (hn : n ≤ 140737488355328) (hnil : A = none → c = 0) :
    Calls Try.prog 45 #[.slice A n c] w fun e w' => ∃ A' c', e = .returned (.slice A' n c') ∧ w'.ownsRow w.heap.size 5 1 (.slice A' n c') n (bv l) ∧ Below w.heap.size w w' := by
  rcases A with _ | ad
  · obtain rfl := hnil rfl
    have h0 : n = 0 := by
      rcases Nat.eq_zero_or_pos n with h | h
      · exact h
      · obtain ⟨_, h', _⟩ := hr.2 h
        cases h'
    subst h0
    have hl : l = [] := List.eq_nil_of_length_eq_zero hr.length
    subst hl
    go_enter Try.func45, Try.ntmps45
    have heq := fun w : World => Lib.run_eql_slice_nil (P := Try.prog) w 70 5 none 0 0 0 0 Try.underlying70
    go_wp2_with fail
    go_ret
    exact ⟨none, 0, rfl, World.ownsRow_nil _ _ _ _, Below.refl _ _⟩
  · go_enter Try.func45, Try.ntmps45
    have heq := fun w : World => Lib.run_eql_slice_nil (P := Try.prog) w 70 5 (some ad) n c 0 0 Try.underlying70
    go_wp2_with (at_builtin; refine stop_ ?_)
    refine on_ ?_
    refine wpList_append_b rfl (.tmp 5) (.tmp 6) _ rfl 5 infoB Try.underlying70 w.heap.size (.slice (some ⟨w.heap.size, 0, none⟩) 0 0) 0 [] rfl
      (lit_own (cs := #[]) (Blk.new_ rfl) (by omega) (by decide) rfl rfl) B (some ad) n c l rfl (hr.alloc hB _) n (by omega) (by omega) (by simp) ?_
    intro A1 c1 w1 hown1 hbw1 _ _
    rw [List.nil_append] at hown1
    go_wp2_with fail
    go_ret
    exact ⟨A1, c1, rfl, hown1, ((Below.refl _ _).alloc (Nat.le_refl _) _).trans hbw1⟩

theorem bytes_any (p base : Nat) (l : List Nat) (w : World) (h : WBuf w base p l) (hl : l.length ≤ 140737488355328) :
    Calls Try.prog 35 #[.pointer (some ⟨p, 0, none⟩)] w fun e w' => ∃ A' c', e = .returned (.slice A' l.length c') ∧ w'.ownsRow w.heap.size 5 1 (.slice A' l.length c') l.length (bv l) ∧ Below w.heap.size w w' := by
  obtain ⟨hbp, A, c, hblk, hown⟩ := h
  have hcell := hblk.cell 0
  simp only [List.getElem?_toArray, List.getElem?_cons_zero] at hcell
  have HC := Lib.hid (clone_any A l.length c w.heap.size l w (Reads.of_own hown) (Nat.le_refl _) hl (fun e => by
    subst e
    rcases hown.2 with ⟨h, _⟩ | ⟨g, cap, cur, h, _⟩
    · injection h with _ _ h3
    · injection h with h1
      cases h1))
  clear hown hblk
  go_enter Try.func35, Try.ntmps35
  go_wp2_with fail
  refine HC.out.mono ?_
  rintro e w' ⟨A', c', rfl, hown, hb⟩
  go_wp2_with fail
  go_ret
  exact ⟨A', c', rfl, hown, hb⟩
end Go.Proofs.Ytaamflhleommlaa
