/- The walk of SumLines. -/
import Derived.Test.YtbimdogiollgkaaSumAwake
import Derived.Test.YtbimdogiollgkaaCrcPlain
import Derived.Test.YtbimdogiollgkaaOpen
import Derived.BigQuiet
import Derived.BigRegion
import Derived.StillTailTactics
namespace Go.Proofs.Ytbimdogiollgkaa.sumLines
set_option linter.unusedVariables false
open Go.RowKit

theorem info5 : (Try.prog.info? 5).map (fun i => (i.zero, i.size, i.bytes)) = some (some (.int .u8 0), 1, 1) := by kernel_rfl

theorem fill_set {D : List Nat} {n k v : Nat} (hl : D.length = n) (hk : k < n) (hv : D[k]? = some v) : (D.take k ++ List.replicate (n - k) 0).set k v = D.take (k + 1) ++ List.replicate (n - (k + 1)) 0 := by
  have hkl : k < D.length := by omega
  have e : D[k] = v := by rw [List.getElem?_eq_getElem hkl] at hv; exact Option.some.inj hv
  rw [List.set_append_right _ _ (by simp; omega), List.take_succ_eq_append_getElem hkl, e, show n - k = (n - (k + 1)) + 1 from by omega, List.replicate_succ]
  simp [show min k D.length = k by omega]

set_option maxRecDepth 100000 in
theorem lawWalk (A : Option Addr) (na ca : Nat) (la : List Nat) (B : Option Addr) (nb cb : Nat) (lb : List Nat) (C : Option Addr) (nc cc : Nat) (lc : List Nat) (w : World) (ha : BytesIn w A na ca la) (hb : BytesIn w B nb cb lb) (hc : BytesIn w C nc cc lc) :
    Calls Try.prog 6 #[.slice A na ca, .slice B nb cb, .slice C nc cc] w fun e w' => e = .returned (.bool true) ∧ Below w.heap.size w w' := by
  obtain ⟨n, hna, hnb, hnc, hcase⟩ : ∃ n : Nat, n ≤ na ∧ n ≤ nb ∧ n ≤ nc ∧ ((nb < na ∧ nc < nb ∧ Hid ((nc : Int) = (n : Int))) ∨ (nb < na ∧ nb ≤ nc ∧ Hid ((nb : Int) = (n : Int))) ∨ (na ≤ nb ∧ nc < na ∧ Hid ((nc : Int) = (n : Int))) ∨ (na ≤ nb ∧ na ≤ nc ∧ Hid ((na : Int) = (n : Int)))) := by
    by_cases h1 : nb < na
    · by_cases h2 : nc < nb
      · exact ⟨nc, by omega, by omega, by omega, .inl ⟨h1, h2, rfl⟩⟩
      · exact ⟨nb, by omega, by omega, by omega, .inr (.inl ⟨h1, by omega, rfl⟩)⟩
    · by_cases h2 : nc < na
      · exact ⟨nc, by omega, by omega, by omega, .inr (.inr (.inl ⟨by omega, h2, rfl⟩))⟩
      · exact ⟨na, by omega, by omega, by omega, .inr (.inr (.inr ⟨by omega, by omega, rfl⟩))⟩
  have ra := ha.reach
  have rb := hb.reach
  have rc := hc.reach
  have la1 := ha.le
  have lb1 := hb.le
  have lc1 := hc.le
  have hla := ha.len
  have hlb := hb.len
  have hlc := hc.len
  have haa := ha.all.take n
  have hba := hb.all.take n
  have hca := hc.all.take n
  have hra := ha.reads.takeb hna
  have hrb := hb.reads.takeb hnb
  have hrc := hc.reads.takeb hnc
  have hja : (la.take n).length = n := by simp; omega
  have hjb : (lb.take n).length = n := by simp; omega
  have hjc : (lc.take n).length = n := by simp; omega
  clear ha hb hc
  have hcrc := crc_three (la.take n) (lb.take n) (lc.take n) haa hba hca (by omega) (by omega)
  have hDa : AllB (xorL (xorL (la.take n) (lb.take n)) (lc.take n)) := xorL_lt _ _ (xorL_lt _ _ haa hba) hca
  have hDl : (xorL (xorL (la.take n) (lb.take n)) (lc.take n)).length = n := by rw [xorL_length _ _ (by rw [xorL_length _ _ (by omega)]; omega), xorL_length _ _ (by omega)]; exact hja
  have hDg : ∀ (k x y z : Nat), (la.take n)[k]? = some x → (lb.take n)[k]? = some y → (lc.take n)[k]? = some z → (xorL (xorL (la.take n) (lb.take n)) (lc.take n))[k]? = some (x ^^^ y ^^^ z) := fun k x y z h1 h2 h3 => xorL_get _ _ k _ _ (xorL_get _ _ k _ _ h1 h2) h3
  generalize xorL (xorL (la.take n) (lb.take n)) (lc.take n) = D at hcrc hDa hDl hDg
  clear hla hlb hlc
  generalize la.take n = la' at *
  generalize lb.take n = lb' at *
  generalize lc.take n = lc' at *
  have HJ : Hid (la'.length = n ∧ lb'.length = n ∧ lc'.length = n ∧ D.length = n) := ⟨hja, hjb, hjc, hDl⟩
  have HD := Lib.hid hDg
  have HC := Lib.hid hcrc
  clear hja hjb hjc hDl hDg hcrc
  obtain ⟨i0, hi, hz0, hz1, hz2⟩ := info_parts info5
  rcases hcase with ⟨h1, h2, HE⟩ | ⟨h1, h2, HE⟩ | ⟨h1, h2, HE⟩ | ⟨h1, h2, HE⟩
  all_goals
    go_enter Try.func6, Try.ntmps6
    go_wp2_with (at_make; refine stop_ ?_)
    rw [HE.out]
    refine on_ ?_
    refine wpList_make_full _ rfl _ _ 22 rfl w.heap.size 5 i0 _ 1 Try.underlying22 hi hz0 hz1 _ _ _ _ n rfl rfl rfl rfl (by rw [hz2]; omega) (by unfold maxLen; omega) (Nat.le_refl _) ?_
    intro w1 hown hg
    have hown' : w1.ownsRow w.heap.size 5 1 (.slice (some ⟨w.heap.size, 0, none⟩) n n) n (bv (D.take 0 ++ List.replicate (n - 0) 0)) := by
      have e : (madeCells (Value.int IntKind.u8 0).cells (n * 1)).toList = bv (D.take 0 ++ List.replicate (n - 0) 0) := by
        rw [Nat.mul_one]
        show (madeCells #[Value.int IntKind.u8 0] n).toList = _
        rw [toList_madeCells_one]
        simp [bv]
      rw [← e]
      exact hown
    have hb1 : Below w.heap.size w w1 := (Below.refl _ _).grown hg (Nat.le_refl _) (by simp)
    have hlt : w.heap.size < w1.heap.size := by
      rcases hown.2 with ⟨h, _⟩ | ⟨g, cap, cur, h, _, hh, _⟩
      · cases h
      · cases h; exact (Array.getElem?_eq_some_iff.1 hh).1
    clear hown hg
    go_wp2_with fail
    go_loopw [20] (fun i wr => ∃ k : Nat, k ≤ n ∧ i = .int .i64 (k : Int) ∧ wr.ownsRow w.heap.size 5 1 (.slice (some ⟨w.heap.size, 0, none⟩) n n) n (bv (D.take k ++ List.replicate (n - k) 0)) ∧ Below w.heap.size w wr ∧ w.heap.size < wr.heap.size) (fun i _ => n - (intOf i).toNat)
    case atStart => exact ⟨0, by omega, rfl, hown', hb1, hlt⟩
    case round =>
      obtain ⟨k, hk, rfl, hown, hbr, hltr⟩ := hrel
      clear hown' hb1 hlt
      by_cases hkn : k < n
      · obtain ⟨ad1, _, rfl, hca1⟩ := bytes_at (hra.below hbr) hkn
        obtain ⟨ad2, _, rfl, hcb1⟩ := bytes_at (hrb.below hbr) hkn
        obtain ⟨ad3, _, rfl, hcc1⟩ := bytes_at (hrc.below hbr) hkn
        have hx := haa _ (List.getElem_mem (l := la') (n := k) (by omega))
        have hy := hba _ (List.getElem_mem (l := lb') (n := k) (by omega))
        have hz := hca _ (List.getElem_mem (l := lc') (n := k) (by omega))
        have hDk := HD.out k _ _ _ (List.getElem?_eq_getElem (by omega)) (List.getElem?_eq_getElem (by omega)) (List.getElem?_eq_getElem (by omega))
        generalize la'[k] = x at *
        generalize lb'[k] = y at *
        generalize lc'[k] = z at *
        have hx1 : bits BinOp.xor IntKind.u8 (x : Int) (y : Int) = ((x ^^^ y : Nat) : Int) := u8_xor_nat x y hx hy
        have hxy : x ^^^ y < 256 := Nat.xor_lt_two_pow (n := 8) hx hy
        have hx2 : bits BinOp.xor IntKind.u8 ((x ^^^ y : Nat) : Int) (z : Int) = ((x ^^^ y ^^^ z : Nat) : Int) := u8_xor_nat (x ^^^ y) z hxy hz
        generalize x ^^^ y = t at *
        generalize t ^^^ z = v at *
        have HV : Hid (D[k]? = some v) := hDk
        clear hDk
        have hfz := hown.frozenAt k
        obtain ⟨old, hold⟩ : ∃ old : Value, wr.cell? ⟨w.heap.size, k, none⟩ = some old := by
          have hlk : k < (D.take k ++ List.replicate (n - k) 0).length := by have := HJ.out; simp; omega
          exact ⟨_, ownb_cell hown k hkn hlk⟩
        go_wp2
        go_region
        go_wp2
        go_roundw
        case rel =>
          have hlk : (D.take k ++ List.replicate (n - k) 0).length = n := by have := HJ.out; simp; omega
          refine ⟨k + 1, by omega, by go_num, ?_, ?_, ?_⟩
          · have := ownb_store hown k v
            rw [fill_set HJ.out.2.2.2 hkn HV.out] at this
            exact this
          · exact (hbr.setCell (p := ⟨w.heap.size, k, none⟩) (Nat.le_refl _) _).drew
          · simpa using hltr
        case measure => simp [intOf]; omega
      · have hkk : k = n := by omega
        have hr : Reads wr wr.heap.size 1 (some ⟨w.heap.size, 0, none⟩) n (bv D) := by
          have := Reads.of_own hown
          rwa [hkk, Nat.sub_self, List.replicate_zero, List.append_nil, List.take_of_length_le (by have := HJ.out; omega)] at this
        clear hown
        have hr1 := hra.below hbr
        have hr2 := hrb.below hbr
        have hr3 := hrc.below hbr
        have hxa := u32_xor_nat (crcN la') (crcN lb') (crcN_lt _) (crcN_lt _)
        have hxb := u32_xor_nat (crcN la' ^^^ crcN lb') (crcN lc') (xor_lt32 (crcN_lt _) (crcN_lt _)) (crcN_lt _)
        have q0 := Lib.hid (fun (w' : World) (hq : Below wr.heap.size wr w') => below_same hq (crc_any w' _ _ n n D (hr.below hq) (by omega) hDa))
        have q1 := Lib.hid (fun (w' : World) (hq : Below wr.heap.size wr w') => below_same hq (crc_any w' _ A n ca la' ((hra.below hbr).below (hq.mono hbr.size)) (by omega) haa))
        have q2 := Lib.hid (fun (w' : World) (hq : Below wr.heap.size wr w') => below_same hq (crc_any w' _ B n cb lb' ((hrb.below hbr).below (hq.mono hbr.size)) (by omega) hba))
        have q3 := Lib.hid (fun (w' : World) (hq : Below wr.heap.size wr w') => below_same hq (crc_any w' _ C n cc lc' ((hrc.below hbr).below (hq.mono hbr.size)) (by omega) hca))
        have q4 := Lib.hid (fun (w' : World) (hq : Below wr.heap.size wr w') => below_made hq (awake_any w'))
        rw [HC.out] at q0
        generalize crcN la' ^^^ crcN lb' = t at *
        generalize t ^^^ crcN lc' = v at *
        go_wp2
        refine wp_region_below (by kernel_rfl) (by kernel_rfl) ?_
        repeat (go_big_quiet_step ((first | with_reducible exact fun _ => rfl | with_reducible exact q0.out _ | with_reducible exact q1.out _ | with_reducible exact q2.out _ | with_reducible exact q3.out _ | with_reducible exact q4.out _)))
        refine wpQuiet_nil ?_
        intro w9 hb9
        go_wp2
        go_ret
        exact ⟨rfl, hbr.trans (hb9.mono hbr.size)⟩
end Go.Proofs.Ytbimdogiollgkaa.sumLines
