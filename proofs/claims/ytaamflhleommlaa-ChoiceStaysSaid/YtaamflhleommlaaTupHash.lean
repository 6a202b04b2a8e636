/- The walks of tuple.Write and tuple.Hash. -/
import Derived.Test.YtaamflhleommlaaOctetK
import Derived.Test.YtaamflhleommlaaTupMay
import Derived.Test.YtaamflhleommlaaSumMix
namespace Go.Proofs.Ytaamflhleommlaa
set_option linter.unusedVariables false
set_option linter.unusedSimpArgs false
open Go.RowKit

def tupB (k : Tu) : List Nat := be k.src 4 ++ be k.dst 4 ++ be (u64n k.proto) 1 ++ be (u64n k.sport) 2 ++ be (u64n k.dport) 2
theorem tupB_length (k : Tu) : (tupB k).length = 13 := by simp [tupB, be_length]
theorem allB_append {a b : List Nat} (ha : AllB a) (hb : AllB b) : AllB (a ++ b) := fun x hx => (List.mem_append.1 hx).elim (ha x) (hb x)
theorem tupB_all (k : Tu) : AllB (tupB k) := allB_append (allB_append (allB_append (allB_append (be_all _ _) (be_all _ _)) (be_all _ _)) (be_all _ _)) (be_all _ _)
def hashT (k : Tu) : Nat := mixN 0 (tupB k)

set_option maxHeartbeats 4000000 in
set_option maxRecDepth 100000 in
theorem write_any (p base : Nat) (k : Tu) (hk : TuOk k) (w : World) (h : WBuf w base p []) (hbase : base ≤ w.heap.size) :
    Calls Try.prog 49 #[.pointer (some ⟨p, 0, none⟩), .agg k.vals] w fun e w' => e = .returned (.tuple #[]) ∧ WBuf w' base p (tupB k) ∧ Below base w w' := by
  obtain ⟨src, dst, proto, sport, dport⟩ := k
  obtain ⟨k1, k2, k3, k4, k5⟩ := hk
  dsimp only [Tu.vals] at *
  have hx := Blk.new w 54 #[.int .u32 (src : Int), .int .u32 (dst : Int), .int .i64 proto, .int .i64 sport, .int .i64 dport]
  have hb0 := (Below.refl w.heap.size w).alloc (Nat.le_refl _) (.cells #[.int .u32 (src : Int), .int .u32 (dst : Int), .int .i64 proto, .int .i64 sport, .int .i64 dport] 54)
  have hw0 := h.below hb0
  have HE : Hid (tupB ⟨src, dst, proto, sport, dport⟩ = be src 4 ++ be dst 4 ++ be (u64n proto) 1 ++ be (u64n sport) 2 ++ be (u64n dport) 2) := rfl
  obtain ⟨T, hT⟩ : ∃ T, tupB ⟨src, dst, proto, sport, dport⟩ = T := ⟨_, rfl⟩
  rw [hT] at HE ⊢
  clear hT
  have hlen : ∀ (n width : Nat) (l : List Nat), (l ++ be n width).length = l.length + width := fun n width l => by rw [List.length_append, be_length]
  have ht1 : 54 ≠ 72 := by decide
  have ht2 : 54 ≠ 5 := by decide
  have hbs := Nat.le_trans hbase hb0.size
  have C1 := Lib.hid (u32_k p base src [] _ k1 (by simp) hw0 hbs)
  have HX := Lib.hid hx
  have HB := Lib.hid (hb0.mono hbase)
  have HL := Lib.hid hlen
  have HS := Lib.hid hbs
  clear hx hb0 hw0 hlen hbs h
  go_enter Try.func49, Try.ntmps49
  obtain ⟨q, hq⟩ : ∃ q, q = w.heap.size := ⟨_, rfl⟩
  go_wp2_with fail
  generalize w.alloc (.cells #[.int .u32 (src : Int), .int .u32 (dst : Int), .int .i64 proto, .int .i64 sport, .int .i64 dport] 54) = w0 at *
  rw [← hq] at HX ⊢
  clear hq
  refine C1.out.mono ?_
  rintro e w1 ⟨rfl, hw1, hb1, hK1⟩
  have hx1 := hK1 _ _ _ HX.out ht1 ht2
  have hs1 := Nat.le_trans HS.out hb1.size
  have C2 := Lib.hid (u32_k p base dst _ w1 k2 (by rw [HL.out]; simp) hw1 hs1)
  have d1 := hx1.cell 1
  simp only [List.getElem?_toArray, List.getElem?_cons_zero, List.getElem?_cons_succ] at d1
  have HX1 := Lib.hid hx1
  clear hx1
  go_wp2_with fail
  clear d1
  refine C2.out.mono ?_
  rintro e w2 ⟨rfl, hw2, hb2, hK2⟩
  have hx2 := hK2 _ _ _ HX1.out ht1 ht2
  have hs2 := Nat.le_trans hs1 hb2.size
  have C3 := Lib.hid (u8w_k p base proto _ w2 (by simp [be_length]) hw2 hs2)
  have d2 := hx2.cell 2
  simp only [List.getElem?_toArray, List.getElem?_cons_zero, List.getElem?_cons_succ] at d2
  have HX2 := Lib.hid hx2
  clear hx2
  go_wp2_with fail
  clear d2
  refine C3.out.mono ?_
  rintro e w3 ⟨rfl, hw3, hb3, hK3⟩
  have hx3 := hK3 _ _ _ HX2.out ht1 ht2
  have hs3 := Nat.le_trans hs2 hb3.size
  have C4 := Lib.hid (u16w_k p base sport _ w3 (by simp [be_length]) hw3 hs3)
  have d3 := hx3.cell 3
  simp only [List.getElem?_toArray, List.getElem?_cons_zero, List.getElem?_cons_succ] at d3
  have HX3 := Lib.hid hx3
  clear hx3
  go_wp2_with fail
  clear d3
  refine C4.out.mono ?_
  rintro e w4 ⟨rfl, hw4, hb4, hK4⟩
  have hx4 := hK4 _ _ _ HX3.out ht1 ht2
  have hs4 := Nat.le_trans hs3 hb4.size
  have C5 := Lib.hid (u16w_k p base dport _ w4 (by simp [be_length]) hw4 hs4)
  have d4 := hx4.cell 4
  simp only [List.getElem?_toArray, List.getElem?_cons_zero, List.getElem?_cons_succ] at d4
  have HX4 := Lib.hid hx4
  clear hx4
  go_wp2_with fail
  clear d4
  refine C5.out.mono ?_
  rintro e w5 ⟨rfl, hw5, hb5, hK5⟩
  have hx5 := hK5 _ _ _ HX4.out ht1 ht2
  have hs5 := Nat.le_trans hs4 hb5.size
  go_wp2_with fail
  go_end0
  refine ⟨rfl, ?_, ((((HB.out.trans hb1).trans hb2).trans hb3).trans hb4).trans hb5⟩
  rw [HE.out]
  simpa using hw5

set_option maxHeartbeats 4000000 in
set_option maxRecDepth 100000 in
theorem hash_any (k : Tu) (hk : TuOk k) (w : World) :
    Calls Try.prog 41 #[.agg k.vals] w fun e w' => e = .returned (.int .u32 (hashT k)) ∧ Below w.heap.size w w' := by
  have HT : Hid (mixN 0 (tupB k) = hashT k) := rfl
  have hl := tupB_length k
  have ha := tupB_all k
  have hb0 := ((Below.refl w.heap.size w).alloc (Nat.le_refl _) (.cells k.vals 54)).alloc (by simp) (.cells #[.slice none 0 0] 72)
  have hs0 : ((w.alloc (.cells k.vals 54)).alloc (.cells #[.slice none 0 0] 72)).heap.size = w.heap.size + 2 := by simp
  have C1 := Lib.hid (write_any (w.heap.size + 1) (w.heap.size + 1) k hk ((w.alloc (.cells k.vals 54)).alloc (.cells #[.slice none 0 0] 72))
    ⟨Nat.le_refl _, none, 0, Blk.new_ (by simp), World.ownsRow_nil _ _ _ _⟩ (by rw [hs0]; omega))
  have hx0 := (Blk.new w 54 k.vals).alloc (.cells #[.slice none 0 0] 72)
  have HT2 := Lib.hid (And.intro hb0 hs0)
  obtain ⟨src, dst, proto, sport, dport⟩ := k
  dsimp only [Tu.vals] at *
  have c0 := hx0.cell 0
  have c1 := hx0.cell 1
  have c2 := hx0.cell 2
  have c3 := hx0.cell 3
  have c4 := hx0.cell 4
  simp only [List.getElem?_toArray, List.getElem?_cons_zero, List.getElem?_cons_succ] at c0 c1 c2 c3 c4
  clear hb0 hs0 hx0
  generalize hashT ⟨src, dst, proto, sport, dport⟩ = hT at *
  generalize tupB ⟨src, dst, proto, sport, dport⟩ = tb at *
  have HL := Lib.hid hl
  clear hl
  go_enter Try.func41, Try.ntmps41
  go_wp2_with fail
  refine C1.out.mono ?_
  rintro e w1 ⟨rfl, hw1, hb1⟩
  have hs1 : w.heap.size + 2 ≤ w1.heap.size := by have := hb1.size; rw [HT2.out.2] at this; exact this
  have hB1 : Below w.heap.size w w1 := HT2.out.1.trans (hb1.mono (by omega))
  clear c0 c1 c2 c3 c4
  go_wp2_with fail
  refine (bytes_any (w.heap.size + 1) (w.heap.size + 1) tb w1 hw1 (by rw [HL.out]; omega)).mono ?_
  rintro e w2 ⟨A2, c2, rfl, hown2, hb2⟩
  have hr2 := Reads.of_own hown2
  rw [HL.out] at hr2 hown2 ⊢
  have hB2 : Below w.heap.size w w2 := hB1.trans (hb2.mono (by omega))
  clear hown2 hb2
  go_wp2_with fail
  refine (mix_any 0 (by omega) _ _ _ _ _ tb hr2 (by omega) ha).mono ?_
  rintro e w' ⟨rfl, rfl⟩
  rw [HT.out]
  go_wp2_with fail
  go_ret
  exact ⟨rfl, hB2⟩
end Go.Proofs.Ytaamflhleommlaa
