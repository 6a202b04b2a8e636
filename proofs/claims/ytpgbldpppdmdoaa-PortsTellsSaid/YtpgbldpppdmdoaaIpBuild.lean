/- ip.Parse whole; the walks of ip.Build, ip.Whole. -/
import Derived.Test.YtpgbldpppdmdoaaIpParseOk
namespace Go.Proofs.Ytpgbldpppdmdoaa
set_option linter.unusedVariables false
set_option linter.unusedSimpArgs false
open Go.RowKit

theorem parse_any (A : Option Addr) (n c B : Nat) (l : List Nat) (w : World) (hr : Reads w B 1 A n (bv l)) (hB : B ≤ w.heap.size) (hn : n ≤ 140737488355328) (hnc : n ≤ c) (ha : AllB l) :
    Calls Try.prog 16 #[.slice A n c] w fun e w' => ParseRet l w e w' ∧ Below w.heap.size w w' := by
  by_cases h20 : n < 20
  · exact parse_short A n c B l w hr h20
  · by_cases h : whyP l = 0
    · exact parse_ok A n c B l w hr hB hn hnc (by omega) ha h
    · exact parse_no A n c B l w hr hB hn hnc (by omega) ha h

set_option maxHeartbeats 1000000 in
set_option maxRecDepth 100000 in
theorem build1_any (b : Nat) (h : Hd) (c : Nat) (w : World) (hc : c < 65536) (hok : HdOk h) (hbk : Blk w b 24 h.vals) :
    Calls Try.prog 34 #[.int .u16 c, .pointer (some ⟨b, 0, none⟩)] w fun e w' => ∃ A c', e = .returned (.slice A 20 c') ∧ w'.ownsRow w.heap.size 5 1 (.slice A 20 c') 20 (bv (headB h c)) ∧ Below w.heap.size w w' := by
  have HB := Lib.hid (fun w' (hb : Below w.heap.size w w') => hbk.below hb hbk.lt)
  have HH : Hid (headB h c = be (u64n 69) 1 ++ be (u64n h.tos) 1 ++ be (u64n h.len) 2 ++ be (u64n h.id) 2 ++ be (u64n (bits .or .i64 (IntKind.i64.wrap (h.flags * 8192)) ((h.off % 8192).toNat : Int))) 2 ++ be (u64n h.ttl) 1 ++ be (u64n h.proto) 1 ++ be (u64n (c : Int)) 2 ++ be h.src 4 ++ be h.dst 4) := by
    show _ = _
    rw [flof_or, u64n_nat c (by omega)]
    rfl
  have U8 := Lib.hid (fun p z l w' => u8w_any p w.heap.size z l w')
  have U16 := Lib.hid (fun p z l w' => u16w_any p w.heap.size z l w')
  have U32 := Lib.hid (fun p n l w' => u32_any p w.heap.size n l w')
  obtain ⟨ihl, tos, len, id, flags, off, ttl, proto, sum, src, dst⟩ := h
  obtain ⟨k0, k1, k2, k3, k4, k5, k6, k7, k8, k9, k10⟩ := hok
  have hand : bits BinOp.and IntKind.i64 off 8191 = ((off % 8192).toNat : Int) := i64_and_mask 13 (by omega) off
  have hol : (off % 8192).toNat < 8192 := by omega
  dsimp only at HH k9 k10
  generalize (off % 8192).toNat = o at *
  obtain ⟨zf, hzf⟩ : ∃ zf, zf = bits BinOp.or .i64 (IntKind.i64.wrap (flags * 8192)) (o : Int) := ⟨_, rfl⟩
  rw [← hzf] at HH
  have HL := Lib.hid hzf
  clear hzf hbk k0 k1 k2 k3 k6 k7 k8
  go_enter Try.func34, Try.ntmps34
  go_wp2_with fail
  have hw0 : WBuf (w.alloc (.cells #[.slice none 0 0] 62)) w.heap.size w.heap.size [] := ⟨Nat.le_refl _, none, 0, Blk.new_ rfl, World.ownsRow_nil _ _ _ _⟩
  have hB0 : Below w.heap.size w (w.alloc (.cells #[.slice none 0 0] 62)) := (Below.refl _ _).alloc (Nat.le_refl _) _
  generalize w.alloc (.cells #[.slice none 0 0] 62) = v0 at *
  refine (U8.out w.heap.size 69 [] v0 (by simp) hw0 hB0.size).mono ?_
  rintro e v1 ⟨rfl, hw1, hb1⟩
  have hB1 := hB0.trans hb1
  rw [List.nil_append] at hw1
  clear hw0 hB0 hb1
  have hk1 := (HB.out v1 hB1).cell 1
  simp only [Hd.vals, List.getElem?_toArray, List.getElem?_cons_zero, List.getElem?_cons_succ] at hk1
  go_wp2_with fail
  refine (U8.out w.heap.size tos _ v1 (by simp [be_length]) hw1 hB1.size).mono ?_
  rintro e v2 ⟨rfl, hw2, hb2⟩
  have hB2 := hB1.trans hb2
  clear hw1 hB1 hb2 hk1
  have hk2 := (HB.out v2 hB2).cell 2
  simp only [Hd.vals, List.getElem?_toArray, List.getElem?_cons_zero, List.getElem?_cons_succ] at hk2
  go_wp2_with fail
  refine (U16.out w.heap.size len _ v2 (by simp [be_length]) hw2 hB2.size).mono ?_
  rintro e v3 ⟨rfl, hw3, hb3⟩
  have hB3 := hB2.trans hb3
  clear hw2 hB2 hb3 hk2
  have hk3 := (HB.out v3 hB3).cell 3
  simp only [Hd.vals, List.getElem?_toArray, List.getElem?_cons_zero, List.getElem?_cons_succ] at hk3
  go_wp2_with fail
  refine (U16.out w.heap.size id _ v3 (by simp [be_length]) hw3 hB3.size).mono ?_
  rintro e v4 ⟨rfl, hw4, hb4⟩
  have hB4 := hB3.trans hb4
  clear hw3 hB3 hb4 hk3
  have hk4 := (HB.out v4 hB4).cell 4
  have hk5 := (HB.out v4 hB4).cell 5
  simp only [Hd.vals, List.getElem?_toArray, List.getElem?_cons_zero, List.getElem?_cons_succ] at hk4 hk5
  go_wp2_with fail
  have hor : bits BinOp.or IntKind.i64 (wrap64 (flags * 8192)) (o : Int) = zf := by
    rw [HL.out, IntKind.wrap_i64, wrap64]
  rw [hor]
  clear hor
  refine (U16.out w.heap.size zf _ v4 (by simp [be_length]) hw4 hB4.size).mono ?_
  rintro e v5 ⟨rfl, hw5, hb5⟩
  have hB5 := hB4.trans hb5
  clear hw4 hB4 hb5 hk4 hk5
  have hk6 := (HB.out v5 hB5).cell 6
  simp only [Hd.vals, List.getElem?_toArray, List.getElem?_cons_zero, List.getElem?_cons_succ] at hk6
  go_wp2_with fail
  refine (U8.out w.heap.size ttl _ v5 (by simp [be_length]) hw5 hB5.size).mono ?_
  rintro e v6 ⟨rfl, hw6, hb6⟩
  have hB6 := hB5.trans hb6
  clear hw5 hB5 hb6 hk6
  have hk7 := (HB.out v6 hB6).cell 7
  simp only [Hd.vals, List.getElem?_toArray, List.getElem?_cons_zero, List.getElem?_cons_succ] at hk7
  go_wp2_with fail
  refine (U8.out w.heap.size proto _ v6 (by simp [be_length]) hw6 hB6.size).mono ?_
  rintro e v7 ⟨rfl, hw7, hb7⟩
  have hB7 := hB6.trans hb7
  clear hw6 hB6 hb7 hk7
  go_wp2_with fail
  refine (U16.out w.heap.size (c : Int) _ v7 (by simp [be_length]) hw7 hB7.size).mono ?_
  rintro e v8 ⟨rfl, hw8, hb8⟩
  have hB8 := hB7.trans hb8
  clear hw7 hB7 hb8 
  have hk9 := (HB.out v8 hB8).cell 9
  simp only [Hd.vals, List.getElem?_toArray, List.getElem?_cons_zero, List.getElem?_cons_succ] at hk9
  go_wp2_with fail
  refine (U32.out w.heap.size src _ v8 (by omega) (by simp [be_length]) hw8 hB8.size).mono ?_
  rintro e v9 ⟨rfl, hw9, hb9⟩
  have hB9 := hB8.trans hb9
  clear hw8 hB8 hb9 hk9
  have hk10 := (HB.out v9 hB9).cell 10
  simp only [Hd.vals, List.getElem?_toArray, List.getElem?_cons_zero, List.getElem?_cons_succ] at hk10
  go_wp2_with fail
  refine (U32.out w.heap.size dst _ v9 (by omega) (by simp [be_length]) hw9 hB9.size).mono ?_
  rintro e v10 ⟨rfl, hw10, hb10⟩
  have hB10 := hB9.trans hb10
  clear hw9 hB9 hb10 hk10
  go_wp2_with fail
  have hlen : (be (u64n 69) 1 ++ be (u64n tos) 1 ++ be (u64n len) 2 ++ be (u64n id) 2 ++ be (u64n zf) 2 ++ be (u64n ttl) 1 ++ be (u64n proto) 1 ++ be (u64n (c : Int)) 2 ++ be src 4 ++ be dst 4).length = 20 := by simp [be_length]
  rw [← HH.out] at hw10 hlen
  have CB := Lib.hid (bytes_any w.heap.size w.heap.size _ v10 hw10 (by rw [hlen]; omega))
  rw [hlen] at CB
  clear hw10 hlen
  refine CB.out.mono ?_
  rintro e w' ⟨A', c', rfl, hown, hb⟩
  have hsz := hB10.size
  go_wp2_with fail
  go_ret
  exact ⟨A', c', rfl, own_lower hown hsz, hB10.trans (hb.mono hsz)⟩

set_option maxHeartbeats 1000000 in
set_option maxRecDepth 100000 in
theorem build_any (h : Hd) (w : World) (hok : HdOk h) :
    Calls Try.prog 14 #[.agg h.vals] w fun e w' => ∃ A c', e = .returned (.slice A 20 c') ∧ w'.ownsRow w.heap.size 5 1 (.slice A 20 c') 20 (bv (buildB h)) ∧ Below w.heap.size w w' := by
  have hbk : Blk (w.alloc (.cells h.vals 24)) w.heap.size 24 h.vals := Blk.new _ _ _
  have hB0 : Below w.heap.size w (w.alloc (.cells h.vals 24)) := (Below.refl _ _).alloc (Nat.le_refl _) _
  have C1 := Lib.hid (build1_any w.heap.size h 0 _ (by omega) hok hbk)
  have C2 := Lib.hid (fun c w' (hc : c < 65536) (hb : Below (w.alloc (.cells h.vals 24)).heap.size (w.alloc (.cells h.vals 24)) w') => build1_any w.heap.size h c w' hc hok (hbk.below hb hbk.lt))
  have hall := Lib.hid (headB_all h 0)
  have hnl := netN_lt (headB h 0)
  have HD : Hid (buildB h = headB h (netN (headB h 0))) := rfl
  have hsz : w.heap.size ≤ (w.alloc (.cells h.vals 24)).heap.size := by simp
  clear hbk hok
  unfold Hd.vals at *
  go_enter Try.func14, Try.ntmps14
  go_wp2_with fail
  refine C1.out.mono ?_
  rintro e w1 ⟨A1, c1, rfl, hown1, hb1⟩
  have hr1 := Reads.of_own hown1
  clear hown1 C1
  go_wp2_with fail
  refine (net_any w1 _ A1 20 c1 (headB h 0) hr1 (by omega) hall.out).mono ?_
  rintro e w' ⟨rfl, rfl⟩
  generalize netN (headB h 0) = z at *
  go_wp2_with fail
  refine (C2.out z w1 hnl hb1).mono ?_
  rintro e w2 ⟨A2, c2, rfl, hown2, hb2⟩
  have hs1 := hb1.size
  have hB1 := hB0.trans (hb1.mono hsz)
  have hB2 := hB1.trans (hb2.mono (Nat.le_trans hsz hs1))
  rw [← HD.out] at hown2
  go_wp2_with fail
  go_ret
  exact ⟨A2, c2, rfl, own_lower hown2 (Nat.le_trans hsz hs1), hB2⟩
end Go.Proofs.Ytpgbldpppdmdoaa
