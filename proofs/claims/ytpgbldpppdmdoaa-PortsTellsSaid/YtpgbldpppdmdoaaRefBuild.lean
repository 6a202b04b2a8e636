/- The walk of the reference's Build. -/
import Derived.Test.YtpgbldpppdmdoaaRefU
import Derived.Test.YtpgbldpppdmdoaaIpLaws
import Derived.Deep.RegionLaw
import Derived.Deep.DeepCutAuto
namespace Go.Proofs.Ytpgbldpppdmdoaa
set_option linter.unusedVariables false
set_option linter.unusedSimpArgs false
open Go.RowKit

theorem reads_blk {w : World} {g n B : Nat} {e : TypeId} {C : Array Value} {xs : List Value} (h : Blk w g e C) (hn : C.size = n) (hB : g < B) (hx : C.toList = xs) : Reads w B 1 (some ⟨g, 0, none⟩) n xs := by
  subst hn hx
  refine ⟨by simp, fun _ => ⟨_, rfl, hB, fun j u hu => ?_⟩⟩
  have hj : (⟨g, 0, none⟩ : Addr).add j = ⟨g, j, none⟩ := by unfold Addr.add; split <;> simp_all
  rw [hj, h.cell j]
  simpa using hu

theorem u64n_cast' (z : Nat) (h : z < 65536) : u64n (z : Int) = z := by unfold u64n; omega
theorem own_drew {w : World} {base n size : Nat} {e : TypeId} {v : Value} {xs : List Value} (h : w.ownsRow base e size v n xs) : w.drew.ownsRow base e size v n xs := h
theorem below_drew {w w' : World} {B : Nat} (h : Below B w.drew w') : Below B w w' := ⟨h.os, h.tape, h.output, h.size, h.block⟩

/-- a row of bytes of the call's own, at a block's head, behind the place where it began -/
def Row (w wr : World) (B : Nat) (v : Value) (n : Nat) (l : List Nat) : Prop :=
  ∃ g c, v = .slice (some ⟨g, 0, none⟩) n c ∧ wr.ownsRow B 5 1 (.slice (some ⟨g, 0, none⟩) n c) n (bv l) ∧ Below B w wr

set_option maxHeartbeats 4000000 in
set_option maxRecDepth 100000 in
theorem refbuild_any (h : Hd) (w : World) (hok : HdOk h) :
    Calls Try.prog 19 #[.agg h.vals] w fun e w' => ∃ A c', e = .returned (.slice A 20 c') ∧ w'.ownsRow w.heap.size 5 1 (.slice A 20 c') 20 (bv (buildB h)) ∧ Below w.heap.size w w' := by
  obtain ⟨ihl, tos, len, id, flags, off, ttl, proto, sum, src, dst⟩ := h
  have klen := hok.len
  have kid := hok.id
  have ksrc := hok.src
  have kdst := hok.dst
  dsimp only at klen kid ksrc kdst
  have ht : Hid (tos % 256 = ((u64n tos % 256 : Nat) : Int)) := by show _ = _; unfold u64n; omega
  have hHB : Hid (∀ c, headB ⟨ihl, tos, len, id, flags, off, ttl, proto, sum, src, dst⟩ c = _) := fun c => headB_list _ c
  have mF : bits BinOp.and IntKind.i64 flags 7 = ((flags % 8).toNat : Int) := i64_and_mask 3 (by omega) flags
  have mO : bits BinOp.and IntKind.i64 off 8191 = ((off % 8192).toNat : Int) := i64_and_mask 13 (by omega) off
  have hfl : flof ⟨ihl, tos, len, id, flags, off, ttl, proto, sum, src, dst⟩ = (flags % 8).toNat * 8192 + (off % 8192).toNat := rfl
  obtain ⟨F, hF, hFl⟩ : ∃ F, F = (flags % 8).toNat ∧ F < 8 := ⟨_, rfl, by omega⟩
  obtain ⟨O, hO, hOl⟩ : ∃ O, O = (off % 8192).toNat ∧ O < 8192 := ⟨_, rfl, by omega⟩
  rw [← hF] at mF hfl
  rw [← hO] at mO hfl
  have hor : bits BinOp.or IntKind.i64 ((F : Int) * 8192) (O : Int) = ((F * 8192 + O : Nat) : Int) := by
    have := i64_or_nat (F * 8192) O (by omega) (by omega)
    rw [nat_join 13 (F * 8192) O (by omega) (by omega)] at this
    exact this
  obtain ⟨zf, hzf⟩ : ∃ zf, zf = F * 8192 + O := ⟨_, rfl⟩
  rw [← hzf] at hfl hor
  have hzl : zf < 65536 := by omega
  have HF := Lib.hid hfl
  have htt : Hid (ttl % 256 = ((u64n ttl % 256 : Nat) : Int)) := by show _ = _; unfold u64n; omega
  have hpr : Hid (proto % 256 = ((u64n proto % 256 : Nat) : Int)) := by show _ = _; unfold u64n; omega
  clear hok hF hO hzf hfl
  unfold Hd.vals
  dsimp only
  go_enter Try.func19, Try.ntmps19
  go_wp2_with fail
  rw [ht.out]
  have hq := (Blk.new w 24 #[.int .i64 ihl, .int .i64 tos, .int .i64 len, .int .i64 id, .int .i64 flags, .int .i64 off, .int .i64 ttl, .int .i64 proto, .int .i64 sum, .int .u32 (src : Int), .int .u32 (dst : Int)]).alloc (.cells #[.int .u8 69, .int .u8 ((u64n tos % 256 : Nat) : Int)] 5)
  have hB0 : Below w.heap.size w ((w.alloc (.cells #[.int .i64 ihl, .int .i64 tos, .int .i64 len, .int .i64 id, .int .i64 flags, .int .i64 off, .int .i64 ttl, .int .i64 proto, .int .i64 sum, .int .u32 (src : Int), .int .u32 (dst : Int)] 24)).alloc (.cells #[.int .u8 69, .int .u8 ((u64n tos % 256 : Nat) : Int)] 5)) := ((Below.refl _ _).alloc (Nat.le_refl _) _).alloc (by simp) _
  have hown0 : ((w.alloc (.cells #[.int .i64 ihl, .int .i64 tos, .int .i64 len, .int .i64 id, .int .i64 flags, .int .i64 off, .int .i64 ttl, .int .i64 proto, .int .i64 sum, .int .u32 (src : Int), .int .u32 (dst : Int)] 24)).alloc (.cells #[.int .u8 69, .int .u8 ((u64n tos % 256 : Nat) : Int)] 5)).ownsRow (w.heap.size + 1) 5 1 (.slice (some ⟨w.heap.size + 1, 0, none⟩) 2 2) 2 (bv [69, u64n tos % 256]) :=
    lit_own (cs := #[.int .u8 69, .int .u8 ((u64n tos % 256 : Nat) : Int)]) (Blk.new_ (by simp)) (Nat.le_refl _) (by decide) rfl rfl
  obtain ⟨q, hqq⟩ : ∃ q, q = w.heap.size := ⟨_, rfl⟩
  have hsz : ((w.alloc (.cells #[.int .i64 ihl, .int .i64 tos, .int .i64 len, .int .i64 id, .int .i64 flags, .int .i64 off, .int .i64 ttl, .int .i64 proto, .int .i64 sum, .int .u32 (src : Int), .int .u32 (dst : Int)] 24)).alloc (.cells #[.int .u8 69, .int .u8 ((u64n tos % 256 : Nat) : Int)] 5)).heap.size = q + 2 := by simp [hqq]
  rw [← hqq] at hq hown0 ⊢
  generalize (w.alloc (.cells #[.int .i64 ihl, .int .i64 tos, .int .i64 len, .int .i64 id, .int .i64 flags, .int .i64 off, .int .i64 ttl, .int .i64 proto, .int .i64 sum, .int .u32 (src : Int), .int .u32 (dst : Int)] 24)).alloc (.cells #[.int .u8 69, .int .u8 ((u64n tos % 256 : Nat) : Int)] 5) = v0 at *
  have HQ := Lib.hid hqq
  have HS := Lib.hid hsz
  have hszl : q + 2 ≤ v0.heap.size := by omega
  clear hqq hsz
  have hc2 := hq.cell 2
  have hc3 := hq.cell 3
  simp only [List.getElem?_toArray, List.getElem?_cons_zero, List.getElem?_cons_succ] at hc2 hc3
  go_cut [3] (fun v wx => Row v0 wx (q + 1) v 6 ([69, u64n tos % 256] ++ [u64n len / 256 % 256, u64n len % 256] ++ [u64n id / 256 % 256, u64n id % 256]))
  case first =>
    have hd0 : v0.drew.ownsRow (q + 1) 5 1 (.slice (some ⟨q + 1, 0, none⟩) 2 2) 2 (bv [69, u64n tos % 256]) := hown0
    have hall2 : ∀ o, (v0.alloc o).drew.cell? ⟨q, 2, none⟩ = some (.int .i64 len) := fun o => (hq.alloc o).drew.cell 2
    have hall3 : ∀ o, (v0.alloc o).drew.cell? ⟨q, 3, none⟩ = some (.int .i64 id) := fun o => (hq.alloc o).drew.cell 3
    go_region_law (first
      | (go_simp; go_at_call 45; (with_reducible refine (u16ref_any len _ klen).mono ?_); rintro e w' ⟨rfl, rfl⟩; first | (have _t := tok2; have tok21 : True := trivial; clear _t tok2) | (have tok1 : True := trivial))
      | (go_simp; go_at_call 45; (with_reducible refine (u16ref_any id _ kid).mono ?_); rintro e w' ⟨rfl, rfl⟩; first | (have _t := tok1; have tok12 : True := trivial; clear _t tok1) | (have tok2 : True := trivial))
      | (have _t := tok1; clear _t tok1; go_loud (refine step_append_b rfl (.tmp 9) (.tmp 12) _ rfl 5 infoB Try.underlying25 (q + 1) (.slice (some ⟨q + 1, 0, none⟩) 2 2) 2 ([69, u64n tos % 256]) (by simp [Act.eval, Act.put]) (own_drew (hown0.alloc _)) _ (some ⟨v0.heap.size, 0, none⟩) 2 2 ([u64n len / 256 % 256, u64n len % 256]) (by simp [Act.eval, Act.put]) ((reads_new _ _ _ _ 2 _ _ (by rfl) (by rfl) (by simp) _ (by simp [bv])).drew) 4 rfl (by omega) (by simp; omega) ?_; intro A1 c1 w1 hown1 hb1 hg1 hat1; have tokA : True := trivial; have hBy := (((Below.refl (q + 1) v0).alloc (by omega) _).drew.trans hb1); have hq1 := hq.below hBy (Nat.lt_succ_self q); have hk3 := hq1.cell 3; simp only [List.getElem?_toArray, List.getElem?_cons_zero, List.getElem?_cons_succ] at hk3))
      | (have _t := tok12; clear _t tok12; refine step_append_b rfl (.tmp 9) (.tmp 12) _ rfl 5 infoB Try.underlying25 (q + 1) (.slice (some ⟨q + 1, 0, none⟩) 2 2) 2 ([69, u64n tos % 256]) (by simp [Act.eval, Act.put]) (own_drew ((hown0.alloc _).alloc _)) _ (some ⟨v0.heap.size, 0, none⟩) 2 2 ([u64n len / 256 % 256, u64n len % 256]) (by simp [Act.eval, Act.put]) (((reads_new _ _ _ _ 2 _ _ (by rfl) (by rfl) (by simp) _ (by simp [bv])).alloc (by simp) _).drew) 4 rfl (by omega) (by simp; omega) ?_; intro A1 c1 w1 hown1 hb1 hg1 hat1; have tokB : True := trivial; have hBy := ((((Below.refl (q + 1) v0).alloc (by omega) _).alloc (by simp; omega) _).drew.trans hb1); have hbB := (Blk.drew (Blk.new_ (w := v0.alloc (.cells #[.int .u8 ((u64n len / 256 % 256 : Nat) : Int), .int .u8 ((u64n len % 256 : Nat) : Int)] 5)) (g := v0.heap.size + 1) (t := 5) (cs := #[.int .u8 ((u64n id / 256 % 256 : Nat) : Int), .int .u8 ((u64n id % 256 : Nat) : Int)]) (by simp))).grown hg1 (by intro h; cases h; omega))
      | (have _t := tok21; clear _t tok21; refine step_append_b rfl (.tmp 9) (.tmp 12) _ rfl 5 infoB Try.underlying25 (q + 1) (.slice (some ⟨q + 1, 0, none⟩) 2 2) 2 ([69, u64n tos % 256]) (by simp [Act.eval, Act.put]) (own_drew ((hown0.alloc _).alloc _)) _ (some ⟨v0.heap.size + 1, 0, none⟩) 2 2 ([u64n len / 256 % 256, u64n len % 256]) (by simp [Act.eval, Act.put]) ((reads_new _ _ _ _ 2 _ _ (by rfl) (by rfl) (by simp) _ (by simp [bv])).drew) 4 rfl (by omega) (by simp; omega) ?_; intro A1 c1 w1 hown1 hb1 hg1 hat1; have tokC : True := trivial; have hBy := ((((Below.refl (q + 1) v0).alloc (by omega) _).alloc (by simp; omega) _).drew.trans hb1); have hbC := (Blk.drew (Blk.alloc (Blk.new_ (w := v0) (g := v0.heap.size) (t := 5) (cs := #[.int .u8 ((u64n id / 256 % 256 : Nat) : Int), .int .u8 ((u64n id % 256 : Nat) : Int)]) rfl) _)).grown hg1 (by intro h; cases h; omega))
      | (have _t := tokA; clear _t tokA; refine step_append_b rfl (.tmp 13) (.tmp 16) _ rfl 5 infoB Try.underlying25 (q + 1) (.slice A1 4 c1) 4 ([69, u64n tos % 256] ++ [u64n len / 256 % 256, u64n len % 256]) (by simp [Act.eval, Act.put]) (hown1.alloc _) _ (some ⟨w1.heap.size, 0, none⟩) 2 2 ([u64n id / 256 % 256, u64n id % 256]) (by simp [Act.eval, Act.put]) (reads_new _ _ _ _ 2 _ _ (by rfl) (by rfl) (by simp) _ (by simp [bv])) 6 rfl (by omega) (by have := hBy.size; simp; omega) ?_; intro A2 c2 w2 hown2 hb2 hg2 hat2; have hBz := (hBy.alloc (by have := hBy.size; omega) _).trans hb2)
      | (have _t := tokB; clear _t tokB; refine step_append_b rfl (.tmp 13) (.tmp 16) _ rfl 5 infoB Try.underlying25 (q + 1) (.slice A1 4 c1) 4 ([69, u64n tos % 256] ++ [u64n len / 256 % 256, u64n len % 256]) (by simp [Act.eval, Act.put]) (hown1) _ (some ⟨v0.heap.size + 1, 0, none⟩) 2 2 ([u64n id / 256 % 256, u64n id % 256]) (by simp [Act.eval, Act.put]) (reads_blk hbB (by rfl) (Nat.lt_succ_self _) (by rfl)) 6 rfl (by omega) (by have := hBy.size; omega) ?_; intro A2 c2 w2 hown2 hb2 hg2 hat2; have hBz := hBy.trans hb2)
      | (have _t := tokC; clear _t tokC; refine step_append_b rfl (.tmp 13) (.tmp 16) _ rfl 5 infoB Try.underlying25 (q + 1) (.slice A1 4 c1) 4 ([69, u64n tos % 256] ++ [u64n len / 256 % 256, u64n len % 256]) (by simp [Act.eval, Act.put]) (hown1) _ (some ⟨v0.heap.size, 0, none⟩) 2 2 ([u64n id / 256 % 256, u64n id % 256]) (by simp [Act.eval, Act.put]) (reads_blk hbC (by rfl) (Nat.lt_succ_self _) (by rfl)) 6 rfl (by omega) (by have := hBy.size; omega) ?_; intro A2 c2 w2 hown2 hb2 hg2 hat2; have hBz := hBy.trans hb2))
    all_goals
      go_wp2_with fail
      go_meet
      obtain ⟨g2, hA2, _, _⟩ := own_head hown2 (by omega)
      subst hA2
      exact ⟨g2, c2, rfl, hown2, hBz⟩
  case rest =>
    obtain ⟨g2, c2, rfl, hown2, hB2⟩ := hcut
    have hq2 := hq.below hB2 (Nat.lt_succ_self q)
    have hs2 := hB2.size
    clear hc2 hc3 hown0 hq
    have hc4 := hq2.cell 4
    have hc5 := hq2.cell 5
    simp only [List.getElem?_toArray, List.getElem?_cons_zero, List.getElem?_cons_succ] at hc4 hc5
    go_wp2_with fail
    refine (u16ref_any (zf : Int) wc (by omega)).mono ?_
    rintro e w3 ⟨rfl, hw3⟩
    rw [u64n_cast' zf hzl] at hw3
    subst hw3
    go_wp2_with (at_builtin; refine stop_ ?_)
    refine on_ ?_
    refine wpList_append_b rfl (.tmp 18) (.tmp 27) _ rfl 5 infoB Try.underlying25 (q + 1) (.slice (some ⟨g2, 0, none⟩) 6 c2) 6 _ rfl (hown2.alloc _) _ (some ⟨wc.heap.size, 0, none⟩) 2 2 [zf / 256 % 256, zf % 256] rfl (reads_new _ _ _ _ 2 _ _ (by rfl) (by rfl) (by rfl) _ (by rfl)) 8 rfl (by omega) (by simp; omega) ?_
    intro A3 c3 w3 hown3 hb3 _ _
    have hB3 := (hB2.alloc (by omega) _).trans hb3
    have hq3 := hq2.below ((Below.refl _ _).alloc (Nat.le_refl _) (.cells #[.int .u8 ((zf / 256 % 256 : Nat) : Int), .int .u8 ((zf % 256 : Nat) : Int)] 5)) hq2.lt
    have hq3 := hq3.below hb3 (Nat.lt_succ_self q)
    clear hown2 hb3 hc4 hc5 hq2 mF mO hor
    have hs3 := hB3.size
    have hc6 := hq3.cell 6
    have hc7 := hq3.cell 7
    simp only [List.getElem?_toArray, List.getElem?_cons_zero, List.getElem?_cons_succ] at hc6 hc7
    go_wp2_with (at_builtin; refine stop_ ?_)
    refine on_ ?_
    rw [htt.out, hpr.out]
    refine wpList_append_b rfl (.tmp 29) (.tmp 36) _ rfl 5 infoB Try.underlying25 (q + 1) (.slice A3 8 c3) 8 _ rfl (hown3.alloc _) _ (some ⟨w3.heap.size, 0, none⟩) 4 4 [u64n ttl % 256, u64n proto % 256, 0, 0] rfl (reads_new _ _ _ _ 4 _ _ (by rfl) (by rfl) (by rfl) _ (by rfl)) 12 rfl (by omega) (by simp; omega) ?_
    intro A4 c4 w4 hown4 hb4 _ _
    have hB4 := (hB3.alloc (by omega) _).trans hb4
    have hq4 := hq3.below ((Below.refl _ _).alloc (Nat.le_refl _) (.cells #[.int .u8 ((u64n ttl % 256 : Nat) : Int), .int .u8 ((u64n proto % 256 : Nat) : Int), .int .u8 0, .int .u8 0] 5)) hq3.lt
    have hq4 := hq4.below hb4 (Nat.lt_succ_self q)
    clear hown3 hb4 hc6 hc7 hq3
    have hs4 := hB4.size
    obtain ⟨g4, hA4, _, hg4⟩ := own_head hown4 (by omega)
    subst hA4
    have hc9 := hq4.cell 9
    have hc10 := hq4.cell 10
    simp only [List.getElem?_toArray, List.getElem?_cons_zero, List.getElem?_cons_succ] at hc9 hc10
    go_wp2_with fail
    obtain ⟨Lp, hLp⟩ : ∃ Lp, Lp = [69, u64n tos % 256] ++ [u64n len / 256 % 256, u64n len % 256] ++ [u64n id / 256 % 256, u64n id % 256] ++ [zf / 256 % 256, zf % 256] ++ [u64n ttl % 256, u64n proto % 256, 0, 0] := ⟨_, rfl⟩
    rw [← hLp] at hown4
    have HLP := Lib.hid hLp
    have HB4 := Lib.hid hB4
    have hq4l := hq4.lt
    clear hLp hB4 hB3 hB2 hs2 hs3
    go_cut [3] (fun v wx => Row w4 wx (q + 1) v 20 (Lp ++ [src / 16777216 % 256, src / 65536 % 256, src / 256 % 256, src % 256] ++ [dst / 16777216 % 256, dst / 65536 % 256, dst / 256 % 256, dst % 256]))
    case first =>
      have hall9 : ∀ o, (w4.alloc o).drew.cell? ⟨q, 9, none⟩ = some (.int .u32 (src : Int)) := fun o => (hq4.alloc o).drew.cell 9
      have hall10 : ∀ o, (w4.alloc o).drew.cell? ⟨q, 10, none⟩ = some (.int .u32 (dst : Int)) := fun o => (hq4.alloc o).drew.cell 10
      go_region_law (first
        | (go_simp; go_at_call 46; (with_reducible refine (u32ref_any src _ ksrc).mono ?_); rintro e w' ⟨rfl, rfl⟩; first | (have _t := tok2; have tok21 : True := trivial; clear _t tok2) | (have tok1 : True := trivial))
        | (go_simp; go_at_call 46; (with_reducible refine (u32ref_any dst _ kdst).mono ?_); rintro e w' ⟨rfl, rfl⟩; first | (have _t := tok1; have tok12 : True := trivial; clear _t tok1) | (have tok2 : True := trivial))
        | (have _t := tok1; clear _t tok1; refine step_append_b rfl (.tmp 38) (.tmp 41) _ rfl 5 infoB Try.underlying25 (q + 1) (.slice (some ⟨g4, 0, none⟩) 12 c4) 12 (Lp) (by simp [Act.eval, Act.put]) (own_drew (hown4.alloc _)) _ (some ⟨w4.heap.size, 0, none⟩) 4 4 ([src / 16777216 % 256, src / 65536 % 256, src / 256 % 256, src % 256]) (by simp [Act.eval, Act.put]) ((reads_new _ _ _ _ 4 _ _ (by rfl) (by rfl) (by simp) _ (by simp [bv])).drew) 16 rfl (by omega) (by simp; omega) ?_; intro A5 c5 w5 hown5 hb5 hg5 hat5; have tokA : True := trivial; have hBy := ((Below.refl (q + 1) w4).alloc (by omega) _).drew.trans hb5; have hq5 := hq4.below hBy (Nat.lt_succ_self q); have hk10 := hq5.cell 10; simp only [List.getElem?_toArray, List.getElem?_cons_zero, List.getElem?_cons_succ] at hk10)
        | (have _t := tok12; clear _t tok12; refine step_append_b rfl (.tmp 38) (.tmp 41) _ rfl 5 infoB Try.underlying25 (q + 1) (.slice (some ⟨g4, 0, none⟩) 12 c4) 12 (Lp) (by simp [Act.eval, Act.put]) (own_drew ((hown4.alloc _).alloc _)) _ (some ⟨w4.heap.size, 0, none⟩) 4 4 ([src / 16777216 % 256, src / 65536 % 256, src / 256 % 256, src % 256]) (by simp [Act.eval, Act.put]) (((reads_new _ _ _ _ 4 _ _ (by rfl) (by rfl) (by simp) _ (by simp [bv])).alloc (by simp) _).drew) 16 rfl (by omega) (by simp; omega) ?_; intro A5 c5 w5 hown5 hb5 hg5 hat5; have tokB : True := trivial; have hBy := (((Below.refl (q + 1) w4).alloc (by omega) _).alloc (by simp; omega) _).drew.trans hb5; have hbB := (Blk.drew (Blk.new_ (w := w4.alloc (.cells #[.int .u8 ((src / 16777216 % 256 : Nat) : Int), .int .u8 ((src / 65536 % 256 : Nat) : Int), .int .u8 ((src / 256 % 256 : Nat) : Int), .int .u8 ((src % 256 : Nat) : Int)] 5)) (g := w4.heap.size + 1) (t := 5) (cs := #[.int .u8 ((dst / 16777216 % 256 : Nat) : Int), .int .u8 ((dst / 65536 % 256 : Nat) : Int), .int .u8 ((dst / 256 % 256 : Nat) : Int), .int .u8 ((dst % 256 : Nat) : Int)]) (by simp))).grown hg5 (by intro h; cases h; omega))
        | (have _t := tok21; clear _t tok21; refine step_append_b rfl (.tmp 38) (.tmp 41) _ rfl 5 infoB Try.underlying25 (q + 1) (.slice (some ⟨g4, 0, none⟩) 12 c4) 12 (Lp) (by simp [Act.eval, Act.put]) (own_drew ((hown4.alloc _).alloc _)) _ (some ⟨w4.heap.size + 1, 0, none⟩) 4 4 ([src / 16777216 % 256, src / 65536 % 256, src / 256 % 256, src % 256]) (by simp [Act.eval, Act.put]) ((reads_new _ _ _ _ 4 _ _ (by rfl) (by rfl) (by simp) _ (by simp [bv])).drew) 16 rfl (by omega) (by simp; omega) ?_; intro A5 c5 w5 hown5 hb5 hg5 hat5; have tokC : True := trivial; have hBy := (((Below.refl (q + 1) w4).alloc (by omega) _).alloc (by simp; omega) _).drew.trans hb5; have hbC := (Blk.drew (Blk.alloc (Blk.new_ (w := w4) (g := w4.heap.size) (t := 5) (cs := #[.int .u8 ((dst / 16777216 % 256 : Nat) : Int), .int .u8 ((dst / 65536 % 256 : Nat) : Int), .int .u8 ((dst / 256 % 256 : Nat) : Int), .int .u8 ((dst % 256 : Nat) : Int)]) rfl) _)).grown hg5 (by intro h; cases h; omega))
        | (have _t := tokA; clear _t tokA; refine step_append_b rfl (.tmp 42) (.tmp 45) _ rfl 5 infoB Try.underlying25 (q + 1) (.slice A5 16 c5) 16 (Lp ++ [src / 16777216 % 256, src / 65536 % 256, src / 256 % 256, src % 256]) (by simp [Act.eval, Act.put]) (hown5.alloc _) _ (some ⟨w5.heap.size, 0, none⟩) 4 4 ([dst / 16777216 % 256, dst / 65536 % 256, dst / 256 % 256, dst % 256]) (by simp [Act.eval, Act.put]) (reads_new _ _ _ _ 4 _ _ (by rfl) (by rfl) (by simp) _ (by simp [bv])) 20 rfl (by omega) (by have := hBy.size; simp; omega) ?_; intro A6 c6 w6 hown6 hb6 hg6 hat6; have hBz := (hBy.alloc (by have := hBy.size; omega) _).trans hb6)
        | (have _t := tokB; clear _t tokB; refine step_append_b rfl (.tmp 42) (.tmp 45) _ rfl 5 infoB Try.underlying25 (q + 1) (.slice A5 16 c5) 16 (Lp ++ [src / 16777216 % 256, src / 65536 % 256, src / 256 % 256, src % 256]) (by simp [Act.eval, Act.put]) (hown5) _ (some ⟨w4.heap.size + 1, 0, none⟩) 4 4 ([dst / 16777216 % 256, dst / 65536 % 256, dst / 256 % 256, dst % 256]) (by simp [Act.eval, Act.put]) (reads_blk hbB (by rfl) (Nat.lt_succ_self _) (by rfl)) 20 rfl (by omega) (by have := hBy.size; omega) ?_; intro A6 c6 w6 hown6 hb6 hg6 hat6; have hBz := hBy.trans hb6)
        | (have _t := tokC; clear _t tokC; refine step_append_b rfl (.tmp 42) (.tmp 45) _ rfl 5 infoB Try.underlying25 (q + 1) (.slice A5 16 c5) 16 (Lp ++ [src / 16777216 % 256, src / 65536 % 256, src / 256 % 256, src % 256]) (by simp [Act.eval, Act.put]) (hown5) _ (some ⟨w4.heap.size, 0, none⟩) 4 4 ([dst / 16777216 % 256, dst / 65536 % 256, dst / 256 % 256, dst % 256]) (by simp [Act.eval, Act.put]) (reads_blk hbC (by rfl) (Nat.lt_succ_self _) (by rfl)) 20 rfl (by omega) (by have := hBy.size; omega) ?_; intro A6 c6 w6 hown6 hb6 hg6 hat6; have hBz := hBy.trans hb6))
      all_goals
        go_wp2_with fail
        go_meet
        obtain ⟨g6, hA6, _, _⟩ := own_head hown6 (by omega)
        subst hA6
        exact ⟨g6, c6, rfl, hown6, hBz⟩
    case rest =>
      obtain ⟨g6, c6, rfl, hown6, hB6'⟩ := hcut
      have hB6 := HB4.out.trans hB6'
      have hs6 := hB6.size
      obtain ⟨Lq, hLq⟩ : ∃ Lq, Lq = Lp ++ [src / 16777216 % 256, src / 65536 % 256, src / 256 % 256, src % 256] ++ [dst / 16777216 % 256, dst / 65536 % 256, dst / 256 % 256, dst % 256] := ⟨_, rfl⟩
      have HE : Hid (Lq = headB ⟨ihl, tos, len, id, flags, off, ttl, proto, sum, src, dst⟩ 0) := by
        show _ = _
        rw [hLq, HLP.out, hHB.out, HF.out]
        rfl
      rw [← hLq] at hown6
      have hLl : Lq.length = 20 := by rw [HE.out]; exact headB_length _ _
      have hLa : AllB Lq := by rw [HE.out]; exact headB_all _ _
      have CN := Lib.hid (R1.net_any wc wc.heap.size (some ⟨g6, 0, none⟩) 20 c6 Lq (Reads.of_own hown6) (by omega) hLa)
      obtain ⟨z, hz⟩ : ∃ z, z = netN Lq := ⟨_, rfl⟩
      have hzl : z < 65536 := by rw [hz]; exact netN_lt _
      rw [← hz] at CN
      have HFin : Hid ((Lq.set 10 (z / 256)).set 11 (z % 256) = buildB ⟨ihl, tos, len, id, flags, off, ttl, proto, sum, src, dst⟩) := by
        show _ = _
        unfold buildB
        rw [← HE.out, ← hz, HE.out, hHB.out, hHB.out]
        have e1 : z / 256 % 256 = z / 256 := by omega
        rw [e1]
        rfl
      have hcx := ownb_cell hown6 10 (by omega) (by omega)
      have hcy := ownb_cell hown6 11 (by omega) (by omega)
      have hfx := hown6.frozenAt 10
      have hfy := hown6.frozenAt 11
      have hst := ownb_store (ownb_store hown6 10 (z / 256)) 11 (z % 256)
      rw [HFin.out] at hst
      have e256 : ((256 : Nat) : Int) = 256 := rfl
      simp only [Int.natCast_ediv, Int.natCast_emod, e256] at hst
      clear e256
      have HST := Lib.hid hst
      have hg6 : q + 1 ≤ g6 := (hown6.lt g6 rfl).1
      have hBq : Below q v0 wc := hB6.mono (by omega)
      generalize Lq[10] = o10 at hcx
      generalize Lq[11] = o11 at hcy
      clear hst hown6 hLa hLq hz hB6' hq4
      go_wp2_with fail
      refine CN.out.mono ?_
      rintro e w' ⟨rfl, rfl⟩
      clear CN
      go_wp2_with fail
      go_ret
      refine ⟨_, _, rfl, own_lower HST.out (by rw [← HQ.out]; omega), ?_⟩
      have h1 := hB0.trans (hBq.mono (by rw [HQ.out]; exact Nat.le_refl _))
      exact (h1.setCell (p := ⟨g6, 10, none⟩) (by rw [← HQ.out]; show q ≤ g6; omega) _).setCell (p := ⟨g6, 11, none⟩) (by rw [← HQ.out]; show q ≤ g6; omega) _
end Go.Proofs.Ytpgbldpppdmdoaa
