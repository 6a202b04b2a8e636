import Derived.Laws.BitsLemmas
import Derived.Deep.CutBlock
import Derived.Test.YtgjnoccflmjheaaGreatDoorQ02
namespace Go.Proofs.YtgjnoccflmjheaaGreatDoor
set_option linter.unusedVariables false
set_option linter.unusedSimpArgs false
set_option maxHeartbeats 8000000
set_option maxRecDepth 100000
open Value renaming int→X,slice→G,pointer→PT,bool→bL,agg→aG,tuple→tU
open Obj renaming cells→cL
open Ending renaming returned→rT
open Go.Proofs.Tryz
open Go.Proofs.Tryz renaming prog→Pg
open RowKit.Below renaming refl→bR
open IntKind renaming i64→Y,u32→Z
open List renaming getElem?_toArray→ga,getElem?_cons_zero→gz,getElem?_cons_succ→gN
open Lib renaming hid→jH
open Nat renaming le_refl→nR,le_trans→nT,le_succ→nS
open And renaming intro→aI
section
open Go.RowKit
theorem Fr.low_ {K:List TypeId}{M:List Nat}{base:Nat}{a w w':World}(h:Fr K M base a w)(k:Below a.heap.size w w')(hb:base≤a.heap.size):Fr K M base a w':=
 ⟨h.below.trans (k.mono hb),fun g t cs h0 h1=>(k.block g h0.lt).trans (h.blk g t cs h0 h1),fun b es c h0 h1=>(k.block b (Array.getElem?_eq_some_iff.1 h0).1).trans (h.map b es c h0 h1)⟩
theorem sopen_ok (base d mn ms size Q ops f1 f2 s V sp sf:Nat)(L:List Nat)(fs:List (Nat×List Nat))(J:Nat→World→Prop)(w:World)
  (hD:DiskAt w base d mn ms (diskL Q ops f1 f2 L s V))(hL:L=logB V fs)(hok:FrOk fs)(h1:1≤V)(h3:V≤3)(hs1:16≤size)(hs2:size≤1048576)(hne:f1≠f2)(hops:ops≤800000000000)(hsfn:mn≠sf)(hsfs:ms≠sf)
  (hJ0:J 0 w)(hJb:∀j W W',J j W→Below W.heap.size W W'→J j W')(hJf:∀j W W',J j W→Fr (3::KD) [mn] base W W'→J j W')
  (hstep:∀(j k:Nat) (l:List Nat) (A1:Option Addr) (c1:Nat) (W:World),fs[j]? =some (k,l)→J j W→Reads W W.heap.size 1 A1 l.length (bv l)→(A1=none→c1=0)→
   Calls Pg 99 #[aG #[PT (some ⟨sp,0,none⟩)],aG #[X Y k,X Y V,G A1 l.length c1]] W fun e W'=>e=rT (X Y 0)∧J (j + 1) W'∧Fr [192] [sf] base W W'):
  Calls Pg 98 #[PT (some ⟨d,0,none⟩),X Y size,.func (.func 99) #[aG #[PT (some ⟨sp,0,none⟩)]] #[]] w fun e w'=>∃lg ms',e=rT (tU #[PT (some ⟨lg,0,none⟩),X Y 0])∧J fs.length w'∧w.heap.size≤ms'∧w.heap.size≤lg∧DiskAt w' base d mn ms' (diskL Q (ops + 2) f1 f2 L L.length V)∧LogAt w' base lg d size V 2 [1] false∧Fr (192::KD) [mn,sf] base w w':=by
 have HLL:=jH hL
 clear hL
 obtain⟨q,hq⟩:∃q,q=w.heap.size:=⟨_,rfl⟩
 have hb0:Below w.heap.size w (w.alloc (cL #[PT (some ⟨d,0,none⟩)] 63)):=(bR _ _).alloc (nR _) _
 have hx0:Blk (w.alloc (cL #[PT (some ⟨d,0,none⟩)] 63)) q 63 #[PT (some ⟨d,0,none⟩)]:=hq▸Blk.new w _ _
 have x0:=hx0.c1
 have hbase:=hD.hi
 have H1:=jH (aI (hD.made hb0) (aI (hJb 0 w _ hJ0 hb0) (aI hb0 (aI hx0 hbase))))
 clear hD hJ0 hb0 hx0 hbase
 go_enter func98,ntmps98
 go_wp2_with fail
 rw[←hq]
 have HE:=jH hq
 clear hq
 generalize (w.alloc (cL #[PT (some ⟨d,0,none⟩)] 63))=w1 at *
 have CR:=jH (read_disk base d mn ms (diskL Q ops f1 f2 L s V) ⟨#[109]⟩ w1 H1.out.1 (by show (⟨#[109]⟩:ByteArray).size≤4096;decide))
 have hrd:readP (diskL Q ops f1 f2 L s V) ⟨#[109]⟩=some (manB V 2 [1]):=by
  have h2:mget (diskL Q ops f1 f2 L s V).now (⟨#[109]⟩:ByteArray)=some f2:=by unfold diskL;rw[mget_cons,if_neg s1_ne_hd,mget_cons,if_pos rfl]
  unfold readP
  rw[h2,Option.map_some,fileOf_some (diskL_file2 hne)]
 rw[hrd] at CR
 refine CR.out.mono ?_
 rintro e w2 ⟨⟨A,c,rfl,hown,-,-⟩,hb2⟩
 have H2:Hid (DiskAt w2 base d mn ms (diskL Q ops f1 f2 L s V)∧J 0 w2∧Below w.heap.size w w2∧Blk w2 q 63 #[PT (some ⟨d,0,none⟩)]∧base≤w.heap.size):=by
  obtain⟨g1,g2,g3,g4,g5⟩:=H1.out
  exact⟨g1.made hb2,hJb _ _ _ g2 hb2,g3.trans (hb2.mono g3.size),g4.below hb2 g4.lt,g5⟩
 have HO:=jH hown
 clear hown hb2 CR H1 hrd x0
 go_wp2_with fail
 refine(mdec_ok V 2 [1] A _ c w2.heap.size w2 (mok1 V h1 h3) (Reads.of_own HO.out) (nR _) (own_capp HO.out).1).mono ?_
 rintro e w3 ⟨A4,c4,rfl,hown4,hb3⟩
 obtain⟨q10,hq10⟩:∃q10,q10=w3.heap.size:=⟨_,rfl⟩
 have H3:(fun Vv:World=>Hid (DiskAt Vv base d mn ms (diskL Q ops f1 f2 L s V)∧J 0 Vv∧Below w.heap.size w Vv∧Blk Vv q 63 #[PT (some ⟨d,0,none⟩)]∧base≤w.heap.size∧Blk Vv q10 259 #[X Y V,X Y 2,G A4 1 c4]∧Vv.ownsRow w.heap.size 3 1 (G A4 1 c4) 1 (nv [1]))) (w3.alloc (cL #[X Y V,X Y 2,G A4 1 c4] 259)):=by
  obtain⟨g1,g2,g3,g4,g5⟩:=H2.out
  have s2:=g3.size
  have e1:=(bR w3.heap.size w3).alloc (nR _) (cL #[X Y V,X Y 2,G A4 1 c4] 259)
  have hbb:Below w2.heap.size w2 (w3.alloc (cL #[X Y V,X Y 2,G A4 1 c4] 259)):=hb3.trans (e1.mono hb3.size)
  exact⟨g1.made hbb,hJb _ _ _ g2 hbb,g3.trans (hbb.mono s2),g4.below hbb g4.lt,g5,hq10▸Blk.new w3 _ _,own_base (own_below hown4 e1) s2⟩
 clear hown4 hb3 H2 HO
 go_upto_region 9 with fail
 rw[←hq10]
 clear hq10
 generalize (w3.alloc (cL #[X Y V,X Y 2,G A4 1 c4] 259))=w4 at *
 go_cut [12] from 13 (fun v12 wc=>∃q12 lg,v12=PT (some ⟨q12,0,none⟩)∧Hid (DiskAt wc base d mn ms (diskL Q ops f1 f2 L s V)∧J 0 wc∧Below w.heap.size w wc∧Blk wc q 63 #[PT (some ⟨d,0,none⟩)]∧base≤w.heap.size∧Blk wc q10 259 #[X Y V,X Y 2,G A4 1 c4]∧wc.ownsRow w.heap.size 3 1 (G A4 1 c4) 1 (nv [1])∧Blk wc q12 171 #[PT (some ⟨lg,0,none⟩)]∧Blk wc lg 265 #[PT (some ⟨d,0,none⟩),X Y size,X Y V,X Y 2,G A4 1 c4,bL false]∧w.heap.size≤lg))
 case first=>
  have CZ:=jH (sized_any size)
  have b0:=H3.out.2.2.2.1
  have b1:=H3.out.2.2.2.2.2.1
  have hlt:q≠w4.heap.size∧q10≠w4.heap.size:=⟨Nat.ne_of_lt b0.lt,Nat.ne_of_lt b1.lt⟩
  have opS:∀W,Blk W q 63 #[PT (some ⟨d,0,none⟩)]→Blk W q10 259 #[X Y V,X Y 2,G A4 1 c4]→(W.cell? ⟨q,0,none⟩=some (PT (some ⟨d,0,none⟩))∧W.cell? ⟨q10,0,none⟩=some (X Y V)∧W.cell? ⟨q10,1,none⟩=some (X Y 2)∧W.cell? ⟨q10,2,none⟩=some (G A4 1 c4)):=fun W g0 g1=>⟨g0.cell 0,g1.cell 0,g1.cell 1,g1.cell 2⟩
  have e0:=opS w4.drew b0.drew b1.drew
  have e1:=fun o=>opS (w4.alloc o).drew (b0.alloc o).drew (b1.alloc o).drew
  have e2:=fun o o2=>opS ((w4.alloc o).alloc o2).drew ((b0.alloc o).alloc o2).drew ((b1.alloc o).alloc o2).drew
  have e3:=fun o o2 u=>opS (((w4.alloc o).alloc o2).setCell ⟨w4.heap.size,0,none⟩ u).drew (((b0.alloc o).alloc o2).far (p:=⟨w4.heap.size,0,none⟩) hlt.1 u).drew (((b1.alloc o).alloc o2).far (p:=⟨w4.heap.size,0,none⟩) hlt.2 u).drew
  have hAll:∀W,Below w4.heap.size w4 W→DiskAt W base d mn ms (diskL Q ops f1 f2 L s V)∧J 0 W∧Below w.heap.size w W∧Blk W q 63 #[PT (some ⟨d,0,none⟩)]∧base≤w.heap.size∧Blk W q10 259 #[X Y V,X Y 2,G A4 1 c4]∧W.ownsRow w.heap.size 3 1 (G A4 1 c4) 1 (nv [1]):=by
   intro W hb
   obtain⟨g1,g2,g3,g4,g5,g6,g7⟩:=H3.out
   exact⟨g1.made hb,hJb _ _ _ g2 hb,g3.trans (hb.mono g3.size),g4.below hb g4.lt,g5,g6.below hb g6.lt,own_below g7 hb⟩
  have hwz:w.heap.size≤w4.heap.size:=H3.out.2.2.1.size
  have HA:(fun Vv:World=>Hid (DiskAt Vv.drew base d mn ms (diskL Q ops f1 f2 L s V)∧J 0 Vv.drew∧Below w.heap.size w Vv.drew∧Blk Vv.drew q 63 #[PT (some ⟨d,0,none⟩)]∧base≤w.heap.size∧Blk Vv.drew q10 259 #[X Y V,X Y 2,G A4 1 c4]∧Vv.drew.ownsRow w.heap.size 3 1 (G A4 1 c4) 1 (nv [1])∧Blk Vv.drew (w4.heap.size + 1) 171 #[PT (some ⟨w4.heap.size,0,none⟩)]∧Blk Vv.drew (w4.heap.size) 265 #[PT (some ⟨d,0,none⟩),X Y size,X Y V,X Y 2,G A4 1 c4,bL false]∧w.heap.size≤w4.heap.size)) ((w4.alloc (cL #[PT (some ⟨d,0,none⟩),X Y size,X Y V,X Y 2,G A4 1 c4,bL false] 265)).alloc (cL #[PT (some ⟨w4.heap.size,0,none⟩)] 171)):=by
   obtain⟨g1,g2,g3,g4,g5,g6,g7⟩:=hAll ((w4.alloc (cL #[PT (some ⟨d,0,none⟩),X Y size,X Y V,X Y 2,G A4 1 c4,bL false] 265)).alloc (cL #[PT (some ⟨w4.heap.size,0,none⟩)] 171)).drew (((bR _ w4).alloc (nR _) _).alloc (by simp) _).drew
   refine⟨g1,g2,g3,g4,g5,g6,g7,?_,(Blk.new w4 _ _).alloc _,hwz⟩
   have:=Blk.new (w4.alloc (cL #[PT (some ⟨d,0,none⟩),X Y size,X Y V,X Y 2,G A4 1 c4,bL false] 265)) 171 #[PT (some ⟨w4.heap.size,0,none⟩)]
   rw[World.size_alloc] at this
   exact this
  have HB:(fun Vv:World=>Hid (DiskAt Vv.drew base d mn ms (diskL Q ops f1 f2 L s V)∧J 0 Vv.drew∧Below w.heap.size w Vv.drew∧Blk Vv.drew q 63 #[PT (some ⟨d,0,none⟩)]∧base≤w.heap.size∧Blk Vv.drew q10 259 #[X Y V,X Y 2,G A4 1 c4]∧Vv.drew.ownsRow w.heap.size 3 1 (G A4 1 c4) 1 (nv [1])∧Blk Vv.drew (w4.heap.size) 171 #[PT (some ⟨w4.heap.size + 1,0,none⟩)]∧Blk Vv.drew (w4.heap.size + 1) 265 #[PT (some ⟨d,0,none⟩),X Y size,X Y V,X Y 2,G A4 1 c4,bL false]∧w.heap.size≤w4.heap.size + 1)) ((w4.alloc (cL #[PT (some ⟨w4.heap.size + 1,0,none⟩)] 171)).alloc (cL #[PT (some ⟨d,0,none⟩),X Y size,X Y V,X Y 2,G A4 1 c4,bL false] 265)):=by
   obtain⟨g1,g2,g3,g4,g5,g6,g7⟩:=hAll ((w4.alloc (cL #[PT (some ⟨w4.heap.size + 1,0,none⟩)] 171)).alloc (cL #[PT (some ⟨d,0,none⟩),X Y size,X Y V,X Y 2,G A4 1 c4,bL false] 265)).drew (((bR _ w4).alloc (nR _) _).alloc (by simp) _).drew
   refine⟨g1,g2,g3,g4,g5,g6,g7,(Blk.new w4 _ _).alloc _,?_,by omega⟩
   have:=Blk.new (w4.alloc (cL #[PT (some ⟨w4.heap.size + 1,0,none⟩)] 171)) 265 #[PT (some ⟨d,0,none⟩),X Y size,X Y V,X Y 2,G A4 1 c4,bL false]
   rw[World.size_alloc] at this
   exact this
  clear hAll hwz
  clear b0 b1 opS
  go_region_held3 (fun wS=>wS.cell? ⟨q,0,none⟩=some (PT (some ⟨d,0,none⟩))∧wS.cell? ⟨q10,0,none⟩=some (X Y V)∧wS.cell? ⟨q10,1,none⟩=some (X Y 2)∧wS.cell? ⟨q10,2,none⟩=some (G A4 1 c4)) (first|with_reducible exact e0|with_reducible exact e1 _|with_reducible exact e2 _ _|with_reducible exact e3 _ _ _|fail)
   (first|(go_at_call 176;(with_reducible refine(CZ.out _ hs1 hs2).mono ?_);rintro e w5 ⟨rfl,rfl⟩))
  all_goals
   clear e0 e1 e2 e3 CZ
   go_wp2_with fail
   go_meet
   first
    |exact⟨w4.heap.size + 1,w4.heap.size,rfl,HA⟩
    |exact⟨w4.heap.size,w4.heap.size + 1,rfl,HB⟩
 case rest=>
  clear H3
  obtain⟨q12,lg,rfl,H4⟩:=hcut
  obtain⟨q13,hq13⟩:∃q13,q13=wc.heap.size:=⟨_,rfl⟩
  have H5:(fun Vv:World=>Hid (DiskAt Vv base d mn ms (diskL Q ops f1 f2 L s V)∧J 0 Vv∧Below w.heap.size w Vv∧Blk Vv q 63 #[PT (some ⟨d,0,none⟩)]∧base≤w.heap.size∧Blk Vv q10 259 #[X Y V,X Y 2,G A4 1 c4]∧Vv.ownsRow w.heap.size 3 1 (G A4 1 c4) 1 (nv [1])∧Blk Vv q12 171 #[PT (some ⟨lg,0,none⟩)]∧Blk Vv lg 265 #[PT (some ⟨d,0,none⟩),X Y size,X Y V,X Y 2,G A4 1 c4,bL false]∧w.heap.size≤lg∧Blk Vv q13 3 #[X Y 0]∧(Value.slice A4 1 c4).ownBlock≠some q13∧w.heap.size≤q13)) (wc.alloc (cL #[X Y 0] 3)):=by
   obtain⟨g1,g2,g3,g4,g5,g6,g7,g8,g9,g10⟩:=H4.out
   have hb:Below wc.heap.size wc (wc.alloc (cL #[X Y 0] 3)):=(bR _ _).alloc (nR _) _
   exact⟨g1.made hb,hJb _ _ _ g2 hb,g3.trans (hb.mono g3.size),g4.alloc _,g5,g6.alloc _,own_below g7 hb,g8.alloc _,g9.alloc _,g10,hq13▸Blk.new wc _ _,fun e=>by have:=(g7.lt q13 e).2;omega,by have:=g3.size;omega⟩
  clear H4
  have x0:=H5.out.2.2.2.1.c1
  obtain⟨y0,y1,y2⟩:=H5.out.2.2.2.2.2.1.c3
  go_wp2_with fail
  rw[←hq13]
  clear hq13
  generalize (wc.alloc (cL #[X Y 0] 3))=w5 at *
  refine wp_loop_rounds 2 ?_
  rw[rounds_succ]
  go_wp2_with fail
  refine(sscan_ok base d mn ms f1 V 2 sp (diskL Q ops f1 f2 L s V) ⟨L,s⟩ fs A4 c4 w5.heap.size [192] [sf] J w5 H5.out.1 diskL_now diskL_file HLL.out hok (by omega) (Reads.of_own H5.out.2.2.2.2.2.2.1) (nR _) (by decide) (by decide) (by decide) H5.out.2.1 hJb hstep).mono ?_
  rintro e w6 ⟨rfl,hJ6,hf6⟩
  dsimp only
  have b13:=hf6.blk _ _ _ H5.out.2.2.2.2.2.2.2.2.2.2.1 (by decide)
  have z13:=b13.frozen 0
  have y13:=b13.cell 0
  have H6:(fun Vv:World=>Hid (DiskAt Vv base d mn ms (diskL Q ops f1 f2 L s V)∧J fs.length Vv∧Fr (192::KD) [mn,sf] base w Vv∧Blk Vv q 63 #[PT (some ⟨d,0,none⟩)]∧LogAt Vv base lg d size V 2 [1] false∧Blk Vv q12 171 #[PT (some ⟨lg,0,none⟩)]∧w.heap.size≤lg∧Blk Vv q13 3 #[X Y L.length])) (w6.setCell ⟨q13,0,none⟩ (X Y L.length)):=by
   obtain⟨g1,g2,g3,g4,g5,g6,g7,g8,g9,g10,g11,g12,hq13⟩:=H5.out
   have hfi:Fr [3] [] base w6 (w6.setCell ⟨q13,0,none⟩ (X Y L.length)):=(Fr.refl _ _ base w6).set_ b13 (by decide) (by omega) 0 _
   have hD6:=(g1.fr hf6 (by decide) (by decide) (by decide) (by decide) (by simpa using hsfn) (by simpa using hsfs)).fr hfi (by decide) (by decide) (by decide) (by decide) (by simp) (by simp)
   have hlow:Below w.heap.size w6 (w6.setCell ⟨q13,0,none⟩ (X Y L.length)):=(bR _ _).setCell (p:=⟨q13,0,none⟩) (by show w.heap.size≤q13;omega) _
   refine⟨hD6,hJf _ _ _ hJ6 (hfi.mono (by decide) (by simp)),?_,hfi.blk _ _ _ (hf6.blk _ _ _ g4 (by decide)) (by decide),⟨by omega,A4,c4,hfi.blk _ _ _ (hf6.blk _ _ _ g9 (by decide)) (by decide),?_⟩,hfi.blk _ _ _ (hf6.blk _ _ _ g8 (by decide)) (by decide),g10,b13.set_ 0 _⟩
   ·exact(((Fr.of_below _ _ g3 g5).trans (hf6.mono (by decide) (by simp))).low_ hlow g5)
   ·exact own_base ((hf6.own g7 (by decide)).kept (grown_set1 w6 q13 0 _) (.inr g12)) g5
  clear b13 hJ6 hf6 H5 x0 y0 y1 y2
  have x0:=H6.out.2.2.2.1.c1
  go_wp2_with fail
  rw[rounds_succ]
  go_wp2_with fail
  obtain⟨k1,hk1⟩:∃k1,k1=w6.heap.size:=⟨_,rfl⟩
  have hsz7:(w6.setCell ⟨q13,0,none⟩ (X Y L.length)).heap.size=k1:=by rw[hk1];simp
  rw[←hk1]
  generalize (w6.setCell ⟨q13,0,none⟩ (X Y L.length))=w7 at *
  have hg8:Blk (w7.alloc (cL #[.func (.func 192) #[] #[PT (some ⟨q13,0,none⟩),PT (some ⟨q12,0,none⟩),PT (some ⟨q,0,none⟩)],.func (.func 196) #[] #[PT (some ⟨q,0,none⟩),PT (some ⟨q12,0,none⟩)],.func (.func 197) #[PT (some ⟨d,0,none⟩)] #[]] 71)) k1 71 #[.func (.func 192) #[] #[PT (some ⟨q13,0,none⟩),PT (some ⟨q12,0,none⟩),PT (some ⟨q,0,none⟩)],.func (.func 196) #[] #[PT (some ⟨q,0,none⟩),PT (some ⟨q12,0,none⟩)],.func (.func 197) #[PT (some ⟨d,0,none⟩)] #[]]:=hsz7▸Blk.new w7 _ _
  have hb8:Below w7.heap.size w7 (w7.alloc (cL #[.func (.func 192) #[] #[PT (some ⟨q13,0,none⟩),PT (some ⟨q12,0,none⟩),PT (some ⟨q,0,none⟩)],.func (.func 196) #[] #[PT (some ⟨q,0,none⟩),PT (some ⟨q12,0,none⟩)],.func (.func 197) #[PT (some ⟨d,0,none⟩)] #[]] 71)):=(bR _ _).alloc (nR _) _
  have H8:(fun Vv:World=>Hid (DiskAt Vv base d mn ms (diskL Q ops f1 f2 L s V)∧J fs.length Vv∧Fr (192::KD) [mn,sf] base w Vv∧Blk Vv q 63 #[PT (some ⟨d,0,none⟩)]∧LogAt Vv base lg d size V 2 [1] false∧Blk Vv q12 171 #[PT (some ⟨lg,0,none⟩)]∧w.heap.size≤lg∧Blk Vv q13 3 #[X Y L.length])) (w7.alloc (cL #[.func (.func 192) #[] #[PT (some ⟨q13,0,none⟩),PT (some ⟨q12,0,none⟩),PT (some ⟨q,0,none⟩)],.func (.func 196) #[] #[PT (some ⟨q,0,none⟩),PT (some ⟨q12,0,none⟩)],.func (.func 197) #[PT (some ⟨d,0,none⟩)] #[]] 71)):=by
   obtain⟨g1,g2,g3,g4,g5,g6,g7,g8⟩:=H6.out
   exact⟨g1.made hb8,hJb _ _ _ g2 hb8,g3.made hb8 g1.hi,g4.alloc _,g5.made hb8,g6.alloc _,g7,g8.alloc _⟩
  clear H6 hb8 x0 z13 y13 hk1 hsz7
  generalize (w7.alloc (cL #[.func (.func 192) #[] #[PT (some ⟨q13,0,none⟩),PT (some ⟨q12,0,none⟩),PT (some ⟨q,0,none⟩)],.func (.func 196) #[] #[PT (some ⟨q,0,none⟩),PT (some ⟨q12,0,none⟩)],.func (.func 197) #[PT (some ⟨d,0,none⟩)] #[]] 71))=w8 at *
  refine(all_ok2 [(192,#[],#[PT (some ⟨q13,0,none⟩),PT (some ⟨q12,0,none⟩),PT (some ⟨q,0,none⟩)]),(196,#[],#[PT (some ⟨q,0,none⟩),PT (some ⟨q12,0,none⟩)]),(197,#[PT (some ⟨d,0,none⟩)],#[])] (some ⟨k1,0,none⟩) 3 3 (k1 + 1)
   (fun i W=>Fr KD [mn] base w8 W∧match i with
    |0=>DiskAt W base d mn ms (diskL Q ops f1 f2 L s V)
    |1=>DiskAt W base d mn ms (diskL Q ops f1 f2 L s V)
    |2=>DiskAt W base d mn ms (diskL Q (ops + 1) f1 f2 L L.length V)
    |_=>∃ms',w8.heap.size≤ms'∧DiskAt W base d mn ms' (diskL Q (ops + 2) f1 f2 L L.length V)) w8 rfl (by omega)
   (fun p hp=>by
    rcases List.mem_cons.1 hp with rfl|hp
    ·exact enters_of func192 (by kernel_rfl) rfl
    ·rcases List.mem_cons.1 hp with rfl|hp
     ·exact enters_of func196 (by kernel_rfl) rfl
     ·rcases List.mem_cons.1 hp with rfl|hp
      ·exact enters_of func197 (by kernel_rfl) rfl
      ·cases hp)
   (fun i W hW=>reads_row (hW.1.blk _ _ _ hg8 (by decide)) rfl) ⟨Fr.refl _ _ _ _,H8.out.1⟩ ?_).mono ?_
  ·intro i hi W hW
   have hqW:=hW.1.blk _ _ _ H8.out.2.2.2.1 (by decide)
   have hLW:=H8.out.2.2.2.2.1.fr hW.1 (by decide) (by decide)
   have h12W:=hW.1.blk _ _ _ H8.out.2.2.2.2.2.1 (by decide)
   have h13W:=hW.1.blk _ _ _ H8.out.2.2.2.2.2.2.2 (by decide)
   match i,hi,hW with
   |0,_,hW=>
    show Calls _ _ #[PT (some ⟨q13,0,none⟩),PT (some ⟨q12,0,none⟩),PT (some ⟨q,0,none⟩)] _ _
    refine(open1_ok base lg d mn ms size Q ops f1 f2 s V q13 q12 q L W h13W h12W hW.2 hLW).mono ?_
    rintro e w' ⟨rfl,hb⟩
    exact⟨rfl,hW.1.made hb (DiskAt.hi hW.2),DiskAt.made hW.2 hb⟩
   |1,_,hW=>
    show Calls _ _ #[PT (some ⟨q,0,none⟩),PT (some ⟨q12,0,none⟩)] _ _
    refine(open2_ok base lg d mn ms size Q ops f1 f2 s V q q12 L W hqW h12W hW.2 hLW hne (by omega)).mono ?_
    rintro e w' ⟨rfl,hD,hf⟩
    exact⟨rfl,hW.1.trans hf,hD⟩
   |2,_,hW=>
    show Calls _ _ #[PT (some ⟨d,0,none⟩)] _ _
    refine(syncdir_ok base d mn ms (diskL Q (ops + 1) f1 f2 L L.length V) W hW.2 (by show ops + 1≤_;omega) rfl).mono ?_
    rintro e w' ⟨rfl,⟨ms',hms,hD⟩,hf⟩
    exact⟨rfl,hW.1.trans (hf.mono (by decide) (by simp)),ms',nT hW.1.size hms,hD⟩
  ·rintro e w9 ⟨rfl,hf9,ms',hms',hD9⟩
   have HX:Hid (J fs.length w9∧w.heap.size≤ms'∧w.heap.size≤lg∧DiskAt w9 base d mn ms' (diskL Q (ops + 2) f1 f2 L L.length V)∧LogAt w9 base lg d size V 2 [1] false∧Fr (192::KD) [mn,sf] base w w9):=by
    obtain⟨g1,g2,g3,g4,g5,g6,g7,g8⟩:=H8.out
    exact⟨hJf _ _ _ g2 (hf9.mono (fun t ht=>List.mem_cons_of_mem _ ht) (by simp)),nT g3.size hms',g7,hD9,g5.fr hf9 (by decide) (by decide),g3.trans (hf9.mono (fun t ht=>List.mem_cons_of_mem _ ht) (by simp))⟩
   have h12:=hf9.blk _ _ _ H8.out.2.2.2.2.2.1 (by decide)
   have y0:=h12.c1
   clear hf9 hD9 hms' H8 hg8 h12
   go_wp2_with fail
   go_ret2
   exact⟨lg,ms',rfl,HX.out⟩
end
section
open Go.RowKit Go.Maps
inductive RecS where
 |gen (g:Nat)(l:List Be)
 |put (f:Fl)
def RecS.fr:RecS→Nat×List Nat
 |.gen g l=>(3,genB g l)
 |.put f=>(1,putB f)
def RecS.Ok:RecS→Prop
 |.gen g l=>g≤1000000∧BesOk l∧MayBs l.length l
 |.put f=>FlOk f
def RecS.step (x:Nat×List Be×List (Tu×Fl)):RecS→Nat×List Be×List (Tu×Fl)
 |.gen g l=>(g,l,x.2.2)
 |.put f=>(x.1,x.2.1,mput x.2.2 f.k f)
def recSt (rs:List RecS):Nat×List Be×List (Tu×Fl):=rs.foldl RecS.step (0,[],[])
theorem recSt_snoc (rs:List RecS)(r:RecS):recSt (rs++[r])=RecS.step (recSt rs) r:=by simp[recSt,List.foldl_append]
theorem mput_length {κ ν:Type}[DecidableEq κ](m:List (κ×ν))(x:κ)(v:ν):(mput m x v).length≤m.length + 1:=by
 unfold mput
 split<;>simp
theorem recSt_len (rs:List RecS):∀x:Nat×List Be×List (Tu×Fl),(rs.foldl RecS.step x).2.2.length≤x.2.2.length + rs.length:=by
 induction rs with
 |nil=>intro x;simp
 |cons r rs ih=>
  intro x
  rw[List.foldl_cons,List.length_cons]
  have h:=ih (RecS.step x r)
  have h2:(RecS.step x r).2.2.length≤x.2.2.length + 1:=by
   cases r with
   |gen g l=>simp[RecS.step]
   |put f=>exact mput_length _ _ _
  omega
theorem recSt_length (rs:List RecS):(recSt rs).2.2.length≤rs.length:=by
 have:=recSt_len rs (0,[],[])
 simpa [recSt] using this
theorem recs_step (base sp sd sf V:Nat)(rs:List RecS)(hok:∀r∈rs,r.Ok)(hlen:rs.length≤200)(j k:Nat)(l:List Nat)(A:Option Addr)(c:Nat)(W:World)(hj:(rs.map RecS.fr)[j]? =some (k,l))
  (hJ:StAt W base sp sd sf (recSt (rs.take j)).1 (recSt (rs.take j)).2.1 (recSt (rs.take j)).2.2)(hr:Reads W W.heap.size 1 A l.length (bv l))(hnil:A=none→c=0):
  Calls Pg 99 #[aG #[PT (some ⟨sp,0,none⟩)],aG #[X Y k,X Y (3:Nat),G A l.length c]] W fun e W'=>e=rT (X Y 0)∧StAt W' base sp sd sf (recSt (rs.take (j + 1))).1 (recSt (rs.take (j + 1))).2.1 (recSt (rs.take (j + 1))).2.2∧Fr [192] [sf] base W W':=by
 rw[List.getElem?_map] at hj
 obtain⟨r,hrj,hfr⟩:∃r,rs[j]? =some r∧r.fr=(k,l):=by
  cases h:rs[j]? with
  |none=>rw[h] at hj;cases hj
  |some r=>rw[h] at hj;injection hj with hj;exact⟨r,rfl,hj⟩
 have ht:rs.take (j + 1)=rs.take j++[r]:=by rw[List.take_add_one,hrj];rfl
 rw[ht,recSt_snoc]
 have hro:=hok r (List.mem_of_getElem? hrj)
 have hl2:(recSt (rs.take j)).2.2.length < 256:=by have:=recSt_length (rs.take j);rw[List.length_take] at this;omega
 generalize recSt (rs.take j)=x at *
 cases r with
 |gen g bl=>
  injection hfr with h1 h2
  subst h1 h2
  obtain⟨o1,o2,o3⟩:=hro
  refine(rframe_gen base sp sd sf x.1 x.2.1 x.2.2 g bl o1 o2 o3 A _ c W.heap.size W hJ hr (nR _) hnil).mono ?_
  rintro e W' ⟨rfl,h1,h2⟩
  exact⟨rfl,h1,h2.mono (by simp) (by simp)⟩
 |put f=>
  injection hfr with h1 h2
  subst h1 h2
  refine(rframe_put base sp sd sf x.1 x.2.1 x.2.2 f hro hl2 A _ c W.heap.size W hJ hr (nR _) hnil).mono ?_
  rintro e W' ⟨rfl,h1,h2⟩
  exact⟨rfl,h1,h2.mono (by simp) (by simp)⟩
end
section
open Go.RowKit Go.Maps Go.Sort
theorem nameS1:nameS 1=⟨#[115,48,48,48,48,48,49]⟩:=by decide
theorem names2 (f1 f2:Nat):namesS [(nameS 1,f1),((⟨#[109]⟩:ByteArray),f2)]=[[109],[115,48,48,48,48,48,49]]:=by
 have hp:(kbs [(nameS 1,f1),((⟨#[109]⟩:ByteArray),f2)]).Perm [[109],[115,48,48,48,48,48,49]]:=by
  rw[nameS1]
  exact List.Perm.swap _ _ _
 unfold namesS
 rw[sorted_perm hp]
 exact List.mergeSort_of_pairwise (by decide)
theorem clean_ok (base lg d mn ms size V nx f1 f2:Nat)(D:PDisk)(w:World)(hL:LogAt w base lg d size V nx [1] false)(hD:DiskAt w base d mn ms D)(hnow:D.now=[(nameS 1,f1),((⟨#[109]⟩:ByteArray),f2)]):
  Calls Pg 100 #[PT (some ⟨lg,0,none⟩)] w fun e w'=>e=rT (X Y 0)∧Below w.heap.size w w':=by
 have CN:=jH (names_ok base d mn ms D (by rw[hnow];simp) w hD)
 rw[hnow,names2] at CN
 have HL:=jH hL
 obtain⟨-,A,c,hb,ho⟩:=hL
 have c0:=hb.c1
 clear hD hb ho
 go_enter func100,ntmps100
 go_wp2_with fail
 refine CN.out.mono ?_
 rintro e w1 ⟨v,rfl,hown,hb1⟩
 obtain⟨A1,c1,rfl⟩:=own_slice hown
 have HX:=jH hb1
 have hL1:=HL.out.made hb1
 obtain⟨-,A,c,hb,ho⟩:=hL1
 have x4:w1.cell? ⟨lg,4,none⟩=some (G A 1 c):=hb.cell 4
 have CC:=jH (contains1 A c w1.heap.size w1 (Reads.of_own ho))
 obtain⟨bn,on,hAn,hbn,hcn⟩:=(Reads.of_own hown).plain (by decide) (by decide)
 simp only[List.length_cons,List.length_nil,List.map_cons,List.map_nil] at hcn
 subst hAn
 have y0:=hcn 0 (.string ⟨#[109]⟩) rfl
 have y1:=hcn 1 (.string ⟨#[115,48,48,48,48,48,49]⟩) rfl
 rw[Nat.add_zero] at y0
 clear hb ho hcn hown hb1 CN HL c0
 go_wp2_with fail
 refine wp_loop_rounds 3 ?_
 rw[rounds_succ]
 go_wp2_with fail
 refine(number_m w1).mono ?_
 rintro e w' ⟨rfl,rfl⟩
 go_wp2_with fail
 rw[rounds_succ]
 go_wp2_with fail
 refine(number_1 w1).mono ?_
 rintro e w' ⟨rfl,rfl⟩
 go_wp2_with fail
 refine CC.out.mono ?_
 rintro e w' ⟨rfl,rfl⟩
 go_wp2_with fail
 rw[rounds_succ]
 go_wp2_with fail
 go_ret
 exact⟨rfl,HX.out⟩
end
section
open Go.RowKit Go.Maps
theorem keep_touch (base tp tm tk qp qm most idle now:Nat)(fm:List (Tu×Fl))(l:List It)(f g:Fl)(hgk:g.k=f.k)(hgb:g.be=f.be)(hgs:g.seen=now)(hnow:now≤1099511627776)(hle:f.seen≤now)(w:World)(h:FlowAt w base tp tm tk qp qm most idle fm l)(hg:mget fm f.k=some f)(hbase:base≤w.heap.size):
  Calls Pg 108 #[PT (some ⟨tp,0,none⟩),flV g,bL true,X Y f.be,bL false] w fun e w'=>e=rT (G none 0 0)∧(∃l',QSet l (keyT f.k) now l'∧FlowAt w' base tp tm tk qp qm most idle (mput fm f.k {f with seen:=now}) l')∧FrQ qp KF [tm,tk,qm] base w w':=by
 have hb0:=(bR w.heap.size w).alloc (nR _) (.cells g.vals 47)
 have CT:=jH (fltouch_ok base tp tm tk qp qm most idle now fm l f hnow hle _ (h.fr (Fr.of_below [] [] hb0 hbase) (by simp) (by simp) (by simp) (by simp) (by simp) (by simp) (by simp)) hg)
 have HB:Hid (FrQ qp KF [tm,tk,qm] base w (w.alloc (.cells g.vals 47))):=((Fr.of_below [] [] hb0 hbase).q qp (by simp)).mono (by simp) (by simp)
 obtain⟨⟨s2,d2,p2,sp2,dp2⟩,b2,g2,n2⟩:=g
 dsimp only at hgk hgb hgs
 subst hgs hgb
 rw[←hgk] at CT
 have HK:=jH hgk
 clear h hg hb0 hgk
 unfold flV tupV Fl.vals Tu.vals at *
 dsimp only at *
 go_enter func108,ntmps108
 go_wp2_with fail
 refine CT.out.mono ?_
 rintro e w1 ⟨rfl,hl,hf⟩
 have HF:=jH (aI hl (HB.out.trans hf))
 clear hl hf CT HB
 go_wp2
 go_ret
 rw[←HK.out]
 exact⟨rfl,HF.out⟩
theorem keep_put (base tp tm tk qp qm most idle:Nat)(fm:List (Tu×Fl))(l:List It)(g:Fl)(was:Int)(hok:FlOk g)(w:World)(h:FlowAt w base tp tm tk qp qm most idle fm l)(hg:mget fm g.k=none)(hlt:fm.length < most)(hbase:base≤w.heap.size):
  Calls Pg 108 #[PT (some ⟨tp,0,none⟩),flV g,bL false,X Y was,bL false] w fun e w'=>(∃b,e=rT (G (some ⟨b,0,none⟩) 1 1)∧w.heap.size≤b∧Blk w' b 119 (recC 1 g 0 (G none 0 0)))∧(∃l',QSet l (keyT g.k) g.seen l'∧FlowAt w' base tp tm tk qp qm most idle (mput fm g.k g) l')∧FrQ qp KF [tm,tk,qm] base w w':=by
 have hb0:=(bR w.heap.size w).alloc (nR _) (.cells g.vals 47)
 have hx0:=Blk.new w 47 g.vals
 have CT:=jH (flput_new base tp tm tk qp qm most idle fm l g hok _ (h.fr (Fr.of_below [] [] hb0 hbase) (by simp) (by simp) (by simp) (by simp) (by simp) (by simp) (by simp)) hg hlt)
 have HB:Hid (FrQ qp KF [tm,tk,qm] base w (w.alloc (.cells g.vals 47))):=((Fr.of_below [] [] hb0 hbase).q qp (by simp)).mono (by simp) (by simp)
 have HX:=jH hx0
 clear h hg hb0 hok hx0
 obtain⟨⟨s2,d2,p2,sp2,dp2⟩,b2,g2,n2⟩:=g
 unfold flV Fl.vals at *
 dsimp only[recC] at *
 go_enter func108,ntmps108
 go_wp2_with fail
 refine CT.out.mono ?_
 rintro e w1 ⟨rfl,⟨l',hq,hW⟩,hf⟩
 have hx1:=hf.blk _ _ _ HX.out (by decide)
 obtain⟨x0,x1,x2,x3,x4,x5,x6,x7⟩:=hx1.c8
 have HF:=jH (aI hq (aI hW (HB.out.trans hf)))
 have hs1:=(HB.out.trans hf).size
 clear hq hW hf CT HB hx1
 go_wp2
 go_ret
 have hb2:=(bR w1.heap.size w1).alloc (nR _) (cL #[X Y 1,X Z s2,X Z d2,X Y p2,X Y sp2,X Y dp2,X Y b2,X Y g2,X Y n2,X Y 0,G none 0 0,X Y 0,X Y 0,X Y 0] 119)
 exact⟨⟨w1.heap.size,rfl,hs1,Blk.new w1 _ _⟩,⟨l',HF.out.1,HF.out.2.1.fr (Fr.of_below [] [] hb2 (nT hbase hs1)) (by simp) (by simp) (by simp) (by simp) (by simp) (by simp) (by simp)⟩,HF.out.2.2.made hb2 (nT hbase hs1)⟩
end
section
open Go.RowKit
theorem or_def (x y:Int):bits .or .i64 x y=IntKind.i64.wrap ((BitVec.ofInt 64 x|||BitVec.ofInt 64 y).toNat:Nat):=rfl
theorem and_def (x y:Int):bits .and .i64 x y=IntKind.i64.wrap ((BitVec.ofInt 64 x&&& BitVec.ofInt 64 y).toNat:Nat):=rfl
theorem i64_and_mask (k:Nat)(hk:k≤62)(n:Int):bits .and .i64 n ((2 ^ k - 1:Nat):Int)=((n % ((2 ^ k:Nat):Int)).toNat:Int):=by
 have hm:(BitVec.ofInt 64 ((2 ^ k - 1:Nat):Int)).toNat=2 ^ k - 1:=by
  rw[BitVec.ofInt_natCast,BitVec.toNat_ofNat]
  exact Nat.mod_eq_of_lt (Nat.lt_of_lt_of_le (Nat.sub_lt (Nat.two_pow_pos k) (by omega)) (Nat.pow_le_pow_right (by omega) (by omega)))
 have key:(BitVec.ofInt 64 n&&& BitVec.ofInt 64 ((2 ^ k - 1:Nat):Int)).toNat=(n % ((2 ^ 64:Nat):Int)).toNat % 2 ^ k:=by
  rw[BitVec.toNat_and,BitVec.toNat_ofInt,hm,Nat.and_two_pow_sub_one_eq_mod]
 rw[and_def,key]
 have hp:(2 ^ k:Nat)≤2 ^ 62:=Nat.pow_le_pow_right (by omega) hk
 have hd:(2 ^ k:Nat)∣2 ^ 64:=Nat.pow_dvd_pow 2 (by omega)
 have hpos:0 < 2 ^ k:=Nat.two_pow_pos k
 have e:((n % ((2 ^ 64:Nat):Int)).toNat % 2 ^ k:Nat)=(n % ((2 ^ k:Nat):Int)).toNat:=by
  have h0:0≤n % ((2 ^ 64:Nat):Int):=Int.emod_nonneg _ (by decide)
  apply Int.ofNat.inj
  show (((n % ((2 ^ 64:Nat):Int)).toNat % 2 ^ k:Nat):Int)=(((n % ((2 ^ k:Nat):Int)).toNat:Nat):Int)
  rw[Int.natCast_emod,Int.toNat_of_nonneg h0,Int.toNat_of_nonneg (Int.emod_nonneg _ (by omega))]
  exact Int.emod_emod_of_dvd _ (Int.natCast_dvd_natCast.2 hd)
 rw[e]
 have hlt:(n % ((2 ^ k:Nat):Int)).toNat < 2 ^ k:=by
  have h1:=Int.emod_lt_of_pos n (show (0:Int) < ((2 ^ k:Nat):Int) by omega)
  have h2:=Int.emod_nonneg n (show ((2 ^ k:Nat):Int)≠0 by omega)
  omega
 have e62:(2 ^ 62:Nat)=4611686018427387904:=by decide
 rw[e62] at hp
 generalize (n % ((2 ^ k:Nat):Int)).toNat=x at *
 exact IntWalk.i64_in _ (by omega)
theorem i64_or_nat (a b:Nat)(ha:a < 9223372036854775808)(hb:b < 9223372036854775808):bits .or .i64 (a:Int) (b:Int)=((a|||b:Nat):Int):=
 (bits_nat .i64 63 (by decide) (fun n h0 h1=>IntWalk.i64_in n (by
  have:(2:Int) ^ 63=9223372036854775808:=by decide
  omega)) a b ha hb).2
theorem i64_and_nat (a b:Nat)(ha:a < 9223372036854775808)(hb:b < 9223372036854775808):bits .and .i64 (a:Int) (b:Int)=((a&&& b:Nat):Int):=
 (bits_nat .i64 63 (by decide) (fun n h0 h1=>IntWalk.i64_in n (by
  have:(2:Int) ^ 63=9223372036854775808:=by decide
  omega)) a b ha hb).1
structure Hd where
 ihl:Int
 tos:Int
 len:Int
 id:Int
 flags:Int
 off:Int
 ttl:Int
 proto:Int
 sum:Int
 src:Nat
 dst:Nat
def Hd.vals (h:Hd):Array Value:=#[X Y h.ihl,X Y h.tos,X Y h.len,X Y h.id,X Y h.flags,X Y h.off,X Y h.ttl,X Y h.proto,X Y h.sum,X Z h.src,X Z h.dst]
def hd0:Hd:=⟨0,0,0,0,0,0,0,0,0,0,0⟩
def at' (b:List Nat)(j:Nat):Nat:=b.getD j 0
def two' (b:List Nat)(j:Nat):Nat:=at' b j * 256 + at' b (j + 1)
def four' (b:List Nat)(j:Nat):Nat:=two' b j * 65536 + two' b (j + 2)
theorem at_lt {b:List Nat}(h:AllB b)(j:Nat):at' b j < 256:=by
 unfold at'
 rw[List.getD_eq_getElem?_getD]
 by_cases hj:j < b.length
 ·rw[List.getElem?_eq_getElem hj];exact h _ (List.getElem_mem hj)
 ·rw[List.getElem?_eq_none (by omega)];simp
theorem two_lt {b:List Nat}(h:AllB b)(j:Nat):two' b j < 65536:=by
 unfold two'
 have:=at_lt h j
 have:=at_lt h (j + 1)
 omega
theorem four_lt {b:List Nat}(h:AllB b)(j:Nat):four' b j < 4294967296:=by
 unfold four'
 have:=two_lt h j
 have:=two_lt h (j + 2)
 omega
theorem drop_one {b:List Nat}{j:Nat}(h:j < b.length):b.drop j=at' b j::b.drop (j + 1):=by
 rw[List.drop_eq_getElem_cons h]
 unfold at'
 simp[h]
theorem nb_at {b:List Nat}{j:Nat}(h:j < b.length):nb ((b.drop j).take 1)=at' b j:=by
 rw[drop_one h];simp[nb]
theorem nb_two {b:List Nat}{j:Nat}(h:j + 1 < b.length):nb ((b.drop j).take 2)=two' b j:=by
 rw[drop_one (j:=j) (by omega),drop_one (j:=j + 1) h];simp[nb,two']
theorem nb_four {b:List Nat}{j:Nat}(h:j + 3 < b.length):nb ((b.drop j).take 4)=four' b j:=by
 have h2:b.drop (j + 1 + 1)=at' b (j + 2)::b.drop (j + 3):=drop_one (j:=j + 2) (by omega)
 have h3:b.drop (j + 3)=at' b (j + 3)::b.drop (j + 4):=drop_one (j:=j + 3) h
 rw[drop_one (j:=j) (by omega),drop_one (j:=j + 1) (by omega),h2,h3]
 show _=(at' b j * 256 + at' b (j + 1)) * 65536 + (at' b (j + 2) * 256 + at' b (j + 3))
 simp[nb]
 omega
def ihlP (b:List Nat):Nat:=at' b 0 % 16
def lenP (b:List Nat):Nat:=two' b 2
def hdP (b:List Nat):Hd:=⟨(ihlP b:Nat),(at' b 1:Nat),(lenP b:Nat),(two' b 4:Nat),(two' b 6 / 8192:Nat),(two' b 6 % 8192:Nat),(at' b 8:Nat),(at' b 9:Nat),(two' b 10:Nat),four' b 12,four' b 16⟩
def whyP (b:List Nat):Nat:=
 if b.length < 20 then 1
 else if at' b 0 / 16≠4 then 2
 else if ihlP b < 5 then 3
 else if b.length < 4 * ihlP b then 1
 else if netN (b.take (4 * ihlP b))≠0 then 4
 else if lenP b < 4 * ihlP b then 3
 else if b.length < lenP b then 5
 else 0
def bodyP (b:List Nat):List Nat:=(b.take (lenP b)).drop (4 * ihlP b)
def flof (h:Hd):Nat:=(h.flags % 8).toNat * 8192 + (h.off % 8192).toNat
def headB (h:Hd)(c:Nat):List Nat:=be 69 1++be (u64n h.tos) 1++be (u64n h.len) 2++be (u64n h.id) 2++be (flof h) 2++be (u64n h.ttl) 1++be (u64n h.proto) 1++be c 2++be h.src 4++be h.dst 4
def buildB (h:Hd):List Nat:=headB h (netN (headB h 0))
theorem headB_length (h:Hd)(c:Nat):(headB h c).length=20:=by simp[headB,be_length]
theorem headB_all (h:Hd)(c:Nat):AllB (headB h c):=by
 unfold headB
 exact(((((((((be_all _ _).append (be_all _ _)).append (be_all _ _)).append (be_all _ _)).append (be_all _ _)).append (be_all _ _)).append (be_all _ _)).append (be_all _ _)).append (be_all _ _)).append (be_all _ _)
theorem buildB_length (h:Hd):(buildB h).length=20:=headB_length _ _
theorem buildB_all (h:Hd):AllB (buildB h):=headB_all _ _
structure HdOk (h:Hd):Prop where
 ihl:-9223372036854775808≤h.ihl∧h.ihl≤9223372036854775807
 tos:-9223372036854775808≤h.tos∧h.tos≤9223372036854775807
 len:-9223372036854775808≤h.len∧h.len≤9223372036854775807
 id:-9223372036854775808≤h.id∧h.id≤9223372036854775807
 flags:-9223372036854775808≤h.flags∧h.flags≤9223372036854775807
 off:-9223372036854775808≤h.off∧h.off≤9223372036854775807
 ttl:-9223372036854775808≤h.ttl∧h.ttl≤9223372036854775807
 proto:-9223372036854775808≤h.proto∧h.proto≤9223372036854775807
 sum:-9223372036854775808≤h.sum∧h.sum≤9223372036854775807
 src:h.src < 4294967296
 dst:h.dst < 4294967296
theorem toNat_i64 (z:Int):(BitVec.ofInt 64 (IntKind.i64.wrap z)).toNat=(z % 18446744073709551616).toNat:=by
 rw[BitVec.toNat_ofInt,IntKind.wrap_i64]
 have e2:((2 ^ 64:Nat):Int)=18446744073709551616:=by decide
 rw[e2]
 omega
theorem toNat_small (o:Nat)(h:o < 8192):(BitVec.ofInt 64 (o:Int)).toNat=o:=by
 rw[BitVec.ofInt_natCast,BitVec.toNat_ofNat]
 exact Nat.mod_eq_of_lt (Nat.lt_of_lt_of_le h (by decide))
theorem or_low (z:Int)(o:Nat)(hz:z % 8192=0)(h:o < 8192):bits .or .i64 (IntKind.i64.wrap z) (o:Int)=IntKind.i64.wrap (((z % 18446744073709551616).toNat + o:Nat):Int):=by
 have h0:(z % 18446744073709551616).toNat % 2 ^ 13=0:=by omega
 rw[or_def,BitVec.toNat_or,toNat_i64,toNat_small o h,nat_join 13 _ o h0 h]
theorem u64n_wrap (z:Int):u64n (IntKind.i64.wrap z)=(z % 18446744073709551616).toNat:=by
 unfold u64n
 rw[IntKind.wrap_i64]
 omega
theorem flof_or (h:Hd):be (u64n (bits .or .i64 (IntKind.i64.wrap (h.flags * 8192)) ((h.off % 8192).toNat:Int))) 2=be (flof h) 2:=by
 have hol:(h.off % 8192).toNat < 8192:=by omega
 rw[or_low _ _ (by omega) hol,u64n_wrap]
 apply be_mod
 unfold flof
 generalize (h.off % 8192).toNat=o at *
 generalize h.flags=f at *
 have e:(256:Nat) ^ 2=65536:=by decide
 rw[e]
 omega
theorem numLeft_at {p j k:Nat}{l:List Nat}{w w':World}(h:NumLeft p k (l.drop j) w w'):RBuf w' p (l.drop (j + k))∧w.grownBy w' (some p):=by
 obtain⟨h1,h2⟩:=h
 rw[List.drop_drop] at h1
 exact⟨h1,h2⟩
theorem u8r_at (p j:Nat)(l:List Nat)(w:World)(hj:j + 1≤l.length)(hl:l.length≤140737488355328)(ha:AllB l)(h:RBuf w p (l.drop j)):
  Calls Pg 406 #[PT (some ⟨p,0,none⟩)] w fun e w'=>e=rT (X Y (at' l j:Nat))∧RBuf w' p (l.drop (j + 1))∧w.grownBy w' (some p):=by
 refine(u8r_any p (l.drop j) w (by simp;omega) (by simp;omega) (ha.drop j) h).mono ?_
 rintro e w' ⟨he,hn⟩
 rw[nb_at (by omega)] at he
 exact⟨he,numLeft_at hn⟩
theorem u16r_at (p j:Nat)(l:List Nat)(w:World)(hj:j + 2≤l.length)(hl:l.length≤140737488355328)(ha:AllB l)(h:RBuf w p (l.drop j)):
  Calls Pg 306 #[PT (some ⟨p,0,none⟩)] w fun e w'=>e=rT (X Y (two' l j:Nat))∧RBuf w' p (l.drop (j + 2))∧w.grownBy w' (some p):=by
 refine(u16r_any p (l.drop j) w (by simp;omega) (by simp;omega) (ha.drop j) h).mono ?_
 rintro e w' ⟨he,hn⟩
 rw[nb_two (by omega)] at he
 exact⟨he,numLeft_at hn⟩
theorem u32r_at (p j:Nat)(l:List Nat)(w:World)(hj:j + 4≤l.length)(hl:l.length≤140737488355328)(ha:AllB l)(h:RBuf w p (l.drop j)):
  Calls Pg 305 #[PT (some ⟨p,0,none⟩)] w fun e w'=>e=rT (X Z (four' l j:Nat))∧RBuf w' p (l.drop (j + 4))∧w.grownBy w' (some p):=by
 refine(u32r_any p (l.drop j) w (by simp;omega) (by simp;omega) (ha.drop j) h).mono ?_
 rintro e w' ⟨he,hn⟩
 rw[nb_four (by omega)] at he
 exact⟨he,numLeft_at hn⟩
theorem read_any (A:Option Addr)(n c B:Nat)(l:List Nat)(w:World)(hr:Reads w B 1 A n (bv l))(hB:B≤w.heap.size)(hn:n≤140737488355328)(h20:20≤n)(ha:AllB l):
  Calls Pg 320 #[G A n c] w fun e w'=>e=rT (tU #[X Y (at' l 0 / 16:Nat),.agg (hdP l).vals])∧Below w.heap.size w w':=by
 have hlen:=hr.length
 have hnil:A=none→c=0:=by
  intro e
  obtain⟨_,h,_⟩:=hr.2 (by omega)
  rw[e] at h;cases h
 have C1:=jH (fun w' (hb:Below w.heap.size w w')=>newreader_any A n c w'.heap.size l w' ((hr.below (hb.mono hB)).more (nT hB hb.size)) (nR _) hn hnil)
 have U8:=jH (fun p j w=>u8r_at p j l w)
 have U16:=jH (fun p j w=>u16r_at p j l w)
 have U32:=jH (fun p j w=>u32r_at p j l w)
 have HL:=jH (aI (show 20≤l.length by omega) (aI (show l.length≤140737488355328 by omega) ha))
 obtain⟨R,hR⟩:∃R,R=Value.tuple #[X Y (at' l 0 / 16:Nat),.agg (hdP l).vals]:=⟨_,rfl⟩
 rw[←hR]
 have HP:Hid (R=tU #[X Y (at' l 0 / 16:Nat),aG #[X Y (at' l 0 % 16:Nat),X Y (at' l 1:Nat),X Y (two' l 2:Nat),X Y (two' l 4:Nat),X Y (two' l 6 / 8192:Nat),X Y (two' l 6 % 8192:Nat),X Y (at' l 8:Nat),X Y (at' l 9:Nat),X Y (two' l 10:Nat),X Z (four' l 12:Nat),X Z (four' l 16:Nat)]]):=hR
 clear hR
 have b0:=at_lt ha 0
 have b1:=at_lt ha 1
 have b2:=two_lt ha 2
 have b4:=two_lt ha 4
 have b6:=two_lt ha 6
 have b8:=at_lt ha 8
 have b9:=at_lt ha 9
 have b10:=two_lt ha 10
 have b12:=four_lt ha 12
 have b16:=four_lt ha 16
 clear hlen hnil hr hB ha
 go_enter func320,ntmps320
 go_wp2_with fail
 refine(C1.out _ ((bR _ _).alloc (nR _) _)).mono ?_
 rintro e w1 ⟨p,rfl,hp,hrb,hb1⟩
 have hB1:Below w.heap.size w w1:=((bR _ _).alloc (nR _) _).trans (hb1.mono (by simp))
 have hres:=(Blk.new w 132 #[X Y 0,X Y 0,X Y 0,X Y 0,X Y 0,X Y 0,X Y 0,X Y 0,X Y 0,X Z 0,X Z 0]).below hb1 (by simp)
 have hpw:w.heap.size < p:=by simp at hp;omega
 have hs1:=hB1.size
 obtain⟨q,hq⟩:∃q,q=w.heap.size:=⟨_,rfl⟩
 rw[←hq] at hres hpw⊢
 have HQ:=jH hq
 have hrb0:RBuf w1 p (l.drop 0):=hrb
 clear hb1 hp hrb C1 hq
 go_wp2_with fail
 refine(U8.out p 0 w1 (by have:=HL.out.1;omega) HL.out.2.1 HL.out.2.2 hrb0).mono ?_
 rintro e w2 ⟨rfl,hrb1,hg1⟩
 have hB2:Below w.heap.size w w2:=hB1.grown hg1 hs1 (fun k hk=>by cases hk;have:=HQ.out;omega)
 have hres2:=hres.grown hg1 (by intro h;cases h;omega)
 clear hg1 hrb0 hres hB1 hs1
 have hmask:bits BinOp.and IntKind.i64 ((at' l 0:Nat):Int) 15=((at' l 0 % 16:Nat):Int):=by
  have:=i64_and_nat (at' l 0) 15 (by omega) (by omega)
  rw[nat_mask4] at this
  exact this
 have hdiv:((at' l 0:Nat):Int) / 16=((at' l 0 / 16:Nat):Int):=by omega
 have hmod:=jH (show at' l 0 % 16 < 16 by omega)
 generalize at' l 0=x0 at *
 go_wp2_with fail
 refine(U8.out p 1 w2 (by have:=HL.out.1;omega) HL.out.2.1 HL.out.2.2 hrb1).mono ?_
 rintro e w3 ⟨rfl,hrb2,hg2⟩
 have hB3:Below w.heap.size w w3:=hB2.grown hg2 hB2.size (fun k hk=>by cases hk;have:=HQ.out;omega)
 have hres3:=hres2.grown hg2 (by intro h;cases h;omega)
 clear hg2 hrb1 hres2 hB2
 generalize at' l 1=x1 at *
 go_wp2_with fail
 refine(U16.out p 2 w3 (by have:=HL.out.1;omega) HL.out.2.1 HL.out.2.2 hrb2).mono ?_
 rintro e w4 ⟨rfl,hrb4,hg3⟩
 have hB4:Below w.heap.size w w4:=hB3.grown hg3 hB3.size (fun k hk=>by cases hk;have:=HQ.out;omega)
 have hres4:=hres3.grown hg3 (by intro h;cases h;omega)
 clear hg3 hrb2 hres3 hB3
 generalize two' l 2=x2 at *
 go_wp2_with fail
 refine(U16.out p 4 w4 (by have:=HL.out.1;omega) HL.out.2.1 HL.out.2.2 hrb4).mono ?_
 rintro e w5 ⟨rfl,hrb6,hg4⟩
 have hB5:Below w.heap.size w w5:=hB4.grown hg4 hB4.size (fun k hk=>by cases hk;have:=HQ.out;omega)
 have hres5:=hres4.grown hg4 (by intro h;cases h;omega)
 clear hg4 hrb4 hres4 hB4
 generalize two' l 4=x4 at *
 go_wp2_with fail
 obtain⟨w6,hw6⟩:∃w6,w6=w5.alloc (cL #[X Y ((x0:Int) % 16),X Y x1,X Y x2,X Y x4,X Y 0,X Y 0,X Y 0,X Y 0,X Y 0,X Z 0,X Z 0] 132):=⟨_,rfl⟩
 obtain⟨ph,hph⟩:∃ph,ph=w5.heap.size:=⟨_,rfl⟩
 have hbh:Blk w6 ph 132 #[X Y ((x0:Int) % 16),X Y x1,X Y x2,X Y x4,X Y 0,X Y 0,X Y 0,X Y 0,X Y 0,X Z 0,X Z 0]:=by rw[hw6,hph];exact Blk.new _ _ _
 have hrb6':RBuf w6 p (l.drop 6):=by rw[hw6];exact hrb6.below ((bR _ _).alloc (nR _) _)
 have hres6:=hres5.alloc (cL #[X Y ((x0:Int) % 16),X Y x1,X Y x2,X Y x4,X Y 0,X Y 0,X Y 0,X Y 0,X Y 0,X Z 0,X Z 0] 132)
 have hB6:Below w.heap.size w w6:=by rw[hw6];exact hB5.alloc hB5.size _
 have hpp:p < ph:=by rw[hph];exact hrb6.lt
 rw[←hw6] at hres6⊢
 rw[←hph]
 have hqh:q < ph:=by omega
 clear hw6 hph hres5 hB5 hrb6
 refine(U16.out p 6 w6 (by have:=HL.out.1;omega) HL.out.2.1 HL.out.2.2 hrb6').mono ?_
 rintro e w7 ⟨rfl,hrb8,hg6⟩
 have hB7:Below w.heap.size w w7:=hB6.grown hg6 hB6.size (fun k hk=>by cases hk;have:=HQ.out;omega)
 have hres7:=hres6.grown hg6 (by intro h;cases h;omega)
 have hbh7:=hbh.grown hg6 (by intro h;cases h;omega)
 obtain⟨-,-,-,-,hf4,hf5⟩:=hbh7.f6
 obtain⟨-,-,-,-,hc4,hc5⟩:=hbh7.c6
 clear hg6 hrb6' hres6 hB6 hbh
 have hmask6:bits BinOp.and IntKind.i64 ((two' l 6:Nat):Int) 8191=((two' l 6:Nat):Int) % 8192:=by
  have:=i64_and_nat (two' l 6) 8191 (by omega) (by omega)
  rw[nat_mask13] at this
  exact this.trans (by omega)
 generalize two' l 6=x6 at *
 go_wp2_with fail
 obtain⟨w8,hw8⟩:∃w8,w8=(w7.setCell ⟨ph,4,none⟩ (X Y ((x6:Int) / 8192))).setCell ⟨ph,5,none⟩ (X Y ((x6:Int) % 8192)):=⟨_,rfl⟩
 have hb78:Below ph w7 w8:=by rw[hw8];exact((bR _ _).setCell (p:=⟨ph,4,none⟩) (nR _) _).setCell (p:=⟨ph,5,none⟩) (nR _) _
 have hbh8:=(hbh7.set_ 4 (X Y ((x6:Int) / 8192))).set_ 5 (X Y ((x6:Int) % 8192))
 rw[←hw8] at hbh8⊢
 have hrb8':=hrb8.behind hb78 hpp
 have hres8:=hres7.below hb78 hqh
 have hB8:Below w.heap.size w w8:=hB7.trans (hb78.mono (by have:=HQ.out;omega))
 clear hw8 hb78 hbh7 hrb8 hres7 hB7 hf4 hf5 hc4 hc5
 refine(U8.out p 8 w8 (by have:=HL.out.1;omega) HL.out.2.1 HL.out.2.2 hrb8').mono ?_
 rintro e w9 ⟨rfl,hrb9,hg8⟩
 have hB9:Below w.heap.size w w9:=hB8.grown hg8 hB8.size (fun k hk=>by cases hk;have:=HQ.out;omega)
 have hres9:=hres8.grown hg8 (by intro h;cases h;omega)
 have hbh9:=hbh8.grown hg8 (by intro h;cases h;omega)
 clear hg8 hrb8' hres8 hB8 hbh8
 generalize at' l 8=x8 at *
 go_wp2_with fail
 refine(U8.out p 9 w9 (by have:=HL.out.1;omega) HL.out.2.1 HL.out.2.2 hrb9).mono ?_
 rintro e w10 ⟨rfl,hrb10,hg9⟩
 have hB10:Below w.heap.size w w10:=hB9.grown hg9 hB9.size (fun k hk=>by cases hk;have:=HQ.out;omega)
 have hres10:=hres9.grown hg9 (by intro h;cases h;omega)
 have hbh10:=hbh9.grown hg9 (by intro h;cases h;omega)
 clear hg9 hrb9 hres9 hB9 hbh9
 generalize at' l 9=x9 at *
 go_wp2_with fail
 refine(U16.out p 10 w10 (by have:=HL.out.1;omega) HL.out.2.1 HL.out.2.2 hrb10).mono ?_
 rintro e w11 ⟨rfl,hrb12,hg10⟩
 have hB11:Below w.heap.size w w11:=hB10.grown hg10 hB10.size (fun k hk=>by cases hk;have:=HQ.out;omega)
 have hres11:=hres10.grown hg10 (by intro h;cases h;omega)
 have hbh11:=hbh10.grown hg10 (by intro h;cases h;omega)
 clear hg10 hrb10 hres10 hB10 hbh10
 generalize two' l 10=x10 at *
 obtain⟨-,-,-,-,-,-,hf6,hf7,hf8⟩:=hbh11.f9
 have hc6:=hbh11.cell 6
 have hc7:=hbh11.cell 7
 have hc8:=hbh11.cell 8
 simp only[Array.getElem?_setIfInBounds,ga,gz,gN] at hc6 hc7 hc8
 simp at hc6 hc7 hc8
 go_wp2_with fail
 obtain⟨w12,hw12⟩:∃w12,w12=((w11.setCell ⟨ph,6,none⟩ (X Y x8)).setCell ⟨ph,7,none⟩ (X Y x9)).setCell ⟨ph,8,none⟩ (X Y x10):=⟨_,rfl⟩
 have hb1112:Below ph w11 w12:=by rw[hw12];exact(((bR _ _).setCell (p:=⟨ph,6,none⟩) (nR _) _).setCell (p:=⟨ph,7,none⟩) (nR _) _).setCell (p:=⟨ph,8,none⟩) (nR _) _
 have hbh12:=((hbh11.set_ 6 (X Y x8)).set_ 7 (X Y x9)).set_ 8 (X Y x10)
 rw[←hw12] at hbh12⊢
 have hrb12':=hrb12.behind hb1112 hpp
 have hres12:=hres11.below hb1112 hqh
 have hB12:Below w.heap.size w w12:=hB11.trans (hb1112.mono (by have:=HQ.out;omega))
 clear hw12 hb1112 hbh11 hrb12 hres11 hB11 hf6 hf7 hf8 hc6 hc7 hc8
 refine(U32.out p 12 w12 (by have:=HL.out.1;omega) HL.out.2.1 HL.out.2.2 hrb12').mono ?_
 rintro e w13 ⟨rfl,hrb16,hg12⟩
 have hB13:Below w.heap.size w w13:=hB12.grown hg12 hB12.size (fun k hk=>by cases hk;have:=HQ.out;omega)
 have hres13:=hres12.grown hg12 (by intro h;cases h;omega)
 have hbh13:=hbh12.grown hg12 (by intro h;cases h;omega)
 clear hg12 hrb12' hres12 hB12 hbh12
 generalize four' l 12=x12 at *
 go_wp2_with fail
 refine(U32.out p 16 w13 (by have:=HL.out.1;omega) HL.out.2.1 HL.out.2.2 hrb16).mono ?_
 rintro e w14 ⟨rfl,hrb20,hg16⟩
 have hB14:Below w.heap.size w w14:=hB13.grown hg16 hB13.size (fun k hk=>by cases hk;have:=HQ.out;omega)
 have hres14:=hres13.grown hg16 (by intro h;cases h;omega)
 have hbh14:=hbh13.grown hg16 (by intro h;cases h;omega)
 clear hg16 hrb16 hrb20 hres13 hB13 hbh13
 generalize four' l 16=x16 at *
 obtain⟨-,-,-,-,-,-,-,-,-,hf9,hf10⟩:=hbh14.f11
 have hc9:=hbh14.cell 9
 have hc10:=hbh14.cell 10
 simp at hc9 hc10
 go_wp2_with fail
 obtain⟨w15,hw15⟩:∃w15,w15=(w14.setCell ⟨ph,9,none⟩ (X Z x12)).setCell ⟨ph,10,none⟩ (X Z x16):=⟨_,rfl⟩
 have hb1415:Below ph w14 w15:=by rw[hw15];exact((bR _ _).setCell (p:=⟨ph,9,none⟩) (nR _) _).setCell (p:=⟨ph,10,none⟩) (nR _) _
 have hbh15:Blk w15 ph 132 #[X Y ((x0:Int) % 16),X Y x1,X Y x2,X Y x4,X Y ((x6:Int) / 8192),X Y ((x6:Int) % 8192),X Y x8,X Y x9,X Y x10,X Z x12,X Z x16]:=by
  rw[hw15]
  exact(hbh14.set_ 9 (X Z x12)).set_ 10 (X Z x16)
 rw[←hw15]
 have hres15:=hres14.below hb1415 hqh
 have hB15:Below w.heap.size w w15:=hB14.trans (hb1415.mono (by have:=HQ.out;omega))
 clear hw15 hb1415 hbh14 hres14 hB14 hf9 hf10 hc9 hc10
 clear U8 U16 U32 HL b0 b1 b2 b4 b6 b8 b9 b10 b12 b16 hmask hdiv hmod hmask6
 refine wp_region_still_tail 4 (by kernel_rfl) (by kernel_rfl) ?_
 change wpStill _ _ (World.drew w15) (fun a'=>wpList _ _ _ _ a' (World.drew w15)) _ _
 have hbh16:=hbh15.drew
 have hres16:=hres15.drew
 have hB16:=hB15.drew
 clear hbh15 hres15 hB15
 generalize World.drew w15=w16 at *
 obtain⟨hc0,hc1,hc2,hc3,hc4,hc5,hc6,hc7,hc8,hc9,hc10⟩:=hbh16.c11
 simp only[List.take_succ_cons,List.take_zero,List.drop_succ_cons,List.drop_zero]
 repeat still_step
 refine wpStill_nil ?_
 clear hc0 hc1 hc2 hc3 hc4 hc5 hc6 hc7 hc8 hc9 hc10
 obtain⟨he0,he1,he2,he3,he4,he5,he6,he7,he8,he9,he10⟩:=hres16.c11
 obtain⟨hf0,hf1,hf2,hf3,hf4,hf5,hf6,hf7,hf8,hf9,hf10⟩:=hres16.f11
 go_wp2_with fail
 obtain⟨w17,hw17⟩:∃w17,w17=(((((((((((w16).setCell ⟨q,0,none⟩ (X Y ((x0:Int) % 16))).setCell ⟨q,1,none⟩ (X Y x1)).setCell ⟨q,2,none⟩ (X Y x2)).setCell ⟨q,3,none⟩ (X Y x4)).setCell ⟨q,4,none⟩ (X Y ((x6:Int) / 8192))).setCell ⟨q,5,none⟩ (X Y ((x6:Int) % 8192))).setCell ⟨q,6,none⟩ (X Y x8)).setCell ⟨q,7,none⟩ (X Y x9)).setCell ⟨q,8,none⟩ (X Y x10)).setCell ⟨q,9,none⟩ (X Z x12)).setCell ⟨q,10,none⟩ (X Z x16):=⟨_,rfl⟩
 have hbr17:Blk w17 q 132 #[X Y ((x0:Int) % 16),X Y x1,X Y x2,X Y x4,X Y ((x6:Int) / 8192),X Y ((x6:Int) % 8192),X Y x8,X Y x9,X Y x10,X Z x12,X Z x16]:=by
  rw[hw17]
  have hset:=(((((((((((hres16).set_ 0 (X Y ((x0:Int) % 16))).set_ 1 (X Y x1)).set_ 2 (X Y x2)).set_ 3 (X Y x4)).set_ 4 (X Y ((x6:Int) / 8192))).set_ 5 (X Y ((x6:Int) % 8192))).set_ 6 (X Y x8)).set_ 7 (X Y x9)).set_ 8 (X Y x10)).set_ 9 (X Z x12)).set_ 10 (X Z x16)
  simp only[List.setIfInBounds_toArray,List.set_cons_zero,List.set_cons_succ] at hset
  exact hset
 have hB17:Below w.heap.size w w17:=by
  rw[hw17]
  exact hB16.trans (((((((((((((bR q w16).setCell (p:=⟨q,0,none⟩) (nR _) _).setCell (p:=⟨q,1,none⟩) (nR _) _).setCell (p:=⟨q,2,none⟩) (nR _) _).setCell (p:=⟨q,3,none⟩) (nR _) _).setCell (p:=⟨q,4,none⟩) (nR _) _).setCell (p:=⟨q,5,none⟩) (nR _) _).setCell (p:=⟨q,6,none⟩) (nR _) _).setCell (p:=⟨q,7,none⟩) (nR _) _).setCell (p:=⟨q,8,none⟩) (nR _) _).setCell (p:=⟨q,9,none⟩) (nR _) _).setCell (p:=⟨q,10,none⟩) (nR _) _:Below q w16 _).mono (by have:=HQ.out;omega))
 rw[←hw17]
 clear hw17
 obtain⟨hr0,hr1,hr2,hr3,hr4,hr5,hr6,hr7,hr8,hr9,hr10⟩:=hbr17.c11
 refine bodyPost_ret (v:=tU #[X Y ((x0:Int) / 16),aG #[X Y ((x0:Int) % 16),X Y x1,X Y x2,X Y x4,X Y ((x6:Int) / 8192),X Y ((x6:Int) % 8192),X Y x8,X Y x9,X Y x10,X Z x12,X Z x16]]) (by simp[results,results320,go_sem,hr0,hr1,hr2,hr3,hr4,hr5,hr6,hr7,hr8,hr9,hr10]) rfl ⟨?_,hB17⟩
 rw[HP.out]
 simp only[Int.natCast_ediv,Int.natCast_emod]
 rfl
def ParseRet (l:List Nat)(w:World)(e:Ending)(w':World):Prop:=
 (whyP l=0∧∃A c,e=rT (tU #[.agg (hdP l).vals,G A (lenP l - 4 * ihlP l) c,X Y 0])∧w'.ownsRow w.heap.size 5 1 (G A (lenP l - 4 * ihlP l) c) (lenP l - 4 * ihlP l) (bv (bodyP l)))∨
 (whyP l≠0∧e=rT (tU #[.agg hd0.vals,G none 0 0,X Y (whyP l:Nat)]))
theorem why_short {l:List Nat}(h:l.length < 20):whyP l=1:=by unfold whyP;rw[if_pos h]
theorem why_cases {l:List Nat}{n v s L z:Nat}(h20:20≤n)(hn:l.length=n)(hv:at' l 0 / 16=v)(hs:ihlP l=s)(hL:lenP l=L)(hz:netN (l.take (4 * s))=z):
  (v≠4∧whyP l=2)∨(v=4∧s < 5∧whyP l=3)∨(v=4∧5≤s∧n < 4 * s∧whyP l=1)∨(v=4∧5≤s∧4 * s≤n∧z≠0∧whyP l=4)∨
  (v=4∧5≤s∧4 * s≤n∧z=0∧L < 4 * s∧whyP l=3)∨(v=4∧5≤s∧4 * s≤n∧z=0∧4 * s≤L∧n < L∧whyP l=5)∨(v=4∧5≤s∧4 * s≤n∧z=0∧4 * s≤L∧L≤n∧whyP l=0):=by
 unfold whyP
 rw[hn,hv,hs,hL,hz,if_neg (by omega)]
 by_cases h1:v≠4
 ·rw[if_pos h1];exact .inl ⟨h1,rfl⟩
 ·rw[if_neg h1]
  by_cases h2:s < 5
  ·rw[if_pos h2];exact .inr (.inl ⟨by omega,h2,rfl⟩)
  ·rw[if_neg h2]
   by_cases h3:n < 4 * s
   ·rw[if_pos h3];exact .inr (.inr (.inl ⟨by omega,by omega,h3,rfl⟩))
   ·rw[if_neg h3]
    by_cases h4:z≠0
    ·rw[if_pos h4];exact .inr (.inr (.inr (.inl ⟨by omega,by omega,by omega,h4,rfl⟩)))
    ·rw[if_neg h4]
     by_cases h5:L < 4 * s
     ·rw[if_pos h5];exact .inr (.inr (.inr (.inr (.inl ⟨by omega,by omega,by omega,by omega,h5,rfl⟩))))
     ·rw[if_neg h5]
      by_cases h6:n < L
      ·rw[if_pos h6];exact .inr (.inr (.inr (.inr (.inr (.inl ⟨by omega,by omega,by omega,by omega,by omega,h6,rfl⟩)))))
      ·rw[if_neg h6];exact .inr (.inr (.inr (.inr (.inr (.inr ⟨by omega,by omega,by omega,by omega,by omega,by omega,rfl⟩)))))
theorem hd_names (l:List Nat)(ha:AllB l):∃v s x1 L x4 x6 x7 x8 x9 x10 x12 x16:Nat,at' l 0 / 16=v∧ihlP l=s∧lenP l=L∧(hdP l).vals=#[X Y s,X Y x1,X Y L,X Y x4,X Y x6,X Y x7,X Y x8,X Y x9,X Y x10,X Z x12,X Z x16]∧v < 16∧s < 16∧L < 65536:=
 ⟨_,_,_,_,_,_,_,_,_,_,_,_,rfl,rfl,rfl,rfl,by have:=at_lt ha 0;omega,by unfold ihlP;omega,two_lt ha 2⟩
theorem parse_short (A:Option Addr)(n c B:Nat)(l:List Nat)(w:World)(hr:Reads w B 1 A n (bv l))(h20:n < 20):
  Calls Pg 206 #[G A n c] w fun e w'=>ParseRet l w e w'∧Below w.heap.size w w':=by
 have hwhy:=why_short (l:=l) (by have:=hr.length;omega)
 have HR:Hid (∀w',ParseRet l w (rT (tU #[aG #[X Y 0,X Y 0,X Y 0,X Y 0,X Y 0,X Y 0,X Y 0,X Y 0,X Y 0,X Z 0,X Z 0],G none 0 0,X Y 1])) w'):=fun w'=>.inr ⟨by omega,by rw[hwhy];rfl⟩
 clear hr hwhy
 go_enter func206,ntmps206
 go_wp2_with fail
 exact bodyPost_ret (v:=tU #[aG #[X Y 0,X Y 0,X Y 0,X Y 0,X Y 0,X Y 0,X Y 0,X Y 0,X Y 0,X Z 0,X Z 0],G none 0 0,X Y 1]) (by simp[results,results206,go_sem]) rfl ⟨HR.out _,(bR _ _).alloc (nR _) _⟩
theorem parse_no (A:Option Addr)(n c B:Nat)(l:List Nat)(w:World)(hr:Reads w B 1 A n (bv l))(hB:B≤w.heap.size)(hn:n≤140737488355328)(hnc:n≤c)(h20:20≤n)(ha:AllB l)(hno:whyP l≠0):
  Calls Pg 206 #[G A n c] w fun e w'=>ParseRet l w e w'∧Below w.heap.size w w':=by
 have hlen:=hr.length
 obtain⟨v,s,x1,L,x4,x6,x7,x8,x9,x10,x12,x16,hv,hs,hL,hvals,v16,s16,L16⟩:=hd_names l ha
 obtain⟨z,hz⟩:∃z,netN (l.take (4 * s))=z:=⟨_,rfl⟩
 have hcases:=why_cases h20 hlen hv hs hL hz
 have HV:=jH (aI hv hvals)
 have HZ:=jH hz
 have C1:=jH (fun w' (hb:Below w.heap.size w w')=>read_any A n c w'.heap.size l w' ((hr.below (hb.mono hB)).more (nT hB hb.size)) (nR _) hn h20 ha)
 have CN:=jH (fun w' (hb:Below w.heap.size w w') (h4:4 * s≤n)=>net_any w' w'.heap.size A (4 * s) c (l.take (4 * s)) (((hr.below (hb.mono hB)).more (nT hB hb.size)).takeb h4) (by omega) (ha.take _))
 rw[hz] at CN
 obtain⟨r,hwr,hr0⟩:∃r,whyP l=r∧r≠0:=⟨_,rfl,hno⟩
 rw[hwr] at hcases
 have HC:=jH hcases
 have HR:Hid (∀w',ParseRet l w (rT (tU #[aG #[X Y 0,X Y 0,X Y 0,X Y 0,X Y 0,X Y 0,X Y 0,X Y 0,X Y 0,X Z 0,X Z 0],G none 0 0,X Y r])) w'):=fun w'=>.inr ⟨by rw[hwr];exact hr0,by rw[hwr];rfl⟩
 clear hr hlen hv hs hL hvals hz hcases hwr hno ha
 go_enter func206,ntmps206
 go_wp2_with fail
 refine(C1.out _ ((bR _ _).alloc (nR _) _)).mono ?_
 rintro e w1 ⟨he,hb1⟩
 rw[HV.out.1,HV.out.2] at he
 subst he
 have hB1:Below w.heap.size w w1:=((bR _ _).alloc (nR _) _).trans (hb1.mono (by simp))
 have hres:=(Blk.new w 132 #[X Y 0,X Y 0,X Y 0,X Y 0,X Y 0,X Y 0,X Y 0,X Y 0,X Y 0,X Z 0,X Z 0]).below hb1 (by simp)
 clear hb1 C1
 obtain⟨q,hq⟩:∃q,q=w.heap.size:=⟨_,rfl⟩
 rw[←hq] at hres⊢
 have HQ:=jH hq
 clear hq
 go_upto_block 0 with fail
 go_cut [8] (fun v8 wx=>v8=X Y r∧wx=w1.alloc (cL #[X Y s,X Y x1,X Y L,X Y x4,X Y x6,X Y x7,X Y x8,X Y x9,X Y x10,X Z x12,X Z x16] 132))
 case first=>
  rcases HC.out with⟨a1,h⟩|⟨a1,a2,h⟩|⟨a1,a2,a3,h⟩|⟨a1,a2,a3,a4,h⟩|⟨a1,a2,a3,a4,a5,h⟩|⟨a1,a2,a3,a4,a5,a6,h⟩|⟨a1,a2,a3,a4,a5,a6,h⟩
  ·have hb:((v:Int) !=4)=true:=by simp;omega
   have HH:=jH h
   clear a1 h hr0
   go_wp2_with fail
   go_meet
   exact⟨by rw[HH.out];rfl,rfl⟩
  ·have hb:((v:Int) !=4)=false:=by simp;omega
   have HH:=jH h
   clear a1 h hr0
   go_wp2_with fail
   go_meet
   exact⟨by rw[HH.out];rfl,rfl⟩
  ·have hb:((v:Int) !=4)=false:=by simp;omega
   have HH:=jH h
   clear a1 h hr0
   go_wp2_with fail
   go_meet
   exact⟨by rw[HH.out];rfl,rfl⟩
  ·have hb:((v:Int) !=4)=false:=by simp;omega
   have hb2:((z:Int) !=0)=true:=by simp;omega
   have HH:=jH h
   have HN:=jH (fun w' hb=>CN.out w' hb a3)
   clear a1 h hr0 a4
   go_wp2_with fail
   refine(HN.out _ (hB1.alloc hB1.size _)).mono ?_
   rintro e w' ⟨rfl,rfl⟩
   go_wp2_with fail
   go_meet
   exact⟨by rw[HH.out];rfl,rfl⟩
  ·have hb:((v:Int) !=4)=false:=by simp;omega
   have hb2:((z:Int) !=0)=false:=by simp;omega
   have HH:=jH h
   have HN:=jH (fun w' hb=>CN.out w' hb a3)
   clear a1 h hr0 a4
   go_wp2_with fail
   refine(HN.out _ (hB1.alloc hB1.size _)).mono ?_
   rintro e w' ⟨rfl,rfl⟩
   go_wp2_with fail
   go_meet
   exact⟨by rw[HH.out];rfl,rfl⟩
  ·have hb:((v:Int) !=4)=false:=by simp;omega
   have hb2:((z:Int) !=0)=false:=by simp;omega
   have HH:=jH h
   have HN:=jH (fun w' hb=>CN.out w' hb a3)
   clear a1 h hr0 a4
   go_wp2_with fail
   refine(HN.out _ (hB1.alloc hB1.size _)).mono ?_
   rintro e w' ⟨rfl,rfl⟩
   go_wp2_with fail
   go_meet
   exact⟨by rw[HH.out];rfl,rfl⟩
  ·exact absurd h hr0
 case rest=>
  obtain⟨rfl,hwc⟩:=hcut
  have hb2:Below w.heap.size w wc:=by rw[hwc];exact hB1.alloc hB1.size _
  have hres2:Blk wc q 132 #[X Y 0,X Y 0,X Y 0,X Y 0,X Y 0,X Y 0,X Y 0,X Y 0,X Y 0,X Z 0,X Z 0]:=by rw[hwc];exact hres.alloc _
  clear hwc hres hB1 CN HC HV HZ
  obtain⟨he0,he1,he2,he3,he4,he5,he6,he7,he8,he9,he10⟩:=hres2.c11
  obtain⟨hf0,hf1,hf2,hf3,hf4,hf5,hf6,hf7,hf8,hf9,hf10⟩:=hres2.f11
  go_wp2_with fail
  obtain⟨w3,hw3⟩:∃w3,w3=(((((((((((wc).setCell ⟨q,0,none⟩ (X Y 0)).setCell ⟨q,1,none⟩ (X Y 0)).setCell ⟨q,2,none⟩ (X Y 0)).setCell ⟨q,3,none⟩ (X Y 0)).setCell ⟨q,4,none⟩ (X Y 0)).setCell ⟨q,5,none⟩ (X Y 0)).setCell ⟨q,6,none⟩ (X Y 0)).setCell ⟨q,7,none⟩ (X Y 0)).setCell ⟨q,8,none⟩ (X Y 0)).setCell ⟨q,9,none⟩ (X Z 0)).setCell ⟨q,10,none⟩ (X Z 0):=⟨_,rfl⟩
  have hres3:Blk w3 q 132 #[X Y 0,X Y 0,X Y 0,X Y 0,X Y 0,X Y 0,X Y 0,X Y 0,X Y 0,X Z 0,X Z 0]:=by
   rw[hw3]
   have hset:=(((((((((((hres2).set_ 0 (X Y 0)).set_ 1 (X Y 0)).set_ 2 (X Y 0)).set_ 3 (X Y 0)).set_ 4 (X Y 0)).set_ 5 (X Y 0)).set_ 6 (X Y 0)).set_ 7 (X Y 0)).set_ 8 (X Y 0)).set_ 9 (X Z 0)).set_ 10 (X Z 0)
   simp only[List.setIfInBounds_toArray,List.set_cons_zero,List.set_cons_succ] at hset
   exact hset
  have hB3:Below w.heap.size w w3:=by
   rw[hw3]
   exact hb2.trans (((((((((((((bR q wc).setCell (p:=⟨q,0,none⟩) (nR _) _).setCell (p:=⟨q,1,none⟩) (nR _) _).setCell (p:=⟨q,2,none⟩) (nR _) _).setCell (p:=⟨q,3,none⟩) (nR _) _).setCell (p:=⟨q,4,none⟩) (nR _) _).setCell (p:=⟨q,5,none⟩) (nR _) _).setCell (p:=⟨q,6,none⟩) (nR _) _).setCell (p:=⟨q,7,none⟩) (nR _) _).setCell (p:=⟨q,8,none⟩) (nR _) _).setCell (p:=⟨q,9,none⟩) (nR _) _).setCell (p:=⟨q,10,none⟩) (nR _) _:Below q wc _).mono (by rw[HQ.out];exact nR _))
  rw[←hw3]
  clear hw3
  obtain⟨hr0',hr1',hr2',hr3',hr4',hr5',hr6',hr7',hr8',hr9',hr10'⟩:=hres3.c11
  exact bodyPost_ret (v:=tU #[aG #[X Y 0,X Y 0,X Y 0,X Y 0,X Y 0,X Y 0,X Y 0,X Y 0,X Y 0,X Z 0,X Z 0],G none 0 0,X Y r]) (by simp[results,results206,go_sem,hr0',hr1',hr2',hr3',hr4',hr5',hr6',hr7',hr8',hr9',hr10']) rfl ⟨HR.out _,hB3⟩
theorem cell_far {w:World}{q j ph k:Nat}{u:Value}(h:¬ph=q):(w.setCell ⟨q,j,none⟩ u).cell? ⟨ph,k,none⟩=w.cell? ⟨ph,k,none⟩:=
 World.cell?_setCell_other w _ _ u (fun e=>h (by injection e with e1;first|exact e1|exact e1.symm))
theorem own_lower {w:World}{base base' n size:Nat}{e:TypeId}{v:Value}{xs:List Value}(h:w.ownsRow base e size v n xs)(hb:base'≤base):w.ownsRow base' e size v n xs:=by
 refine⟨h.1,?_⟩
 rcases h.2 with hn|⟨g,cap,cur,hv,hg,rest⟩
 ·exact .inl hn
 ·exact .inr ⟨g,cap,cur,hv,by omega,rest⟩
theorem parse_ok (A:Option Addr)(n c B:Nat)(l:List Nat)(w:World)(hr:Reads w B 1 A n (bv l))(hB:B≤w.heap.size)(hn:n≤140737488355328)(hnc:n≤c)(h20:20≤n)(ha:AllB l)(hyes:whyP l=0):
  Calls Pg 206 #[G A n c] w fun e w'=>ParseRet l w e w'∧Below w.heap.size w w':=by
 have hlen:=hr.length
 obtain⟨v,s,x1,L,x4,x6,x7,x8,x9,x10,x12,x16,hv,hs,hL,hvals,v16,s16,L16⟩:=hd_names l ha
 obtain⟨z,hz⟩:∃z,netN (l.take (4 * s))=z:=⟨_,rfl⟩
 have hcases:=why_cases h20 hlen hv hs hL hz
 rw[hyes] at hcases
 obtain⟨a1,a2,a3,a4,a5,a6⟩:v=4∧5≤s∧4 * s≤n∧z=0∧4 * s≤L∧L≤n:=by
  rcases hcases with⟨_,h⟩|⟨_,_,h⟩|⟨_,_,_,h⟩|⟨_,_,_,_,h⟩|⟨_,_,_,_,_,h⟩|⟨_,_,_,_,_,_,h⟩|⟨b1,b2,b3,b4,b5,b6,h⟩
  ·cases h
  ·cases h
  ·cases h
  ·cases h
  ·cases h
  ·cases h
  ·exact⟨b1,b2,b3,b4,b5,b6⟩
 obtain⟨ad,hA,_⟩:=hr.2 (by omega)
 subst hA
 have HV:=jH (aI hv hvals)
 have C1:=jH (fun w' (hb:Below w.heap.size w w')=>read_any (some ad) n c w'.heap.size l w' ((hr.below (hb.mono hB)).more (nT hB hb.size)) (nR _) hn h20 ha)
 have CN:=jH (fun w' (hb:Below w.heap.size w w')=>net_any w' w'.heap.size (some ad) (4 * s) c (l.take (4 * s)) (((hr.below (hb.mono hB)).more (nT hB hb.size)).takeb a3) (by omega) (ha.take _))
 rw[hz] at CN
 have hbody:bodyP l=(l.take L).drop (4 * s):=by unfold bodyP;rw[hL,hs]
 have CC:=jH (fun w' (hb:Below w.heap.size w w')=>clone_any (if c=4 * s then some ad else some (ad.add (4 * s))) (L - 4 * s) (c - 4 * s) w'.heap.size (bodyP l) w' (by
  have h1:=(((hr.below (hb.mono hB)).more (nT hB hb.size)).takeb a6).cut (k:=4 * s) (cap:=c) a5 (by omega)
  rw[Nat.mul_one] at h1
  rw[hbody,show bv ((l.take L).drop (4 * s))=(bv (l.take L)).drop (4 * s) from by simp[bv]]
  by_cases hc:c=4 * s
  ·rw[if_pos hc] at h1⊢;exact h1
  ·rw[if_neg hc] at h1⊢;exact h1) (nR _) (by omega) (fun e=>by split at e<;>cases e))
 have HR:Hid (∀A' c' w',w'.ownsRow w.heap.size 5 1 (G A' (L - 4 * s) c') (L - 4 * s) (bv (bodyP l))→ParseRet l w (rT (tU #[aG #[X Y s,X Y x1,X Y L,X Y x4,X Y x6,X Y x7,X Y x8,X Y x9,X Y x10,X Z x12,X Z x16],G A' (L - 4 * s) c',X Y 0])) w'):=by
  intro A' c' w' ho
  refine .inl ⟨hyes,A',c',?_,?_⟩
  ·rw[hvals,hL,hs]
  ·rw[hL,hs];exact ho
 subst a4
 subst a1
 have a7:L≤c:=by omega
 have a8:4 * s≤c:=by omega
 clear hr hlen hv hs hL hvals hz hcases hyes ha hbody
 have both:∀(A2:Option Addr),(if c=4 * s then some ad else some (ad.add (4 * s)))=A2→Calls Pg 206 #[G (some ad) n c] w fun e w'=>ParseRet l w e w'∧Below w.heap.size w w':=by
  intro A2 hA2
  rw[hA2] at CC
  have HC:=jH (fun h:c=4 * s=>by rw[if_pos h] at hA2;exact hA2)
  have HC2:=jH (fun h:¬c=4 * s=>by rw[if_neg h] at hA2;exact hA2)
  clear hA2
  by_cases hcs:c=4 * s
  ·have e2:=HC.out hcs
   subst e2
   clear HC HC2
   subst hcs
   have hL4:L - 4 * s=0:=by omega
   rw[hL4] at CC HR
   rw[Nat.sub_self] at CC
   clear hL4
   go_enter func206,ntmps206
   go_wp2_with fail
   refine(C1.out _ ((bR _ _).alloc (nR _) _)).mono ?_
   rintro e w1 ⟨he,hb1⟩
   rw[HV.out.1,HV.out.2] at he
   subst he
   have hB1:Below w.heap.size w w1:=((bR _ _).alloc (nR _) _).trans (hb1.mono (by simp))
   have hres:=(Blk.new w 132 #[X Y 0,X Y 0,X Y 0,X Y 0,X Y 0,X Y 0,X Y 0,X Y 0,X Y 0,X Z 0,X Z 0]).below hb1 (by simp)
   clear hb1 C1
   obtain⟨q,hq⟩:∃q,q=w.heap.size:=⟨_,rfl⟩
   rw[←hq] at hres⊢
   have HQ:=jH hq
   clear hq
   go_wp2_with fail
   refine(CN.out _ (hB1.alloc hB1.size _)).mono ?_
   rintro e w' ⟨rfl,rfl⟩
   go_wp2_with fail
   have hres2:=hres.alloc (cL #[X Y s,X Y x1,X Y L,X Y x4,X Y x6,X Y x7,X Y x8,X Y x9,X Y x10,X Z x12,X Z x16] 132)
   have hbh2:=Blk.new w1 132 #[X Y s,X Y x1,X Y L,X Y x4,X Y x6,X Y x7,X Y x8,X Y x9,X Y x10,X Z x12,X Z x16]
   have hB2:Below w.heap.size w (w1.alloc (cL #[X Y s,X Y x1,X Y L,X Y x4,X Y x6,X Y x7,X Y x8,X Y x9,X Y x10,X Z x12,X Z x16] 132)):=hB1.alloc hB1.size _
   have hqp0:¬q=w1.heap.size:=by have:=hres.lt;omega
   generalize w1.alloc (cL #[X Y s,X Y x1,X Y L,X Y x4,X Y x6,X Y x7,X Y x8,X Y x9,X Y x10,X Z x12,X Z x16] 132)=w2 at *
   generalize w1.heap.size=ph at *
   clear hres CN hB1
   obtain⟨hc0,hc1,hc2,hc3,hc4,hc5,hc6,hc7,hc8,hc9,hc10⟩:=hbh2.c11
   have hlt2:=hbh2.lt
   have hqlt:q < w2.heap.size:=hres2.lt
   have hqp:¬q=ph:=hqp0
   have hqp':¬ph=q:=fun e=>hqp e.symm
   obtain⟨hd0,hd1,hd2,hd3,hd4,hd5,hd6,hd7,hd8,hd9,hd10⟩:=hbh2.drew.c11
   have i1:(0:Int)≤4 * (s:Int):=by omega
   have i2:4 * (s:Int)≤(L:Int):=by omega
   have i3:(L:Int)≤((4 * s:Nat):Int):=by omega
   have i4:(4 * (s:Int)).toNat=4 * s:=by omega
   have i5:¬(4 * (s:Int) < 0):=by omega
   have i6:¬((L:Int) < 4 * (s:Int)):=by omega
   have i7:(L:Int)≤4 * (s:Int):=by omega
   have i8:L≤4 * s:=by omega
   have i9:L - 4 * s=0:=by omega
   have i10:¬(4 * (s:Int) < (L:Int)):=by omega
   clear HV
   go_region_held3 (fun wS=>wS.cell? ⟨ph,0,none⟩=some (X Y s)∧wS.cell? ⟨ph,1,none⟩=some (X Y x1)∧wS.cell? ⟨ph,2,none⟩=some (X Y L)∧wS.cell? ⟨ph,3,none⟩=some (X Y x4)∧wS.cell? ⟨ph,4,none⟩=some (X Y x6)∧wS.cell? ⟨ph,5,none⟩=some (X Y x7)∧wS.cell? ⟨ph,6,none⟩=some (X Y x8)∧wS.cell? ⟨ph,7,none⟩=some (X Y x9)∧wS.cell? ⟨ph,8,none⟩=some (X Y x10)∧wS.cell? ⟨ph,9,none⟩=some (X Z x12)∧wS.cell? ⟨ph,10,none⟩=some (X Z x16)) (first|with_reducible exact⟨hc0,hc1,hc2,hc3,hc4,hc5,hc6,hc7,hc8,hc9,hc10⟩|with_reducible exact⟨hd0,hd1,hd2,hd3,hd4,hd5,hd6,hd7,hd8,hd9,hd10⟩|with_reducible exact⟨hk0,hk1,hk2,hk3,hk4,hk5,hk6,hk7,hk8,hk9,hk10⟩|(simp only[cell_far hqp',hk0,hk1,hk2,hk3,hk4,hk5,hk6,hk7,hk8,hk9,hk10,and_self]))
    (first|(go_at_call 266;refine(CC.out _ (hB2.drew)).mono ?_;rintro e w4 ⟨A',c',rfl,hown,hb4⟩;have hbh4:=hbh2.drew.below hb4 hlt2;have hres4:=hres2.drew.below hb4 hqlt;have hk0:=hbh4.cell 0;have hk1:=hbh4.cell 1;have hk2:=hbh4.cell 2;have hk3:=hbh4.cell 3;have hk4:=hbh4.cell 4;have hk5:=hbh4.cell 5;have hk6:=hbh4.cell 6;have hk7:=hbh4.cell 7;have hk8:=hbh4.cell 8;have hk9:=hbh4.cell 9;have hk10:=hbh4.cell 10;simp only[ga,gz,gN] at hk0 hk1 hk2 hk3 hk4 hk5 hk6 hk7 hk8 hk9 hk10;have he0:=hres4.cell 0;have he1:=hres4.cell 1;have he2:=hres4.cell 2;have he3:=hres4.cell 3;have he4:=hres4.cell 4;have he5:=hres4.cell 5;have he6:=hres4.cell 6;have he7:=hres4.cell 7;have he8:=hres4.cell 8;have he9:=hres4.cell 9;have he10:=hres4.cell 10;simp only[ga,gz,gN] at he0 he1 he2 he3 he4 he5 he6 he7 he8 he9 he10;have hf0:=hres4.frozen 0;have hf1:=hres4.frozen 1;have hf2:=hres4.frozen 2;have hf3:=hres4.frozen 3;have hf4:=hres4.frozen 4;have hf5:=hres4.frozen 5;have hf6:=hres4.frozen 6;have hf7:=hres4.frozen 7;have hf8:=hres4.frozen 8;have hf9:=hres4.frozen 9;have hf10:=hres4.frozen 10))
   go_wp2_with fail
   obtain⟨w5,hw5⟩:∃w5,w5=(((((((((((w4).setCell ⟨q,0,none⟩ (X Y s)).setCell ⟨q,1,none⟩ (X Y x1)).setCell ⟨q,2,none⟩ (X Y L)).setCell ⟨q,3,none⟩ (X Y x4)).setCell ⟨q,4,none⟩ (X Y x6)).setCell ⟨q,5,none⟩ (X Y x7)).setCell ⟨q,6,none⟩ (X Y x8)).setCell ⟨q,7,none⟩ (X Y x9)).setCell ⟨q,8,none⟩ (X Y x10)).setCell ⟨q,9,none⟩ (X Z x12)).setCell ⟨q,10,none⟩ (X Z x16):=⟨_,rfl⟩
   have K0:=hres4
   have O0:=hown
   have O1:=own_set_far O0 K0 (by decide) 0 (X Y s)
   have K1:=K0.set_ 0 (X Y s)
   clear O0
   have O2:=own_set_far O1 K1 (by decide) 1 (X Y x1)
   have K2:=K1.set_ 1 (X Y x1)
   clear O1
   have O3:=own_set_far O2 K2 (by decide) 2 (X Y L)
   have K3:=K2.set_ 2 (X Y L)
   clear O2
   have O4:=own_set_far O3 K3 (by decide) 3 (X Y x4)
   have K4:=K3.set_ 3 (X Y x4)
   clear O3
   have O5:=own_set_far O4 K4 (by decide) 4 (X Y x6)
   have K5:=K4.set_ 4 (X Y x6)
   clear O4
   have O6:=own_set_far O5 K5 (by decide) 5 (X Y x7)
   have K6:=K5.set_ 5 (X Y x7)
   clear O5
   have O7:=own_set_far O6 K6 (by decide) 6 (X Y x8)
   have K7:=K6.set_ 6 (X Y x8)
   clear O6
   have O8:=own_set_far O7 K7 (by decide) 7 (X Y x9)
   have K8:=K7.set_ 7 (X Y x9)
   clear O7
   have O9:=own_set_far O8 K8 (by decide) 8 (X Y x10)
   have K9:=K8.set_ 8 (X Y x10)
   clear O8
   have O10:=own_set_far O9 K9 (by decide) 9 (X Z x12)
   have K10:=K9.set_ 9 (X Z x12)
   clear O9
   have O11:=own_set_far O10 K10 (by decide) 10 (X Z x16)
   have K11:=K10.set_ 10 (X Z x16)
   clear O10
   have hres5:Blk w5 q 132 #[X Y s,X Y x1,X Y L,X Y x4,X Y x6,X Y x7,X Y x8,X Y x9,X Y x10,X Z x12,X Z x16]:=by
    rw[hw5]
    simp only[List.setIfInBounds_toArray,List.set_cons_zero,List.set_cons_succ] at K11
    exact K11
   have hown5:w5.ownsRow w.heap.size 5 1 (G A' 0 c') 0 (bv (bodyP l)):=by
    rw[hw5]
    exact own_lower O11 (by have:=hB2.drew.size;exact this)
   have hB5:Below w.heap.size w w5:=by
    rw[hw5]
    exact(hB2.drew.trans (hb4.mono hB2.drew.size)).trans (((((((((((((bR q w4).setCell (p:=⟨q,0,none⟩) (nR _) _).setCell (p:=⟨q,1,none⟩) (nR _) _).setCell (p:=⟨q,2,none⟩) (nR _) _).setCell (p:=⟨q,3,none⟩) (nR _) _).setCell (p:=⟨q,4,none⟩) (nR _) _).setCell (p:=⟨q,5,none⟩) (nR _) _).setCell (p:=⟨q,6,none⟩) (nR _) _).setCell (p:=⟨q,7,none⟩) (nR _) _).setCell (p:=⟨q,8,none⟩) (nR _) _).setCell (p:=⟨q,9,none⟩) (nR _) _).setCell (p:=⟨q,10,none⟩) (nR _) _:Below q w4 _).mono (by rw[HQ.out];exact nR _))
   rw[←hw5]
   clear hw5 K11 O11
   obtain⟨hr0,hr1,hr2,hr3,hr4,hr5,hr6,hr7,hr8,hr9,hr10⟩:=hres5.c11
   exact bodyPost_ret (v:=tU #[aG #[X Y s,X Y x1,X Y L,X Y x4,X Y x6,X Y x7,X Y x8,X Y x9,X Y x10,X Z x12,X Z x16],G A' 0 c',X Y 0]) (by simp[results,results206,go_sem,hr0,hr1,hr2,hr3,hr4,hr5,hr6,hr7,hr8,hr9,hr10]) rfl ⟨HR.out _ _ _ hown5,hB5⟩
  ·have e2:=HC2.out hcs
   subst e2
   clear HC HC2
   go_enter func206,ntmps206
   go_wp2_with fail
   refine(C1.out _ ((bR _ _).alloc (nR _) _)).mono ?_
   rintro e w1 ⟨he,hb1⟩
   rw[HV.out.1,HV.out.2] at he
   subst he
   have hB1:Below w.heap.size w w1:=((bR _ _).alloc (nR _) _).trans (hb1.mono (by simp))
   have hres:=(Blk.new w 132 #[X Y 0,X Y 0,X Y 0,X Y 0,X Y 0,X Y 0,X Y 0,X Y 0,X Y 0,X Z 0,X Z 0]).below hb1 (by simp)
   clear hb1 C1
   obtain⟨q,hq⟩:∃q,q=w.heap.size:=⟨_,rfl⟩
   rw[←hq] at hres⊢
   have HQ:=jH hq
   clear hq
   go_wp2_with fail
   refine(CN.out _ (hB1.alloc hB1.size _)).mono ?_
   rintro e w' ⟨rfl,rfl⟩
   go_wp2_with fail
   have hres2:=hres.alloc (cL #[X Y s,X Y x1,X Y L,X Y x4,X Y x6,X Y x7,X Y x8,X Y x9,X Y x10,X Z x12,X Z x16] 132)
   have hbh2:=Blk.new w1 132 #[X Y s,X Y x1,X Y L,X Y x4,X Y x6,X Y x7,X Y x8,X Y x9,X Y x10,X Z x12,X Z x16]
   have hB2:Below w.heap.size w (w1.alloc (cL #[X Y s,X Y x1,X Y L,X Y x4,X Y x6,X Y x7,X Y x8,X Y x9,X Y x10,X Z x12,X Z x16] 132)):=hB1.alloc hB1.size _
   have hqp0:¬q=w1.heap.size:=by have:=hres.lt;omega
   generalize w1.alloc (cL #[X Y s,X Y x1,X Y L,X Y x4,X Y x6,X Y x7,X Y x8,X Y x9,X Y x10,X Z x12,X Z x16] 132)=w2 at *
   generalize w1.heap.size=ph at *
   clear hres CN hB1
   obtain⟨hc0,hc1,hc2,hc3,hc4,hc5,hc6,hc7,hc8,hc9,hc10⟩:=hbh2.c11
   have hlt2:=hbh2.lt
   have hqlt:q < w2.heap.size:=hres2.lt
   have hqp:¬q=ph:=hqp0
   have hqp':¬ph=q:=fun e=>hqp e.symm
   obtain⟨hd0,hd1,hd2,hd3,hd4,hd5,hd6,hd7,hd8,hd9,hd10⟩:=hbh2.drew.c11
   have i1:(0:Int)≤4 * (s:Int):=by omega
   have i2:4 * (s:Int)≤(L:Int):=by omega
   have i3:(L:Int)≤((c:Nat):Int):=by omega
   have i4:(4 * (s:Int)).toNat=4 * s:=by omega
   have i5:¬(4 * (s:Int) < 0):=by omega
   have i6:¬((L:Int) < 4 * (s:Int)):=by omega
   clear HV
   go_region_held3 (fun wS=>wS.cell? ⟨ph,0,none⟩=some (X Y s)∧wS.cell? ⟨ph,1,none⟩=some (X Y x1)∧wS.cell? ⟨ph,2,none⟩=some (X Y L)∧wS.cell? ⟨ph,3,none⟩=some (X Y x4)∧wS.cell? ⟨ph,4,none⟩=some (X Y x6)∧wS.cell? ⟨ph,5,none⟩=some (X Y x7)∧wS.cell? ⟨ph,6,none⟩=some (X Y x8)∧wS.cell? ⟨ph,7,none⟩=some (X Y x9)∧wS.cell? ⟨ph,8,none⟩=some (X Y x10)∧wS.cell? ⟨ph,9,none⟩=some (X Z x12)∧wS.cell? ⟨ph,10,none⟩=some (X Z x16)) (first|with_reducible exact⟨hc0,hc1,hc2,hc3,hc4,hc5,hc6,hc7,hc8,hc9,hc10⟩|with_reducible exact⟨hd0,hd1,hd2,hd3,hd4,hd5,hd6,hd7,hd8,hd9,hd10⟩|with_reducible exact⟨hk0,hk1,hk2,hk3,hk4,hk5,hk6,hk7,hk8,hk9,hk10⟩|(simp only[cell_far hqp',hk0,hk1,hk2,hk3,hk4,hk5,hk6,hk7,hk8,hk9,hk10,and_self]))
    (first|(go_at_call 266;refine(CC.out _ (hB2.drew)).mono ?_;rintro e w4 ⟨A',c',rfl,hown,hb4⟩;have hbh4:=hbh2.drew.below hb4 hlt2;have hres4:=hres2.drew.below hb4 hqlt;have hk0:=hbh4.cell 0;have hk1:=hbh4.cell 1;have hk2:=hbh4.cell 2;have hk3:=hbh4.cell 3;have hk4:=hbh4.cell 4;have hk5:=hbh4.cell 5;have hk6:=hbh4.cell 6;have hk7:=hbh4.cell 7;have hk8:=hbh4.cell 8;have hk9:=hbh4.cell 9;have hk10:=hbh4.cell 10;simp only[ga,gz,gN] at hk0 hk1 hk2 hk3 hk4 hk5 hk6 hk7 hk8 hk9 hk10;have he0:=hres4.cell 0;have he1:=hres4.cell 1;have he2:=hres4.cell 2;have he3:=hres4.cell 3;have he4:=hres4.cell 4;have he5:=hres4.cell 5;have he6:=hres4.cell 6;have he7:=hres4.cell 7;have he8:=hres4.cell 8;have he9:=hres4.cell 9;have he10:=hres4.cell 10;simp only[ga,gz,gN] at he0 he1 he2 he3 he4 he5 he6 he7 he8 he9 he10;have hf0:=hres4.frozen 0;have hf1:=hres4.frozen 1;have hf2:=hres4.frozen 2;have hf3:=hres4.frozen 3;have hf4:=hres4.frozen 4;have hf5:=hres4.frozen 5;have hf6:=hres4.frozen 6;have hf7:=hres4.frozen 7;have hf8:=hres4.frozen 8;have hf9:=hres4.frozen 9;have hf10:=hres4.frozen 10))
   go_wp2_with fail
   obtain⟨w5,hw5⟩:∃w5,w5=(((((((((((w4).setCell ⟨q,0,none⟩ (X Y s)).setCell ⟨q,1,none⟩ (X Y x1)).setCell ⟨q,2,none⟩ (X Y L)).setCell ⟨q,3,none⟩ (X Y x4)).setCell ⟨q,4,none⟩ (X Y x6)).setCell ⟨q,5,none⟩ (X Y x7)).setCell ⟨q,6,none⟩ (X Y x8)).setCell ⟨q,7,none⟩ (X Y x9)).setCell ⟨q,8,none⟩ (X Y x10)).setCell ⟨q,9,none⟩ (X Z x12)).setCell ⟨q,10,none⟩ (X Z x16):=⟨_,rfl⟩
   have K0:=hres4
   have O0:=hown
   have O1:=own_set_far O0 K0 (by decide) 0 (X Y s)
   have K1:=K0.set_ 0 (X Y s)
   clear O0
   have O2:=own_set_far O1 K1 (by decide) 1 (X Y x1)
   have K2:=K1.set_ 1 (X Y x1)
   clear O1
   have O3:=own_set_far O2 K2 (by decide) 2 (X Y L)
   have K3:=K2.set_ 2 (X Y L)
   clear O2
   have O4:=own_set_far O3 K3 (by decide) 3 (X Y x4)
   have K4:=K3.set_ 3 (X Y x4)
   clear O3
   have O5:=own_set_far O4 K4 (by decide) 4 (X Y x6)
   have K5:=K4.set_ 4 (X Y x6)
   clear O4
   have O6:=own_set_far O5 K5 (by decide) 5 (X Y x7)
   have K6:=K5.set_ 5 (X Y x7)
   clear O5
   have O7:=own_set_far O6 K6 (by decide) 6 (X Y x8)
   have K7:=K6.set_ 6 (X Y x8)
   clear O6
   have O8:=own_set_far O7 K7 (by decide) 7 (X Y x9)
   have K8:=K7.set_ 7 (X Y x9)
   clear O7
   have O9:=own_set_far O8 K8 (by decide) 8 (X Y x10)
   have K9:=K8.set_ 8 (X Y x10)
   clear O8
   have O10:=own_set_far O9 K9 (by decide) 9 (X Z x12)
   have K10:=K9.set_ 9 (X Z x12)
   clear O9
   have O11:=own_set_far O10 K10 (by decide) 10 (X Z x16)
   have K11:=K10.set_ 10 (X Z x16)
   clear O10
   have hres5:Blk w5 q 132 #[X Y s,X Y x1,X Y L,X Y x4,X Y x6,X Y x7,X Y x8,X Y x9,X Y x10,X Z x12,X Z x16]:=by
    rw[hw5]
    simp only[List.setIfInBounds_toArray,List.set_cons_zero,List.set_cons_succ] at K11
    exact K11
   have hown5:w5.ownsRow w.heap.size 5 1 (G A' (L - 4 * s) c') (L - 4 * s) (bv (bodyP l)):=by
    rw[hw5]
    exact own_lower O11 (by have:=hB2.drew.size;exact this)
   have hB5:Below w.heap.size w w5:=by
    rw[hw5]
    exact(hB2.drew.trans (hb4.mono hB2.drew.size)).trans (((((((((((((bR q w4).setCell (p:=⟨q,0,none⟩) (nR _) _).setCell (p:=⟨q,1,none⟩) (nR _) _).setCell (p:=⟨q,2,none⟩) (nR _) _).setCell (p:=⟨q,3,none⟩) (nR _) _).setCell (p:=⟨q,4,none⟩) (nR _) _).setCell (p:=⟨q,5,none⟩) (nR _) _).setCell (p:=⟨q,6,none⟩) (nR _) _).setCell (p:=⟨q,7,none⟩) (nR _) _).setCell (p:=⟨q,8,none⟩) (nR _) _).setCell (p:=⟨q,9,none⟩) (nR _) _).setCell (p:=⟨q,10,none⟩) (nR _) _:Below q w4 _).mono (by rw[HQ.out];exact nR _))
   rw[←hw5]
   clear hw5 K11 O11
   obtain⟨hr0,hr1,hr2,hr3,hr4,hr5,hr6,hr7,hr8,hr9,hr10⟩:=hres5.c11
   exact bodyPost_ret (v:=tU #[aG #[X Y s,X Y x1,X Y L,X Y x4,X Y x6,X Y x7,X Y x8,X Y x9,X Y x10,X Z x12,X Z x16],G A' (L - 4 * s) c',X Y 0]) (by simp[results,results206,go_sem,hr0,hr1,hr2,hr3,hr4,hr5,hr6,hr7,hr8,hr9,hr10]) rfl ⟨HR.out _ _ _ hown5,hB5⟩
 exact both _ rfl
theorem parse_any (A:Option Addr)(n c B:Nat)(l:List Nat)(w:World)(hr:Reads w B 1 A n (bv l))(hB:B≤w.heap.size)(hn:n≤140737488355328)(hnc:n≤c)(ha:AllB l):
  Calls Pg 206 #[G A n c] w fun e w'=>ParseRet l w e w'∧Below w.heap.size w w':=by
 by_cases h20:n < 20
 ·exact parse_short A n c B l w hr h20
 ·by_cases h:whyP l=0
  ·exact parse_ok A n c B l w hr hB hn hnc (by omega) ha h
  ·exact parse_no A n c B l w hr hB hn hnc (by omega) ha h
theorem build1_any (b:Nat)(h:Hd)(c:Nat)(w:World)(hc:c < 65536)(hok:HdOk h)(hbk:Blk w b 132 h.vals):
  Calls Pg 262 #[X .u16 c,PT (some ⟨b,0,none⟩)] w fun e w'=>∃A c',e=rT (G A 20 c')∧w'.ownsRow w.heap.size 5 1 (G A 20 c') 20 (bv (headB h c))∧Below w.heap.size w w':=by
 have HB:=jH (fun w' (hb:Below w.heap.size w w')=>hbk.below hb hbk.lt)
 have HH:Hid (headB h c=be (u64n 69) 1++be (u64n h.tos) 1++be (u64n h.len) 2++be (u64n h.id) 2++be (u64n (bits .or .i64 (IntKind.i64.wrap (h.flags * 8192)) ((h.off % 8192).toNat:Int))) 2++be (u64n h.ttl) 1++be (u64n h.proto) 1++be (u64n (c:Int)) 2++be h.src 4++be h.dst 4):=by
  show _=_
  rw[flof_or,u64n_nat c (by omega)]
  rfl
 have U8:=jH (fun p z l w'=>u8w_any p w.heap.size z l w')
 have U16:=jH (fun p z l w'=>u16w_any p w.heap.size z l w')
 have U32:=jH (fun p n l w'=>u32_any p w.heap.size n l w')
 obtain⟨ihl,tos,len,id,flags,off,ttl,proto,sum,src,dst⟩:=h
 obtain⟨k0,k1,k2,k3,k4,k5,k6,k7,k8,k9,k10⟩:=hok
 have hand:bits BinOp.and IntKind.i64 off 8191=((off % 8192).toNat:Int):=i64_and_mask 13 (by omega) off
 have hol:(off % 8192).toNat < 8192:=by omega
 dsimp only at HH k9 k10
 generalize (off % 8192).toNat=o at *
 obtain⟨zf,hzf⟩:∃zf,zf=bits BinOp.or .i64 (IntKind.i64.wrap (flags * 8192)) (o:Int):=⟨_,rfl⟩
 rw[←hzf] at HH
 have HL:=jH hzf
 clear hzf hbk k0 k1 k2 k3 k6 k7 k8
 go_enter func262,ntmps262
 go_wp2_with fail
 have hw0:WBuf (w.alloc (cL #[G none 0 0] 251)) w.heap.size w.heap.size []:=⟨nR _,none,0,Blk.new_ rfl,World.ownsRow_nil _ _ _ _⟩
 have hB0:Below w.heap.size w (w.alloc (cL #[G none 0 0] 251)):=(bR _ _).alloc (nR _) _
 generalize w.alloc (cL #[G none 0 0] 251)=v0 at *
 refine(U8.out w.heap.size 69 [] v0 (by simp) hw0 hB0.size).mono ?_
 rintro e v1 ⟨rfl,hw1,hb1⟩
 have hB1:=hB0.trans hb1
 rw[List.nil_append] at hw1
 clear hw0 hB0 hb1
 have hk1:=(HB.out v1 hB1).cell 1
 simp only[Hd.vals,ga,gz,gN] at hk1
 go_wp2_with fail
 refine(U8.out w.heap.size tos _ v1 (by simp[be_length]) hw1 hB1.size).mono ?_
 rintro e v2 ⟨rfl,hw2,hb2⟩
 have hB2:=hB1.trans hb2
 clear hw1 hB1 hb2 hk1
 have hk2:=(HB.out v2 hB2).cell 2
 simp only[Hd.vals,ga,gz,gN] at hk2
 go_wp2_with fail
 refine(U16.out w.heap.size len _ v2 (by simp[be_length]) hw2 hB2.size).mono ?_
 rintro e v3 ⟨rfl,hw3,hb3⟩
 have hB3:=hB2.trans hb3
 clear hw2 hB2 hb3 hk2
 have hk3:=(HB.out v3 hB3).cell 3
 simp only[Hd.vals,ga,gz,gN] at hk3
 go_wp2_with fail
 refine(U16.out w.heap.size id _ v3 (by simp[be_length]) hw3 hB3.size).mono ?_
 rintro e v4 ⟨rfl,hw4,hb4⟩
 have hB4:=hB3.trans hb4
 clear hw3 hB3 hb4 hk3
 have hk4:=(HB.out v4 hB4).cell 4
 have hk5:=(HB.out v4 hB4).cell 5
 simp only[Hd.vals,ga,gz,gN] at hk4 hk5
 go_wp2_with fail
 have hor:bits BinOp.or IntKind.i64 (wrap64 (flags * 8192)) (o:Int)=zf:=by
  rw[HL.out,IntKind.wrap_i64,wrap64]
 rw[hor]
 clear hor
 refine(U16.out w.heap.size zf _ v4 (by simp[be_length]) hw4 hB4.size).mono ?_
 rintro e v5 ⟨rfl,hw5,hb5⟩
 have hB5:=hB4.trans hb5
 clear hw4 hB4 hb5 hk4 hk5
 have hk6:=(HB.out v5 hB5).cell 6
 simp only[Hd.vals,ga,gz,gN] at hk6
 go_wp2_with fail
 refine(U8.out w.heap.size ttl _ v5 (by simp[be_length]) hw5 hB5.size).mono ?_
 rintro e v6 ⟨rfl,hw6,hb6⟩
 have hB6:=hB5.trans hb6
 clear hw5 hB5 hb6 hk6
 have hk7:=(HB.out v6 hB6).cell 7
 simp only[Hd.vals,ga,gz,gN] at hk7
 go_wp2_with fail
 refine(U8.out w.heap.size proto _ v6 (by simp[be_length]) hw6 hB6.size).mono ?_
 rintro e v7 ⟨rfl,hw7,hb7⟩
 have hB7:=hB6.trans hb7
 clear hw6 hB6 hb7 hk7
 go_wp2_with fail
 refine(U16.out w.heap.size (c:Int) _ v7 (by simp[be_length]) hw7 hB7.size).mono ?_
 rintro e v8 ⟨rfl,hw8,hb8⟩
 have hB8:=hB7.trans hb8
 clear hw7 hB7 hb8
 have hk9:=(HB.out v8 hB8).cell 9
 simp only[Hd.vals,ga,gz,gN] at hk9
 go_wp2_with fail
 refine(U32.out w.heap.size src _ v8 (by omega) (by simp[be_length]) hw8 hB8.size).mono ?_
 rintro e v9 ⟨rfl,hw9,hb9⟩
 have hB9:=hB8.trans hb9
 clear hw8 hB8 hb9 hk9
 have hk10:=(HB.out v9 hB9).cell 10
 simp only[Hd.vals,ga,gz,gN] at hk10
 go_wp2_with fail
 refine(U32.out w.heap.size dst _ v9 (by omega) (by simp[be_length]) hw9 hB9.size).mono ?_
 rintro e v10 ⟨rfl,hw10,hb10⟩
 have hB10:=hB9.trans hb10
 clear hw9 hB9 hb10 hk10
 go_wp2_with fail
 have hlen:(be (u64n 69) 1++be (u64n tos) 1++be (u64n len) 2++be (u64n id) 2++be (u64n zf) 2++be (u64n ttl) 1++be (u64n proto) 1++be (u64n (c:Int)) 2++be src 4++be dst 4).length=20:=by simp[be_length]
 rw[←HH.out] at hw10 hlen
 have CB:=jH (bytes_any w.heap.size w.heap.size _ v10 hw10 (by rw[hlen];omega))
 rw[hlen] at CB
 clear hw10 hlen
 refine CB.out.mono ?_
 rintro e w' ⟨A',c',rfl,hown,hb⟩
 have hsz:=hB10.size
 go_wp2_with fail
 go_ret
 exact⟨A',c',rfl,own_lower hown hsz,hB10.trans (hb.mono hsz)⟩
theorem build_any (h:Hd)(w:World)(hok:HdOk h):
  Calls Pg 160 #[.agg h.vals] w fun e w'=>∃A c',e=rT (G A 20 c')∧w'.ownsRow w.heap.size 5 1 (G A 20 c') 20 (bv (buildB h))∧Below w.heap.size w w':=by
 have hbk:Blk (w.alloc (.cells h.vals 132)) w.heap.size 132 h.vals:=Blk.new _ _ _
 have hB0:Below w.heap.size w (w.alloc (.cells h.vals 132)):=(bR _ _).alloc (nR _) _
 have C1:=jH (build1_any w.heap.size h 0 _ (by omega) hok hbk)
 have C2:=jH (fun c w' (hc:c < 65536) (hb:Below (w.alloc (.cells h.vals 132)).heap.size (w.alloc (.cells h.vals 132)) w')=>build1_any w.heap.size h c w' hc hok (hbk.below hb hbk.lt))
 have hall:=jH (headB_all h 0)
 have hnl:=netN_lt (headB h 0)
 have HD:Hid (buildB h=headB h (netN (headB h 0))):=rfl
 have hsz:w.heap.size≤(w.alloc (.cells h.vals 132)).heap.size:=by simp
 clear hbk hok
 unfold Hd.vals at *
 go_enter func160,ntmps160
 go_wp2_with fail
 refine C1.out.mono ?_
 rintro e w1 ⟨A1,c1,rfl,hown1,hb1⟩
 have hr1:=Reads.of_own hown1
 clear hown1 C1
 go_wp2_with fail
 refine(net_any w1 _ A1 20 c1 (headB h 0) hr1 (by omega) hall.out).mono ?_
 rintro e w' ⟨rfl,rfl⟩
 generalize netN (headB h 0)=z at *
 go_wp2_with fail
 refine(C2.out z w1 hnl hb1).mono ?_
 rintro e w2 ⟨A2,c2,rfl,hown2,hb2⟩
 have hs1:=hb1.size
 have hB1:=hB0.trans (hb1.mono hsz)
 have hB2:=hB1.trans (hb2.mono (nT hsz hs1))
 rw[←HD.out] at hown2
 go_wp2_with fail
 go_ret
 exact⟨A2,c2,rfl,own_lower hown2 (nT hsz hs1),hB2⟩
namespace R1
theorem folded_any (s:Nat)(hs:s < 4294967296)(w:World):
  Calls Pg 356 #[X Z s] w fun e w'=>e=rT (X Z (fo s))∧w=w':=by
 go_enter func356,ntmps356
 go_wp2
 go_loop [0] (fun t=>∃k:Nat,k < 4294967296∧Hid (fo k=fo s)∧t=X Z k) (fun t=>(intOf t).toNat)
 case atStart=>exact⟨s,hs,rfl,rfl⟩
 case round=>
  obtain⟨k,hk,hf,rfl⟩:=hrel
  by_cases h:65535 < k
  ·have hb:bits BinOp.and IntKind.u32 (k:Int) 65535=((k % 65536:Nat):Int):=by
    have:=u32_and_nat k 65535 hk (by omega)
    rw[nat_mask16] at this
    exact this
   have hr:(((k:Int) / 65536 + ((k % 65536:Nat):Int)) % 4294967296)=((k / 65536 + k % 65536:Nat):Int):=by omega
   have HB:=jH hb
   have HR:=jH hr
   clear hb hr
   go_wp2
   go_round
   case rel=>exact⟨k / 65536 + k % 65536,by omega,by rw[←hf.out];exact fo_step h,by rw[HB.out,HR.out]⟩
   case measure=>rw[HB.out,HR.out];simp only[intOf];omega
  ·go_wp2
   go_ret
   exact⟨ret_int (by rw[←hf.out,fo_small (by omega)]),rfl⟩
theorem folded_at (z:Int)(h0:0≤z)(h1:z < 4294967296)(w:World):
  Calls Pg 356 #[X Z z] w fun e w'=>e=rT (X Z (fo z.toNat))∧w=w':=by
 obtain⟨n,rfl⟩:=Int.eq_ofNat_of_zero_le h0
 exact folded_any n (by omega) w
theorem fold_any (s:Nat)(hs:s < 4294967296)(w:World):
  Calls Pg 242 #[X Z s] w fun e w'=>e=rT (X .u16 (foldN s))∧w=w':=by
 have hl:=fo_le s
 go_enter func242,ntmps242
 go_wp2_with (go_at_call 356;refine(folded_any s hs _).mono ?_;rintro e w' ⟨rfl,rfl⟩)
 go_ret
 exact⟨ret_int (not_u16 _ hl),rfl⟩
theorem part_any (s:Nat)(hs:s < 4294967296)(w:World)(B:Nat)(A:Option Addr)(n c:Nat)(l:List Nat)(h:Reads w B 1 A n (bv l))(hn:n≤281474976710656)(hb:AllB l):
  Calls Pg 243 #[X Z s,G A n c] w fun e w'=>e=rT (X Z (partN s l))∧w=w':=by
 have hln:l.length=n:=by have:=h.1;rw[bv_length] at this;omega
 have hfs:=fo_le s
 go_enter func243,ntmps243
 go_wp2_with (go_at_call 356;refine(folded_any s hs _).mono ?_;rintro e w' ⟨rfl,rfl⟩)
 go_loop [0,5] (fun t i=>∃k:Nat,2 * k≤n + 1∧i=X Y (2 * (k:Int))∧t=X Z (partN s (l.take (2 * k)))) (fun _ i=>n + 1 - (intOf i).toNat)
 case atStart=>exact⟨0,by omega,rfl,by simp[partN,wsum]⟩
 case round=>
  obtain⟨k,hk,rfl,rfl⟩:=hrel
  have hp:=partN_le s (l.take (2 * k))
  generalize hP:partN s (l.take (2 * k))=p at hp
  have HP:=jH hP
  clear hP
  by_cases hlt:2 * k < n
  ·obtain⟨ad,hl0,rfl,hc0⟩:=bytes_at h hlt
   have hx:=hb _ (List.getElem_mem hl0)
   generalize hX:l[2 * k]=x at hc0 hx
   have HX:=jH hX
   clear hX
   by_cases hlt1:2 * k + 1 < n
   ·obtain⟨_,hl1,e,hc1⟩:=bytes_at h hlt1
    cases e
    have hy:=hb _ (List.getElem_mem hl1)
    rw[add_succ] at hc1
    generalize hY:l[2 * k + 1]=y at hc1 hy
    have HY:=jH hY
    clear hY h
    have HF:Hid (fo (p + (x * 256 + y))=partN s (l.take (2 * (k + 1)))):=by
     show _=_
     rw[partN,wsum_take_two l k (by omega),HX.out,HY.out,←HP.out,partN,fo_add,Nat.add_assoc]
    have hor:bits BinOp.or IntKind.u32 ((x:Int) * 256) (y:Int)=((x * 256 + y:Nat):Int):=by
     have:=u32_or_nat (x * 256) y (by omega) (by omega)
     rw[nat_join 8 (x * 256) y (by omega) (by omega)] at this
     exact this
    go_wp2_with (go_at_call 356;refine(folded_at _ (by omega) (by omega) _).mono ?_;rintro e w' ⟨rfl,rfl⟩)
    go_round
    case rel=>exact⟨k + 1,by omega,by go_num,by rw[←HF.out];congr 3⟩
    case measure=>simp[intOf];omega
   ·have HF:Hid (fo (p + x * 256)=partN s (l.take (2 * (k + 1)))):=by
     show _=_
     rw[partN,List.take_of_length_le (by omega),wsum_take_last l k (by omega),HX.out,←HP.out,partN,fo_add,Nat.add_assoc]
    clear h
    go_wp2_with (go_at_call 356;refine(folded_at _ (by omega) (by omega) _).mono ?_;rintro e w' ⟨rfl,rfl⟩)
    go_round
    case rel=>exact⟨k + 1,by omega,by go_num,by rw[←HF.out];congr 3⟩
    case measure=>simp[intOf];omega
  ·have HF:Hid (p=partN s l):=by
    show _=_
    rw[←HP.out,List.take_of_length_le (by omega)]
   go_wp2
   go_ret
   exact⟨ret_int (by rw[HF.out]),rfl⟩
theorem net_any (w:World)(B:Nat)(A:Option Addr)(n c:Nat)(l:List Nat)(h:Reads w B 1 A n (bv l))(hn:n≤281474976710656)(hb:AllB l):
  Calls Pg 132 #[G A n c] w fun e w'=>e=rT (X .u16 (netN l))∧w=w':=by
 have hp:=partN_le 0 l
 have HF:=jH (net_of l)
 go_enter func132,ntmps132
 go_wp2_with (first|(go_at_call 243;refine(part_any 0 (by omega) _ B A n c l h hn hb).mono ?_;rintro e w' ⟨rfl,rfl⟩)|(go_at_call 242;refine(fold_any _ (by omega) _).mono ?_;rintro e w' ⟨rfl,rfl⟩))
 go_ret
 exact⟨ret_int (by rw[HF.out]),rfl⟩
end R1
theorem u16ref_any (z:Int)(w:World)(hz:-9223372036854775808≤z∧z≤9223372036854775807):
  Calls Pg 130 #[X Y z] w fun e w'=>e=rT (G (some ⟨w.heap.size,0,none⟩) 2 2)∧w.alloc (cL #[X .u8 ((u64n z) / 256 % 256:Nat),X .u8 ((u64n z) % 256:Nat)] 5)=w':=by
 have h1:Hid (z % 256=((u64n z % 256:Nat):Int)):=by show _=_;unfold u64n;omega
 have h2:Hid (z / 256 % 256=((u64n z / 256 % 256:Nat):Int)):=by show _=_;unfold u64n;omega
 go_enter func130,ntmps130
 go_wp2_with fail
 rw[h1.out,h2.out]
 go_ret
 exact⟨rfl,rfl⟩
theorem u32ref_any (z:Nat)(w:World)(hz:z < 4294967296):
  Calls Pg 131 #[X Z z] w fun e w'=>e=rT (G (some ⟨w.heap.size,0,none⟩) 4 4)∧w.alloc (cL #[X .u8 (z / 16777216 % 256:Nat),X .u8 (z / 65536 % 256:Nat),X .u8 (z / 256 % 256:Nat),X .u8 (z % 256:Nat)] 5)=w':=by
 have h1:Hid ((z:Int) / 16777216=((z / 16777216 % 256:Nat):Int)):=by show _=_;omega
 have h2:Hid ((z:Int) / 65536 % 256=((z / 65536 % 256:Nat):Int)):=by show _=_;omega
 have h3:Hid ((z:Int) / 256 % 256=((z / 256 % 256:Nat):Int)):=by show _=_;omega
 have h4:Hid ((z:Int) % 256=((z % 256:Nat):Int)):=by show _=_;omega
 go_enter func131,ntmps131
 go_wp2_with fail
 rw[h1.out,h2.out,h3.out,h4.out]
 go_ret
 exact⟨rfl,rfl⟩
theorem headB_list (h:Hd)(c:Nat):headB h c=[69,u64n h.tos % 256,u64n h.len / 256 % 256,u64n h.len % 256,u64n h.id / 256 % 256,u64n h.id % 256,flof h / 256 % 256,flof h % 256,u64n h.ttl % 256,u64n h.proto % 256,c / 256 % 256,c % 256,
  h.src / 16777216 % 256,h.src / 65536 % 256,h.src / 256 % 256,h.src % 256,h.dst / 16777216 % 256,h.dst / 65536 % 256,h.dst / 256 % 256,h.dst % 256]:=by
 simp[headB,be_one,be_two,be_four]
theorem wsum_head (h:Hd)(c:Nat)(hc:c < 65536):wsum (headB h c)=wsum (headB h 0) + c:=by
 rw[headB_list,headB_list]
 simp only[wsum]
 omega
theorem net_build (h:Hd):netN (buildB h)=0:=by
 unfold buildB
 have e:=wsum_head h (netN (headB h 0)) (netN_lt _)
 unfold netN at e⊢
 rw[e,fo_behind]
theorem at_append {a b:List Nat}{j:Nat}(h:j < a.length):at' (a++b) j=at' a j:=by
 unfold at'
 simp[List.getD_eq_getElem?_getD,List.getElem?_append_left h]
theorem two_append {a b:List Nat}{j:Nat}(h:j + 1 < a.length):two' (a++b) j=two' a j:=by
 unfold two'
 rw[at_append (by omega),at_append h]
theorem four_append {a b:List Nat}{j:Nat}(h:j + 3 < a.length):four' (a++b) j=four' a j:=by
 unfold four'
 rw[two_append (by omega),two_append (j:=j + 2) (by omega)]
theorem hdP_append {a:List Nat}(b:List Nat)(h:20≤a.length):hdP (a++b)=hdP a:=by
 unfold hdP ihlP lenP
 rw[at_append (by omega),at_append (by omega),two_append (by omega),two_append (by omega),two_append (by omega),at_append (by omega),at_append (by omega),two_append (by omega),four_append (by omega),four_append (by omega)]
theorem ihl_append {a:List Nat}(b:List Nat)(h:20≤a.length):ihlP (a++b)=ihlP a:=by
 unfold ihlP;rw[at_append (by omega)]
theorem len_append {a:List Nat}(b:List Nat)(h:20≤a.length):lenP (a++b)=lenP a:=by
 unfold lenP;rw[two_append (by omega)]
theorem head_at0 (h:Hd)(c:Nat):at' (headB h c) 0=69:=by rw[headB_list];rfl
theorem head_ihl (h:Hd)(c:Nat):ihlP (headB h c)=5:=by unfold ihlP;rw[head_at0]
theorem head_len (h:Hd)(c:Nat):lenP (headB h c)=u64n h.len % 65536:=by
 unfold lenP two'
 rw[headB_list]
 show u64n h.len / 256 % 256 * 256 + u64n h.len % 256=_
 omega
theorem why_build (h:Hd)(r:List Nat)(hlen:20≤u64n h.len % 65536):whyP (buildB h++r)=if 20 + r.length < u64n h.len % 65536 then 5 else 0:=by
 have hl:=buildB_length h
 have h0:at' (buildB h++r) 0=69:=by rw[at_append (by omega)];exact head_at0 _ _
 have hi:ihlP (buildB h++r)=5:=by unfold ihlP;rw[h0]
 have hL:lenP (buildB h++r)=u64n h.len % 65536:=by rw[len_append r (by omega)];exact head_len _ _
 have hn:netN ((buildB h++r).take (4 * 5))=0:=by
  rw[show 4 * 5=(buildB h).length from by rw[hl],List.take_left' rfl]
  exact net_build h
 unfold whyP
 rw[hi,hL,h0,hn,List.length_append,hl,if_neg (by omega),if_neg (by omega),if_neg (by omega),if_neg (by omega),if_neg (by omega),if_neg (by omega)]
theorem body_build (h:Hd)(r:List Nat)(L:Nat)(hL:u64n h.len % 65536=20 + L):bodyP (buildB h++r)=r.take L:=by
 have hl:=buildB_length h
 unfold bodyP
 rw[len_append r (by omega),ihl_append r (by omega)]
 rw[show lenP (buildB h)=20 + L from (head_len _ _).trans hL,show ihlP (buildB h)=5 from head_ihl _ _]
 rw[List.take_append,hl,List.drop_append]
 simp[hl]
theorem build_len (h:Hd)(r:List Nat):lenP (buildB h++r)=u64n h.len % 65536:=by
 have hl:=buildB_length h
 rw[len_append r (by omega)];exact head_len _ _
theorem reads_blk {w:World}{g n B:Nat}{e:TypeId}{C:Array Value}{xs:List Value}(h:Blk w g e C)(hn:C.size=n)(hB:g < B)(hx:C.toList=xs):Reads w B 1 (some ⟨g,0,none⟩) n xs:=by
 subst hn hx
 refine⟨by simp,fun _=>⟨_,rfl,hB,fun j u hu=>?_⟩⟩
 have hj:(⟨g,0,none⟩:Addr).add j=⟨g,j,none⟩:=by unfold Addr.add;split<;>simp_all
 rw[hj,h.cell j]
 simpa using hu
theorem u64n_cast' (z:Nat)(h:z < 65536):u64n (z:Int)=z:=by unfold u64n;omega
theorem own_drew {w:World}{base n size:Nat}{e:TypeId}{v:Value}{xs:List Value}(h:w.ownsRow base e size v n xs):w.drew.ownsRow base e size v n xs:=h
def Row (w wr:World)(B:Nat)(v:Value)(n:Nat)(l:List Nat):Prop:=
 ∃g c,v=G (some ⟨g,0,none⟩) n c∧wr.ownsRow B 5 1 (G (some ⟨g,0,none⟩) n c) n (bv l)∧Below B w wr
theorem refbuild_any (h:Hd)(w:World)(hok:HdOk h):
  Calls Pg 54 #[.agg h.vals] w fun e w'=>∃A c',e=rT (G A 20 c')∧w'.ownsRow w.heap.size 5 1 (G A 20 c') 20 (bv (buildB h))∧Below w.heap.size w w':=by
 obtain⟨ihl,tos,len,id,flags,off,ttl,proto,sum,src,dst⟩:=h
 have klen:=hok.len
 have kid:=hok.id
 have ksrc:=hok.src
 have kdst:=hok.dst
 dsimp only at klen kid ksrc kdst
 have ht:Hid (tos % 256=((u64n tos % 256:Nat):Int)):=by show _=_;unfold u64n;omega
 have hHB:Hid (∀c,headB ⟨ihl,tos,len,id,flags,off,ttl,proto,sum,src,dst⟩ c=_):=fun c=>headB_list _ c
 have mF:bits BinOp.and IntKind.i64 flags 7=((flags % 8).toNat:Int):=i64_and_mask 3 (by omega) flags
 have mO:bits BinOp.and IntKind.i64 off 8191=((off % 8192).toNat:Int):=i64_and_mask 13 (by omega) off
 have hfl:flof ⟨ihl,tos,len,id,flags,off,ttl,proto,sum,src,dst⟩=(flags % 8).toNat * 8192 + (off % 8192).toNat:=rfl
 obtain⟨F,hF,hFl⟩:∃F,F=(flags % 8).toNat∧F < 8:=⟨_,rfl,by omega⟩
 obtain⟨O,hO,hOl⟩:∃O,O=(off % 8192).toNat∧O < 8192:=⟨_,rfl,by omega⟩
 rw[←hF] at mF hfl
 rw[←hO] at mO hfl
 have hor:bits BinOp.or IntKind.i64 ((F:Int) * 8192) (O:Int)=((F * 8192 + O:Nat):Int):=by
  have:=i64_or_nat (F * 8192) O (by omega) (by omega)
  rw[nat_join 13 (F * 8192) O (by omega) (by omega)] at this
  exact this
 obtain⟨zf,hzf⟩:∃zf,zf=F * 8192 + O:=⟨_,rfl⟩
 rw[←hzf] at hfl hor
 have hzl:zf < 65536:=by omega
 have HF:=jH hfl
 have htt:Hid (ttl % 256=((u64n ttl % 256:Nat):Int)):=by show _=_;unfold u64n;omega
 have hpr:Hid (proto % 256=((u64n proto % 256:Nat):Int)):=by show _=_;unfold u64n;omega
 clear hok hF hO hzf hfl
 unfold Hd.vals
 dsimp only
 go_enter func54,ntmps54
 go_wp2_with fail
 rw[ht.out]
 have hq:=(Blk.new w 132 #[X Y ihl,X Y tos,X Y len,X Y id,X Y flags,X Y off,X Y ttl,X Y proto,X Y sum,X Z src,X Z dst]).alloc (cL #[X .u8 69,X .u8 (u64n tos % 256:Nat)] 5)
 have hB0:Below w.heap.size w ((w.alloc (cL #[X Y ihl,X Y tos,X Y len,X Y id,X Y flags,X Y off,X Y ttl,X Y proto,X Y sum,X Z src,X Z dst] 132)).alloc (cL #[X .u8 69,X .u8 (u64n tos % 256:Nat)] 5)):=((bR _ _).alloc (nR _) _).alloc (by simp) _
 have hown0:((w.alloc (cL #[X Y ihl,X Y tos,X Y len,X Y id,X Y flags,X Y off,X Y ttl,X Y proto,X Y sum,X Z src,X Z dst] 132)).alloc (cL #[X .u8 69,X .u8 (u64n tos % 256:Nat)] 5)).ownsRow (w.heap.size + 1) 5 1 (G (some ⟨w.heap.size + 1,0,none⟩) 2 2) 2 (bv [69,u64n tos % 256]):=
  lit_own (cs:=#[X .u8 69,X .u8 (u64n tos % 256:Nat)]) (Blk.new_ (by simp)) (nR _) (by decide) rfl rfl
 obtain⟨q,hqq⟩:∃q,q=w.heap.size:=⟨_,rfl⟩
 have hsz:((w.alloc (cL #[X Y ihl,X Y tos,X Y len,X Y id,X Y flags,X Y off,X Y ttl,X Y proto,X Y sum,X Z src,X Z dst] 132)).alloc (cL #[X .u8 69,X .u8 (u64n tos % 256:Nat)] 5)).heap.size=q + 2:=by simp[hqq]
 rw[←hqq] at hq hown0⊢
 generalize (w.alloc (cL #[X Y ihl,X Y tos,X Y len,X Y id,X Y flags,X Y off,X Y ttl,X Y proto,X Y sum,X Z src,X Z dst] 132)).alloc (cL #[X .u8 69,X .u8 (u64n tos % 256:Nat)] 5)=v0 at *
 have HQ:=jH hqq
 have HS:=jH hsz
 have hszl:q + 2≤v0.heap.size:=by omega
 clear hqq hsz
 obtain⟨-,-,hc2,hc3⟩:=hq.c4
 go_cut [3] (fun v wx=>Row v0 wx (q + 1) v 6 ([69,u64n tos % 256]++[u64n len / 256 % 256,u64n len % 256]++[u64n id / 256 % 256,u64n id % 256]))
 case first=>
  have hd0:v0.drew.ownsRow (q + 1) 5 1 (G (some ⟨q + 1,0,none⟩) 2 2) 2 (bv [69,u64n tos % 256]):=hown0
  have hall2:∀o,(v0.alloc o).drew.cell? ⟨q,2,none⟩=some (X Y len):=fun o=>(hq.alloc o).drew.cell 2
  have hall3:∀o,(v0.alloc o).drew.cell? ⟨q,3,none⟩=some (X Y id):=fun o=>(hq.alloc o).drew.cell 3
  go_region_law (first
   |(go_simp;go_at_call 130;(with_reducible refine(u16ref_any len _ klen).mono ?_);rintro e w' ⟨rfl,rfl⟩;first|(have _t:=tok2;have tok21:True:=trivial;clear _t tok2)|(have tok1:True:=trivial))
   |(go_simp;go_at_call 130;(with_reducible refine(u16ref_any id _ kid).mono ?_);rintro e w' ⟨rfl,rfl⟩;first|(have _t:=tok1;have tok12:True:=trivial;clear _t tok1)|(have tok2:True:=trivial))
   |(have _t:=tok1;clear _t tok1;go_loud (refine step_append_b rfl (.tmp 9) (.tmp 12) _ rfl 5 infoB underlying23 (q + 1) (G (some ⟨q + 1,0,none⟩) 2 2) 2 ([69,u64n tos % 256]) (by simp[Act.eval,Act.put]) (own_drew (hown0.alloc _)) _ (some ⟨v0.heap.size,0,none⟩) 2 2 ([u64n len / 256 % 256,u64n len % 256]) (by simp[Act.eval,Act.put]) ((reads_new _ _ _ _ 2 _ _ (by rfl) (by rfl) (by simp) _ (by simp[bv])).drew) 4 rfl (by omega) (by simp;omega) ?_;intro A1 c1 w1 hown1 hb1 hg1 hat1;have tokA:True:=trivial;have hBy:=(((bR (q + 1) v0).alloc (by omega) _).drew.trans hb1);have hq1:=hq.below hBy (Nat.lt_succ_self q);have hk3:=hq1.cell 3;simp only[ga,gz,gN] at hk3))
   |(have _t:=tok12;clear _t tok12;refine step_append_b rfl (.tmp 9) (.tmp 12) _ rfl 5 infoB underlying23 (q + 1) (G (some ⟨q + 1,0,none⟩) 2 2) 2 ([69,u64n tos % 256]) (by simp[Act.eval,Act.put]) (own_drew ((hown0.alloc _).alloc _)) _ (some ⟨v0.heap.size,0,none⟩) 2 2 ([u64n len / 256 % 256,u64n len % 256]) (by simp[Act.eval,Act.put]) (((reads_new _ _ _ _ 2 _ _ (by rfl) (by rfl) (by simp) _ (by simp[bv])).alloc (by simp) _).drew) 4 rfl (by omega) (by simp;omega) ?_;intro A1 c1 w1 hown1 hb1 hg1 hat1;have tokB:True:=trivial;have hBy:=((((bR (q + 1) v0).alloc (by omega) _).alloc (by simp;omega) _).drew.trans hb1);have hbB:=(Blk.drew (Blk.new_ (w:=v0.alloc (cL #[X .u8 (u64n len / 256 % 256:Nat),X .u8 (u64n len % 256:Nat)] 5)) (g:=v0.heap.size + 1) (t:=5) (cs:=#[X .u8 (u64n id / 256 % 256:Nat),X .u8 (u64n id % 256:Nat)]) (by simp))).grown hg1 (by intro h;cases h;omega))
   |(have _t:=tok21;clear _t tok21;refine step_append_b rfl (.tmp 9) (.tmp 12) _ rfl 5 infoB underlying23 (q + 1) (G (some ⟨q + 1,0,none⟩) 2 2) 2 ([69,u64n tos % 256]) (by simp[Act.eval,Act.put]) (own_drew ((hown0.alloc _).alloc _)) _ (some ⟨v0.heap.size + 1,0,none⟩) 2 2 ([u64n len / 256 % 256,u64n len % 256]) (by simp[Act.eval,Act.put]) ((reads_new _ _ _ _ 2 _ _ (by rfl) (by rfl) (by simp) _ (by simp[bv])).drew) 4 rfl (by omega) (by simp;omega) ?_;intro A1 c1 w1 hown1 hb1 hg1 hat1;have tokC:True:=trivial;have hBy:=((((bR (q + 1) v0).alloc (by omega) _).alloc (by simp;omega) _).drew.trans hb1);have hbC:=(Blk.drew (Blk.alloc (Blk.new_ (w:=v0) (g:=v0.heap.size) (t:=5) (cs:=#[X .u8 (u64n id / 256 % 256:Nat),X .u8 (u64n id % 256:Nat)]) rfl) _)).grown hg1 (by intro h;cases h;omega))
   |(have _t:=tokA;clear _t tokA;refine step_append_b rfl (.tmp 13) (.tmp 16) _ rfl 5 infoB underlying23 (q + 1) (G A1 4 c1) 4 ([69,u64n tos % 256]++[u64n len / 256 % 256,u64n len % 256]) (by simp[Act.eval,Act.put]) (hown1.alloc _) _ (some ⟨w1.heap.size,0,none⟩) 2 2 ([u64n id / 256 % 256,u64n id % 256]) (by simp[Act.eval,Act.put]) (reads_new _ _ _ _ 2 _ _ (by rfl) (by rfl) (by simp) _ (by simp[bv])) 6 rfl (by omega) (by have:=hBy.size;simp;omega) ?_;intro A2 c2 w2 hown2 hb2 hg2 hat2;have hBz:=(hBy.alloc (by have:=hBy.size;omega) _).trans hb2)
   |(have _t:=tokB;clear _t tokB;refine step_append_b rfl (.tmp 13) (.tmp 16) _ rfl 5 infoB underlying23 (q + 1) (G A1 4 c1) 4 ([69,u64n tos % 256]++[u64n len / 256 % 256,u64n len % 256]) (by simp[Act.eval,Act.put]) (hown1) _ (some ⟨v0.heap.size + 1,0,none⟩) 2 2 ([u64n id / 256 % 256,u64n id % 256]) (by simp[Act.eval,Act.put]) (reads_blk hbB (by rfl) (Nat.lt_succ_self _) (by rfl)) 6 rfl (by omega) (by have:=hBy.size;omega) ?_;intro A2 c2 w2 hown2 hb2 hg2 hat2;have hBz:=hBy.trans hb2)
   |(have _t:=tokC;clear _t tokC;refine step_append_b rfl (.tmp 13) (.tmp 16) _ rfl 5 infoB underlying23 (q + 1) (G A1 4 c1) 4 ([69,u64n tos % 256]++[u64n len / 256 % 256,u64n len % 256]) (by simp[Act.eval,Act.put]) (hown1) _ (some ⟨v0.heap.size,0,none⟩) 2 2 ([u64n id / 256 % 256,u64n id % 256]) (by simp[Act.eval,Act.put]) (reads_blk hbC (by rfl) (Nat.lt_succ_self _) (by rfl)) 6 rfl (by omega) (by have:=hBy.size;omega) ?_;intro A2 c2 w2 hown2 hb2 hg2 hat2;have hBz:=hBy.trans hb2))
  all_goals
   go_wp2_with fail
   go_meet
   obtain⟨g2,hA2,_,_⟩:=own_head hown2 (by omega)
   subst hA2
   exact⟨g2,c2,rfl,hown2,hBz⟩
 case rest=>
  obtain⟨g2,c2,rfl,hown2,hB2⟩:=hcut
  have hq2:=hq.below hB2 (Nat.lt_succ_self q)
  have hs2:=hB2.size
  clear hc2 hc3 hown0 hq
  obtain⟨-,-,-,-,hc4,hc5⟩:=hq2.c6
  go_wp2_with fail
  refine(u16ref_any (zf:Int) wc (by omega)).mono ?_
  rintro e w3 ⟨rfl,hw3⟩
  rw[u64n_cast' zf hzl] at hw3
  subst hw3
  go_wp2_with (at_builtin;refine stop_ ?_)
  refine on_ ?_
  refine wpList_append_b rfl (.tmp 18) (.tmp 27) _ rfl 5 infoB underlying23 (q + 1) (G (some ⟨g2,0,none⟩) 6 c2) 6 _ rfl (hown2.alloc _) _ (some ⟨wc.heap.size,0,none⟩) 2 2 [zf / 256 % 256,zf % 256] rfl (reads_new _ _ _ _ 2 _ _ (by rfl) (by rfl) (by rfl) _ (by rfl)) 8 rfl (by omega) (by simp;omega) ?_
  intro A3 c3 w3 hown3 hb3 _ _
  have hB3:=(hB2.alloc (by omega) _).trans hb3
  have hq3:=hq2.below ((bR _ _).alloc (nR _) (cL #[X .u8 (zf / 256 % 256:Nat),X .u8 (zf % 256:Nat)] 5)) hq2.lt
  have hq3:=hq3.below hb3 (Nat.lt_succ_self q)
  clear hown2 hb3 hc4 hc5 hq2 mF mO hor
  have hs3:=hB3.size
  obtain⟨-,-,-,-,-,-,hc6,hc7⟩:=hq3.c8
  go_wp2_with (at_builtin;refine stop_ ?_)
  refine on_ ?_
  rw[htt.out,hpr.out]
  refine wpList_append_b rfl (.tmp 29) (.tmp 36) _ rfl 5 infoB underlying23 (q + 1) (G A3 8 c3) 8 _ rfl (hown3.alloc _) _ (some ⟨w3.heap.size,0,none⟩) 4 4 [u64n ttl % 256,u64n proto % 256,0,0] rfl (reads_new _ _ _ _ 4 _ _ (by rfl) (by rfl) (by rfl) _ (by rfl)) 12 rfl (by omega) (by simp;omega) ?_
  intro A4 c4 w4 hown4 hb4 _ _
  have hB4:=(hB3.alloc (by omega) _).trans hb4
  have hq4:=hq3.below ((bR _ _).alloc (nR _) (cL #[X .u8 (u64n ttl % 256:Nat),X .u8 (u64n proto % 256:Nat),X .u8 0,X .u8 0] 5)) hq3.lt
  have hq4:=hq4.below hb4 (Nat.lt_succ_self q)
  clear hown3 hb4 hc6 hc7 hq3
  have hs4:=hB4.size
  obtain⟨g4,hA4,_,hg4⟩:=own_head hown4 (by omega)
  subst hA4
  obtain⟨-,-,-,-,-,-,-,-,-,hc9,hc10⟩:=hq4.c11
  go_wp2_with fail
  obtain⟨Lp,hLp⟩:∃Lp,Lp=[69,u64n tos % 256]++[u64n len / 256 % 256,u64n len % 256]++[u64n id / 256 % 256,u64n id % 256]++[zf / 256 % 256,zf % 256]++[u64n ttl % 256,u64n proto % 256,0,0]:=⟨_,rfl⟩
  rw[←hLp] at hown4
  have HLP:=jH hLp
  have HB4:=jH hB4
  have hq4l:=hq4.lt
  clear hLp hB4 hB3 hB2 hs2 hs3
  go_cut [3] (fun v wx=>Row w4 wx (q + 1) v 20 (Lp++[src / 16777216 % 256,src / 65536 % 256,src / 256 % 256,src % 256]++[dst / 16777216 % 256,dst / 65536 % 256,dst / 256 % 256,dst % 256]))
  case first=>
   have hall9:∀o,(w4.alloc o).drew.cell? ⟨q,9,none⟩=some (X Z src):=fun o=>(hq4.alloc o).drew.cell 9
   have hall10:∀o,(w4.alloc o).drew.cell? ⟨q,10,none⟩=some (X Z dst):=fun o=>(hq4.alloc o).drew.cell 10
   go_region_law (first
    |(go_simp;go_at_call 131;(with_reducible refine(u32ref_any src _ ksrc).mono ?_);rintro e w' ⟨rfl,rfl⟩;first|(have _t:=tok2;have tok21:True:=trivial;clear _t tok2)|(have tok1:True:=trivial))
    |(go_simp;go_at_call 131;(with_reducible refine(u32ref_any dst _ kdst).mono ?_);rintro e w' ⟨rfl,rfl⟩;first|(have _t:=tok1;have tok12:True:=trivial;clear _t tok1)|(have tok2:True:=trivial))
    |(have _t:=tok1;clear _t tok1;refine step_append_b rfl (.tmp 38) (.tmp 41) _ rfl 5 infoB underlying23 (q + 1) (G (some ⟨g4,0,none⟩) 12 c4) 12 (Lp) (by simp[Act.eval,Act.put]) (own_drew (hown4.alloc _)) _ (some ⟨w4.heap.size,0,none⟩) 4 4 ([src / 16777216 % 256,src / 65536 % 256,src / 256 % 256,src % 256]) (by simp[Act.eval,Act.put]) ((reads_new _ _ _ _ 4 _ _ (by rfl) (by rfl) (by simp) _ (by simp[bv])).drew) 16 rfl (by omega) (by simp;omega) ?_;intro A5 c5 w5 hown5 hb5 hg5 hat5;have tokA:True:=trivial;have hBy:=((bR (q + 1) w4).alloc (by omega) _).drew.trans hb5;have hq5:=hq4.below hBy (Nat.lt_succ_self q);have hk10:=hq5.cell 10;simp only[ga,gz,gN] at hk10)
    |(have _t:=tok12;clear _t tok12;refine step_append_b rfl (.tmp 38) (.tmp 41) _ rfl 5 infoB underlying23 (q + 1) (G (some ⟨g4,0,none⟩) 12 c4) 12 (Lp) (by simp[Act.eval,Act.put]) (own_drew ((hown4.alloc _).alloc _)) _ (some ⟨w4.heap.size,0,none⟩) 4 4 ([src / 16777216 % 256,src / 65536 % 256,src / 256 % 256,src % 256]) (by simp[Act.eval,Act.put]) (((reads_new _ _ _ _ 4 _ _ (by rfl) (by rfl) (by simp) _ (by simp[bv])).alloc (by simp) _).drew) 16 rfl (by omega) (by simp;omega) ?_;intro A5 c5 w5 hown5 hb5 hg5 hat5;have tokB:True:=trivial;have hBy:=(((bR (q + 1) w4).alloc (by omega) _).alloc (by simp;omega) _).drew.trans hb5;have hbB:=(Blk.drew (Blk.new_ (w:=w4.alloc (cL #[X .u8 (src / 16777216 % 256:Nat),X .u8 (src / 65536 % 256:Nat),X .u8 (src / 256 % 256:Nat),X .u8 (src % 256:Nat)] 5)) (g:=w4.heap.size + 1) (t:=5) (cs:=#[X .u8 (dst / 16777216 % 256:Nat),X .u8 (dst / 65536 % 256:Nat),X .u8 (dst / 256 % 256:Nat),X .u8 (dst % 256:Nat)]) (by simp))).grown hg5 (by intro h;cases h;omega))
    |(have _t:=tok21;clear _t tok21;refine step_append_b rfl (.tmp 38) (.tmp 41) _ rfl 5 infoB underlying23 (q + 1) (G (some ⟨g4,0,none⟩) 12 c4) 12 (Lp) (by simp[Act.eval,Act.put]) (own_drew ((hown4.alloc _).alloc _)) _ (some ⟨w4.heap.size + 1,0,none⟩) 4 4 ([src / 16777216 % 256,src / 65536 % 256,src / 256 % 256,src % 256]) (by simp[Act.eval,Act.put]) ((reads_new _ _ _ _ 4 _ _ (by rfl) (by rfl) (by simp) _ (by simp[bv])).drew) 16 rfl (by omega) (by simp;omega) ?_;intro A5 c5 w5 hown5 hb5 hg5 hat5;have tokC:True:=trivial;have hBy:=(((bR (q + 1) w4).alloc (by omega) _).alloc (by simp;omega) _).drew.trans hb5;have hbC:=(Blk.drew (Blk.alloc (Blk.new_ (w:=w4) (g:=w4.heap.size) (t:=5) (cs:=#[X .u8 (dst / 16777216 % 256:Nat),X .u8 (dst / 65536 % 256:Nat),X .u8 (dst / 256 % 256:Nat),X .u8 (dst % 256:Nat)]) rfl) _)).grown hg5 (by intro h;cases h;omega))
    |(have _t:=tokA;clear _t tokA;refine step_append_b rfl (.tmp 42) (.tmp 45) _ rfl 5 infoB underlying23 (q + 1) (G A5 16 c5) 16 (Lp++[src / 16777216 % 256,src / 65536 % 256,src / 256 % 256,src % 256]) (by simp[Act.eval,Act.put]) (hown5.alloc _) _ (some ⟨w5.heap.size,0,none⟩) 4 4 ([dst / 16777216 % 256,dst / 65536 % 256,dst / 256 % 256,dst % 256]) (by simp[Act.eval,Act.put]) (reads_new _ _ _ _ 4 _ _ (by rfl) (by rfl) (by simp) _ (by simp[bv])) 20 rfl (by omega) (by have:=hBy.size;simp;omega) ?_;intro A6 c6 w6 hown6 hb6 hg6 hat6;have hBz:=(hBy.alloc (by have:=hBy.size;omega) _).trans hb6)
    |(have _t:=tokB;clear _t tokB;refine step_append_b rfl (.tmp 42) (.tmp 45) _ rfl 5 infoB underlying23 (q + 1) (G A5 16 c5) 16 (Lp++[src / 16777216 % 256,src / 65536 % 256,src / 256 % 256,src % 256]) (by simp[Act.eval,Act.put]) (hown5) _ (some ⟨w4.heap.size + 1,0,none⟩) 4 4 ([dst / 16777216 % 256,dst / 65536 % 256,dst / 256 % 256,dst % 256]) (by simp[Act.eval,Act.put]) (reads_blk hbB (by rfl) (Nat.lt_succ_self _) (by rfl)) 20 rfl (by omega) (by have:=hBy.size;omega) ?_;intro A6 c6 w6 hown6 hb6 hg6 hat6;have hBz:=hBy.trans hb6)
    |(have _t:=tokC;clear _t tokC;refine step_append_b rfl (.tmp 42) (.tmp 45) _ rfl 5 infoB underlying23 (q + 1) (G A5 16 c5) 16 (Lp++[src / 16777216 % 256,src / 65536 % 256,src / 256 % 256,src % 256]) (by simp[Act.eval,Act.put]) (hown5) _ (some ⟨w4.heap.size,0,none⟩) 4 4 ([dst / 16777216 % 256,dst / 65536 % 256,dst / 256 % 256,dst % 256]) (by simp[Act.eval,Act.put]) (reads_blk hbC (by rfl) (Nat.lt_succ_self _) (by rfl)) 20 rfl (by omega) (by have:=hBy.size;omega) ?_;intro A6 c6 w6 hown6 hb6 hg6 hat6;have hBz:=hBy.trans hb6))
   all_goals
    go_wp2_with fail
    go_meet
    obtain⟨g6,hA6,_,_⟩:=own_head hown6 (by omega)
    subst hA6
    exact⟨g6,c6,rfl,hown6,hBz⟩
  case rest=>
   obtain⟨g6,c6,rfl,hown6,hB6'⟩:=hcut
   have hB6:=HB4.out.trans hB6'
   have hs6:=hB6.size
   obtain⟨Lq,hLq⟩:∃Lq,Lq=Lp++[src / 16777216 % 256,src / 65536 % 256,src / 256 % 256,src % 256]++[dst / 16777216 % 256,dst / 65536 % 256,dst / 256 % 256,dst % 256]:=⟨_,rfl⟩
   have HE:Hid (Lq=headB ⟨ihl,tos,len,id,flags,off,ttl,proto,sum,src,dst⟩ 0):=by
    show _=_
    rw[hLq,HLP.out,hHB.out,HF.out]
    rfl
   rw[←hLq] at hown6
   have hLl:Lq.length=20:=by rw[HE.out];exact headB_length _ _
   have hLa:AllB Lq:=by rw[HE.out];exact headB_all _ _
   have CN:=jH (R1.net_any wc wc.heap.size (some ⟨g6,0,none⟩) 20 c6 Lq (Reads.of_own hown6) (by omega) hLa)
   obtain⟨z,hz⟩:∃z,z=netN Lq:=⟨_,rfl⟩
   have hzl:z < 65536:=by rw[hz];exact netN_lt _
   rw[←hz] at CN
   have HFin:Hid ((Lq.set 10 (z / 256)).set 11 (z % 256)=buildB ⟨ihl,tos,len,id,flags,off,ttl,proto,sum,src,dst⟩):=by
    show _=_
    unfold buildB
    rw[←HE.out,←hz,HE.out,hHB.out,hHB.out]
    have e1:z / 256 % 256=z / 256:=by omega
    rw[e1]
    rfl
   have hcx:=ownb_cell hown6 10 (by omega) (by omega)
   have hcy:=ownb_cell hown6 11 (by omega) (by omega)
   have hfx:=hown6.frozenAt 10
   have hfy:=hown6.frozenAt 11
   have hst:=ownb_store (ownb_store hown6 10 (z / 256)) 11 (z % 256)
   rw[HFin.out] at hst
   have e256:((256:Nat):Int)=256:=rfl
   simp only[Int.natCast_ediv,Int.natCast_emod,e256] at hst
   clear e256
   have HST:=jH hst
   have hg6:q + 1≤g6:=(hown6.lt g6 rfl).1
   have hBq:Below q v0 wc:=hB6.mono (by omega)
   generalize Lq[10]=o10 at hcx
   generalize Lq[11]=o11 at hcy
   clear hst hown6 hLa hLq hz hB6' hq4
   go_wp2_with fail
   refine CN.out.mono ?_
   rintro e w' ⟨rfl,rfl⟩
   clear CN
   go_wp2_with fail
   go_ret
   refine⟨_,_,rfl,own_lower HST.out (by rw[←HQ.out];omega),?_⟩
   have h1:=hB0.trans (hBq.mono (by rw[HQ.out];exact nR _))
   exact(h1.setCell (p:=⟨g6,10,none⟩) (by rw[←HQ.out];show q≤g6;omega) _).setCell (p:=⟨g6,11,none⟩) (by rw[←HQ.out];show q≤g6;omega) _
theorem ParseRet.yes {l:List Nat}{w w':World}{e:Ending}(h:ParseRet l w e w')(h0:whyP l=0):∃A c,e=rT (tU #[.agg (hdP l).vals,G A (lenP l - 4 * ihlP l) c,X Y 0])∧w'.ownsRow w.heap.size 5 1 (G A (lenP l - 4 * ihlP l) c) (lenP l - 4 * ihlP l) (bv (bodyP l)):=by
 rcases h with⟨_,h⟩|⟨h,_⟩
 ·exact h
 ·exact absurd h0 h
theorem ParseRet.no {l:List Nat}{w w':World}{e:Ending}(h:ParseRet l w e w')(h0:whyP l≠0):e=rT (tU #[.agg hd0.vals,G none 0 0,X Y (whyP l:Nat)]):=by
 rcases h with⟨h,_⟩|⟨_,h⟩
 ·exact absurd h h0
 ·exact h
theorem own_cap {w:World}{base m c:Nat}{e:TypeId}{A:Option Addr}{xs:List Value}{size:Nat}(h:w.ownsRow base e size (G A m c) m xs):m≤c:=by
 rcases h.2 with⟨h,_⟩|⟨g,cap,cur,h,_,_,hc,_⟩
 ·cases h;exact nR _
 ·cases h;exact hc
def tcpB (b:List Nat):Bool:=decide (20≤b.length∧5≤at' b 12 / 16∧4 * (at' b 12 / 16)≤b.length)
def udpB (b:List Nat):Bool:=decide (8≤b.length∧8≤two' b 4∧two' b 4≤b.length)
theorem tcp_any (A:Option Addr)(n c B:Nat)(l:List Nat)(w:World)(hr:Reads w B 1 A n (bv l))(hn:n≤140737488355328)(ha:AllB l):
  Calls Pg 316 #[G A n c] w fun e w'=>e=rT (bL (tcpB l))∧w=w':=by
 have hlen:=hr.length
 by_cases h20:n < 20
 ·have H:Hid (tcpB l=false):=decide_eq_false (by omega)
  go_enter func316,ntmps316
  go_wp2_with fail
  go_ret
  exact⟨by rw[H.out];rfl,rfl⟩
 ·obtain⟨b,off,hA,_,hc⟩:=hr.plain (by omega) (by omega)
  subst hA
  have h12:12 < l.length:=by omega
  have hc12:=hc 12 _ (bv_get h12)
  rw[show l[12]=at' l 12 from by unfold at';simp[h12]] at hc12
  have hx:=at_lt ha 12
  have HT:Hid (∀b:Bool,(b=true↔5≤at' l 12 / 16∧4 * (at' l 12 / 16)≤n)→b=tcpB l):=by
   intro b h
   rw[Bool.eq_iff_iff,h]
   unfold tcpB
   rw[decide_eq_true_eq,hlen]
   constructor
   ·intro h;exact⟨by omega,h.1,h.2⟩
   ·intro h;exact h.2
  have hdv:((at' l 12:Nat):Int) / 16=((at' l 12 / 16:Nat):Int):=by omega
  have hlt:at' l 12 / 16 < 16:=by omega
  clear hc hr hlen h12
  generalize at' l 12 / 16=y at *
  generalize at' l 12=x at *
  by_cases h5:5≤y
  ·by_cases h4:4 * y≤n
   ·have HB:=jH (HT.out true (by simp[h5,h4]))
    have d1:decide ((5:Int)≤(y:Int))=true:=decide_eq_true (by omega)
    have d2:decide (4 * (y:Int)≤(n:Int))=true:=decide_eq_true (by omega)
    go_enter func316,ntmps316
    go_wp2_with fail
    go_ret
    exact⟨by rw[←HB.out];rfl,rfl⟩
   ·have HB:=jH (HT.out false (by simp;omega))
    have d1:decide ((5:Int)≤(y:Int))=true:=decide_eq_true (by omega)
    have d2:decide (4 * (y:Int)≤(n:Int))=false:=decide_eq_false (by omega)
    go_enter func316,ntmps316
    go_wp2_with fail
    go_ret
    exact⟨by rw[←HB.out];rfl,rfl⟩
  ·have HB:=jH (HT.out false (by simp;omega))
   have d1:decide ((5:Int)≤(y:Int))=false:=decide_eq_false (by omega)
   go_enter func316,ntmps316
   go_wp2_with fail
   go_ret
   exact⟨by rw[←HB.out];rfl,rfl⟩
theorem udp_any (A:Option Addr)(n c B:Nat)(l:List Nat)(w:World)(hr:Reads w B 1 A n (bv l))(hB:B≤w.heap.size)(hn:n≤140737488355328)(hnc:n≤c)(ha:AllB l):
  Calls Pg 317 #[G A n c] w fun e w'=>e=rT (bL (udpB l))∧Below w.heap.size w w':=by
 have hlen:=hr.length
 by_cases h8:n < 8
 ·have H:Hid (udpB l=false):=decide_eq_false (by omega)
  go_enter func317,ntmps317
  go_wp2_with fail
  go_ret
  exact⟨by rw[H.out];rfl,bR _ _⟩
 ·obtain⟨b,off,hA,_,_⟩:=hr.plain (by omega) (by omega)
  subst hA
  have hx:=two_lt ha 4
  have HT:Hid (∀b:Bool,(b=true↔8≤two' l 4∧two' l 4≤n)→b=udpB l):=by
   intro b h
   rw[Bool.eq_iff_iff,h]
   unfold udpB
   rw[decide_eq_true_eq,hlen]
   constructor
   ·intro h;exact⟨by omega,h.1,h.2⟩
   ·intro h;exact h.2
  have hcut:=hr.cut (k:=4) (cap:=c) (by omega) hnc
  have hc4:¬c=4:=by omega
  rw[if_neg hc4,show (bv l).drop (4 * 1)=bv (l.drop 4) from by simp[bv]] at hcut
  simp only[Option.map_some,Addr.add_lit] at hcut
  have CR:=jH (newreader_any (some ⟨b,off + 4 * 1,none⟩) (n - 4) (c - 4) B (l.drop 4) w hcut hB (by omega) (fun h=>by cases h))
  have CU:=jH (fun p w' (h:RBuf w' p (l.drop 4))=>u16r_at p 4 l w' (by omega) (by omega) ha h)
  have i1:(4:Int)≤(n:Int):=by omega
  have i2:(n:Int)≤(c:Int):=by omega
  clear hr hcut hlen
  generalize two' l 4=y at *
  have rest:∀bb:Bool,bb=udpB l→(decide ((8:Int)≤(y:Int))&&decide ((y:Int)≤(n:Int)))=bb→Calls Pg 317 #[G (some ⟨b,off,none⟩) n c] w fun e w'=>e=rT (bL (udpB l))∧Below w.heap.size w w':=by
   intro bb hbb hd
   have HB:=jH hbb
   have HD:=jH hd
   clear hbb hd HT
   by_cases h1:8≤y
   ·have d1:decide ((8:Int)≤(y:Int))=true:=decide_eq_true (by omega)
    by_cases h2:y≤n
    ·have d2:decide ((y:Int)≤(n:Int))=true:=decide_eq_true (by omega)
     have d3:decide (y≤n)=true:=decide_eq_true h2
     obtain rfl:bb=true:=by rw[←HD.out,d1,d2];rfl
     go_enter func317,ntmps317
     go_wp2_with fail
     refine CR.out.mono ?_
     rintro e w1 ⟨p,rfl,hp,hrb,hb1⟩
     go_wp2_with fail
     refine(CU.out p w1 hrb).mono ?_
     rintro e w2 ⟨rfl,_,hg⟩
     have hB2:=hb1.grown hg hb1.size (fun k hk=>by cases hk;exact hp)
     go_wp2_with fail
     go_ret
     exact⟨by rw[←HB.out];rfl,hB2⟩
    ·have d2:decide ((y:Int)≤(n:Int))=false:=decide_eq_false (by omega)
     have d3:decide (y≤n)=false:=decide_eq_false h2
     obtain rfl:bb=false:=by rw[←HD.out,d1,d2];rfl
     go_enter func317,ntmps317
     go_wp2_with fail
     refine CR.out.mono ?_
     rintro e w1 ⟨p,rfl,hp,hrb,hb1⟩
     go_wp2_with fail
     refine(CU.out p w1 hrb).mono ?_
     rintro e w2 ⟨rfl,_,hg⟩
     have hB2:=hb1.grown hg hb1.size (fun k hk=>by cases hk;exact hp)
     go_wp2_with fail
     go_ret
     exact⟨by rw[←HB.out];rfl,hB2⟩
   ·have d1:decide ((8:Int)≤(y:Int))=false:=decide_eq_false (by omega)
    obtain rfl:bb=false:=by rw[←HD.out,d1];rfl
    go_enter func317,ntmps317
    go_wp2_with fail
    refine CR.out.mono ?_
    rintro e w1 ⟨p,rfl,hp,hrb,hb1⟩
    go_wp2_with fail
    refine(CU.out p w1 hrb).mono ?_
    rintro e w2 ⟨rfl,_,hg⟩
    have hB2:=hb1.grown hg hb1.size (fun k hk=>by cases hk;exact hp)
    go_wp2_with fail
    go_ret
    exact⟨by rw[←HB.out];rfl,hB2⟩
  exact rest (decide ((8:Int)≤(y:Int))&&decide ((y:Int)≤(n:Int))) (HT.out _ (by simp;omega)) rfl
theorem bytes2_any (z:Int)(w:World):
  Calls Pg 53 #[X Y z] w fun e w'=>e=rT (G (some ⟨w.heap.size,0,none⟩) 2 2)∧w.alloc (cL #[X .u8 ((u64n z) / 256 % 256:Nat),X .u8 ((u64n z) % 256:Nat)] 5)=w':=by
 have h1:Hid (z % 256=((u64n z % 256:Nat):Int)):=by show _=_;unfold u64n;omega
 have h2:Hid (z / 256 % 256=((u64n z / 256 % 256:Nat):Int)):=by show _=_;unfold u64n;omega
 go_enter func53,ntmps53
 go_wp2_with fail
 rw[h1.out,h2.out]
 go_ret
 exact⟨rfl,rfl⟩
def two8 (z:Int):List Nat:=[u64n z / 256 % 256,u64n z % 256]
theorem two8_all (z:Int):AllB (two8 z):=by
 intro x hx
 simp[two8] at hx
 rcases hx with rfl|rfl<;>omega
def tcpHead (k:Tu)(flags:Int):List Nat:=two8 k.sport++two8 k.dport++[0,0,0,0,0,0,0,0,80,u64n flags % 256,0,0,0,0,0,0]
def udpHead (k:Tu)(n:Nat):List Nat:=two8 k.sport++two8 k.dport++two8 (8 + (n:Int))++[0,0]
def madeP (k:Tu)(flags:Int)(l:List Nat):List Nat:=if k.proto=6 then tcpHead k flags++l else udpHead k l.length++l
def madeHd (k:Tu)(ttl:Int)(L:Nat):Hd:=⟨0,0,20 + (L:Int),0,0,0,ttl,k.proto,0,k.src,k.dst⟩
def madeB (k:Tu)(ttl flags:Int)(l:List Nat):List Nat:=buildB (madeHd k ttl (madeP k flags l).length)++madeP k flags l
def MadeRet (k:Tu)(ttl flags:Int)(l:List Nat)(w:World)(e:Ending)(w':World):Prop:=
 ∃A N c,e=rT (G A N c)∧N=(madeB k ttl flags l).length∧w'.ownsRow w.heap.size 5 1 (G A N c) N (bv (madeB k ttl flags l))∧Below w.heap.size w w'
theorem made_any (k:Tu)(ttl flags:Int)(A:Option Addr)(n c B:Nat)(l:List Nat)(w:World)(hk:TuOk k)(httl:-9223372036854775808≤ttl∧ttl≤9223372036854775807)(hr:Reads w B 1 A n (bv l))(hB:B≤w.heap.size)(hn:n≤100000):
  Calls Pg 20 #[.agg k.vals,X Y ttl,X Y flags,G A n c] w fun e w'=>MadeRet k ttl flags l w e w':=by
 have hlen:=hr.length
 obtain⟨src,dst,proto,sport,dport⟩:=k
 obtain⟨k1,k2,k3,k4,k5⟩:=hk
 dsimp only at k1 k2 k3 k4 k5
 have hfl:Hid (flags % 256=((u64n flags % 256:Nat):Int)):=by show _=_;unfold u64n;omega
 have HR:=jH (fun w' (hb:Below w.heap.size w w')=>(hr.below (hb.mono hB)).more (nT hB hb.size))
 have CB:=jH (fun(L:Nat) (hL:L≤200000) w'=>refbuild_any ⟨0,0,20 + (L:Int),0,0,0,ttl,proto,0,src,dst⟩ w' ⟨by dsimp only;omega,by dsimp only;omega,by dsimp only;omega,by dsimp only;omega,by dsimp only;omega,by dsimp only;omega,httl,k3,by dsimp only;omega,k1,k2⟩)
 have HE:Hid (∀P L,madeP ⟨src,dst,proto,sport,dport⟩ flags l=P→P.length=L→madeB ⟨src,dst,proto,sport,dport⟩ ttl flags l=buildB ⟨0,0,20 + (L:Int),0,0,0,ttl,proto,0,src,dst⟩++P):=by
  intro P L h1 h2
  unfold madeB madeHd
  rw[h1,h2]
 have HL:=jH hlen
 clear hr hlen hB
 unfold Tu.vals
 dsimp only
 unfold Hd.vals at CB
 dsimp only at CB
 have both:∀tcp:Bool,(proto==6)=tcp→Calls Pg 20 #[aG #[X Z src,X Z dst,X Y proto,X Y sport,X Y dport],X Y ttl,X Y flags,G A n c] w fun e w'=>MadeRet ⟨src,dst,proto,sport,dport⟩ ttl flags l w e w':=by
  intro tcp htcp
  have HTC:=jH htcp
  go_enter func20,ntmps20
  go_wp2_with fail
  have hq:=Blk.new w 39 #[X Z src,X Z dst,X Y proto,X Y sport,X Y dport]
  have hB0:Below w.heap.size w (w.alloc (cL #[X Z src,X Z dst,X Y proto,X Y sport,X Y dport] 39)):=(bR _ _).alloc (nR _) _
  obtain⟨q,hqq⟩:∃q,q=w.heap.size:=⟨_,rfl⟩
  have hszl:q + 1≤(w.alloc (cL #[X Z src,X Z dst,X Y proto,X Y sport,X Y dport] 39)).heap.size:=by simp[hqq]
  rw[←hqq] at hq⊢
  generalize w.alloc (cL #[X Z src,X Z dst,X Y proto,X Y sport,X Y dport] 39)=v0 at *
  have HQ:=jH hqq
  clear hqq htcp
  obtain⟨-,-,-,hc3,hc4⟩:=hq.c5
  go_cut [9] (fun v wx=>∃A1 c1,v=G A1 4 c1∧wx.ownsRow (q + 1) 5 1 (G A1 4 c1) 4 (bv (two8 sport++two8 dport))∧Below (q + 1) v0 wx)
  case first=>
   have hall3:∀o,(v0.alloc o).drew.cell? ⟨q,3,none⟩=some (X Y sport):=fun o=>(hq.alloc o).drew.cell 3
   have hall4:∀o,(v0.alloc o).drew.cell? ⟨q,4,none⟩=some (X Y dport):=fun o=>(hq.alloc o).drew.cell 4
   go_region_law (first
    |(go_simp;go_at_call 53;(with_reducible refine(bytes2_any sport _).mono ?_);rintro e w' ⟨rfl,rfl⟩;first|(have _t:=tok2;have tok21:True:=trivial;clear _t tok2)|(have tok1:True:=trivial))
    |(go_simp;go_at_call 53;(with_reducible refine(bytes2_any dport _).mono ?_);rintro e w' ⟨rfl,rfl⟩;first|(have _t:=tok1;have tok12:True:=trivial;clear _t tok1)|(have tok2:True:=trivial))
    |(have _t:=tok12;clear _t tok12;refine step_append_b rfl (.tmp 13) (.tmp 16) _ rfl 5 infoB underlying23 (q + 1) (G (some ⟨v0.heap.size,0,none⟩) 2 2) 2 ([u64n sport / 256 % 256,u64n sport % 256]) (by simp[Act.eval,Act.put]) (lit_own (cs:=#[X .u8 (u64n sport / 256 % 256:Nat),X .u8 (u64n sport % 256:Nat)]) (Blk.drew (Blk.alloc (Blk.new_ rfl) _)) (by omega) (by decide) rfl (by simp[bv])) _ (some ⟨v0.heap.size + 1,0,none⟩) 2 2 ([u64n dport / 256 % 256,u64n dport % 256]) (by simp[Act.eval,Act.put]) ((reads_new _ _ _ _ 2 _ _ (by rfl) (by rfl) (by simp) _ (by simp[bv])).drew) 4 rfl (by omega) (by simp;omega) ?_;intro A1 c1 w1 hown1 hb1 hg1 hat1;have hBy:=(((bR (q + 1) v0).alloc (by omega) _).alloc (by simp;omega) _).drew.trans hb1)
    |(have _t:=tok21;clear _t tok21;refine step_append_b rfl (.tmp 13) (.tmp 16) _ rfl 5 infoB underlying23 (q + 1) (G (some ⟨v0.heap.size + 1,0,none⟩) 2 2) 2 ([u64n sport / 256 % 256,u64n sport % 256]) (by simp[Act.eval,Act.put]) (lit_own (cs:=#[X .u8 (u64n sport / 256 % 256:Nat),X .u8 (u64n sport % 256:Nat)]) (Blk.drew (Blk.new_ (by simp))) (by omega) (by decide) rfl (by simp[bv])) _ (some ⟨v0.heap.size,0,none⟩) 2 2 ([u64n dport / 256 % 256,u64n dport % 256]) (by simp[Act.eval,Act.put]) (((reads_new _ _ _ _ 2 _ _ (by rfl) (by rfl) (by simp) _ (by simp[bv])).alloc (by simp) _).drew) 4 rfl (by omega) (by simp;omega) ?_;intro A1 c1 w1 hown1 hb1 hg1 hat1;have hBy:=(((bR (q + 1) v0).alloc (by omega) _).alloc (by simp;omega) _).drew.trans hb1))
   all_goals
    go_wp2_with fail
    go_meet
    exact⟨A1,c1,rfl,hown1,hBy⟩
  case rest=>
   obtain⟨A1,c1,rfl,hown1,hB1'⟩:=hcut
   have hB1:=hB0.trans (hB1'.mono (by rw[←HQ.out];omega))
   have hq1:=hq.below hB1' (Nat.lt_succ_self q)
   have hs1':=hB1'.size
   clear hc3 hc4 hq
   obtain⟨-,-,hc2⟩:=hq1.c3
   cases tcp
   ·have hbt:(proto==6)=false:=HTC.out
    have hs1:=hB1.size
    go_wp2_with fail
    refine(bytes2_any (8 + (n:Int)) wc).mono ?_
    rintro e w3 ⟨rfl,hw3⟩
    subst hw3
    go_wp2_with (at_builtin;refine stop_ ?_)
    refine on_ ?_
    refine wpList_append_b rfl (.tmp 26) (.tmp 30) _ rfl 5 infoB underlying23 (q + 1) (G A1 4 c1) 4 _ rfl (hown1.alloc _) _ (some ⟨wc.heap.size,0,none⟩) 2 2 (two8 (8 + (n:Int))) rfl (reads_new _ _ _ _ 2 _ _ (by rfl) (by rfl) (by rfl) _ (by rfl)) 6 rfl (by omega) (by simp;omega) ?_
    intro A2 c2 w2 hown2 hb2 _ _
    have hB2':=(hB1'.alloc (by omega) _).trans hb2
    have hq2:=hq1.below ((bR _ _).alloc (nR _) (cL #[X .u8 ((u64n (8 + (n:Int))) / 256 % 256:Nat),X .u8 ((u64n (8 + (n:Int))) % 256:Nat)] 5)) hq1.lt
    have hq2:=hq2.below hb2 (Nat.lt_succ_self q)
    have hs2:=hB2'.size
    clear hown1 hb2 hc2 hq1
    go_wp2_with (at_builtin;refine stop_ ?_)
    refine on_ ?_
    refine wpList_append_b rfl (.tmp 31) (.tmp 32) _ rfl 5 infoB underlying23 (q + 1) (G A2 6 c2) 6 _ rfl (hown2.alloc _) _ (some ⟨w2.heap.size,0,none⟩) 2 2 [0,0] rfl (reads_new _ _ _ _ 2 _ _ (by rfl) (by rfl) (by rfl) _ (by rfl)) 8 rfl (by omega) (by simp;omega) ?_
    intro A3 c3 w3 hown3 hb3 _ _
    have hB3':=(hB2'.alloc (by omega) _).trans hb3
    have hq3:=hq2.below ((bR _ _).alloc (nR _) (cL #[X .u8 0,X .u8 0] 5)) hq2.lt
    have hq3:=hq3.below hb3 (Nat.lt_succ_self q)
    have hs3:=hB3'.size
    have hB3:=hB0.trans (hB3'.mono (by rw[←HQ.out];omega))
    clear hown2 hb3 hq2 hB2'
    go_wp2_with (at_builtin;refine stop_ ?_)
    refine on_ ?_
    refine wpList_append_b rfl (.tmp 34) (.tmp 35) _ rfl 5 infoB underlying23 (q + 1) (G A3 8 c3) 8 _ rfl hown3 w3.heap.size A n c l rfl (HR.out w3 hB3) (8 + n) rfl (by omega) (by omega) ?_
    intro A4 c4 w4 hown4 hb4 _ _
    have hB4':=hB3'.trans hb4
    have hq4:=hq3.below hb4 (Nat.lt_succ_self q)
    have hB4:=hB0.trans (hB4'.mono (by rw[←HQ.out];omega))
    have hs4:=hB4'.size
    have hO4:=jH hown4
    obtain⟨hc0,hc1,hc2⟩:=hq4.c3
    clear hown3 hb4 hq3 hB3' hown4
    go_wp2_with fail
    have CBn:=CB.out (8 + n) (by omega) w4
    have hcast:((8 + n:Nat):Int)=8 + (n:Int):=by omega
    rw[hcast] at CBn
    have HCB:=jH CBn
    have HEn:=jH (HE.out (udpHead ⟨src,dst,proto,sport,dport⟩ n++l) (8 + n) (by unfold madeP;rw[if_neg (by intro h;have h':proto=6:=h;rw[h'] at hbt;exact absurd hbt (by decide))];unfold udpHead;rw[HL.out]) (by rw[List.length_append,HL.out];rfl))
    rw[hcast] at HEn
    clear CBn hcast hc0 hc1 hc2
    refine HCB.out.mono ?_
    rintro e w5 ⟨A5,c5,rfl,hown5,hb5⟩
    have hB5:=hB4.trans (hb5.mono hB4.size)
    have hO45:=own_below hO4.out hb5
    have hs5:=hb5.size
    have hBA:=jH hb5
    clear HCB hO4 hb5
    go_wp2_with (at_builtin;refine stop_ ?_)
    refine on_ ?_
    refine wpList_append_b rfl (.tmp 48) (.tmp 49) _ rfl 5 infoB underlying23 w4.heap.size (G A5 20 c5) 20 _ rfl hown5 w5.heap.size A4 (8 + n) c4 _ rfl (Reads.of_own hO45) (20 + (8 + n)) rfl (by omega) hs5 ?_
    intro A6 c6 w6 hown6 hb6 _ _
    have hown6:w6.ownsRow w4.heap.size 5 1 (G A6 (20 + (8 + n)) c6) (20 + (8 + n)) (bv (madeB ⟨src,dst,proto,sport,dport⟩ ttl flags l)):=by rw[HEn.out];exact hown6
    have hB6:=hB5.trans (hb6.mono hB4.size)
    have hlN:20 + (8 + n)=(madeB ⟨src,dst,proto,sport,dport⟩ ttl flags l).length:=by
     have:=hown6.1
     rw[bv_length] at this
     omega
    have HF:Hid (MadeRet ⟨src,dst,proto,sport,dport⟩ ttl flags l w (rT (G A6 (20 + (8 + n)) c6)) w6):=⟨A6,_,c6,rfl,hlN,own_lower hown6 hB4.size,hB6⟩
    clear hlN hown6 hown5 hO45
    go_wp2_with fail
    go_ret
    exact HF.out
   ·have hbt:(proto==6)=true:=HTC.out
    have hs1:=hB1.size
    go_wp2_with (at_builtin;refine stop_ ?_)
    refine on_ ?_
    rw[hfl.out]
    refine wpList_append_b rfl (.tmp 21) (.tmp 24) _ rfl 5 infoB underlying23 (q + 1) (G A1 4 c1) 4 _ rfl (hown1.alloc _) _ (some ⟨wc.heap.size,0,none⟩) 16 16 [0,0,0,0,0,0,0,0,80,u64n flags % 256,0,0,0,0,0,0] rfl (reads_new _ _ _ _ 16 _ _ (by rfl) (by rfl) (by rfl) _ (by rfl)) 20 rfl (by omega) (by simp;omega) ?_
    intro A3 c3 w3 hown3 hb3 _ _
    have hB3':=(hB1'.alloc (by omega) _).trans hb3
    have hq3:=hq1.below ((bR _ _).alloc (nR _) (cL #[X .u8 0,X .u8 0,X .u8 0,X .u8 0,X .u8 0,X .u8 0,X .u8 0,X .u8 0,X .u8 80,X .u8 (u64n flags % 256:Nat),X .u8 0,X .u8 0,X .u8 0,X .u8 0,X .u8 0,X .u8 0] 5)) hq1.lt
    have hq3:=hq3.below hb3 (Nat.lt_succ_self q)
    have hs3:=hB3'.size
    have hB3:=hB0.trans (hB3'.mono (by rw[←HQ.out];omega))
    clear hown1 hb3 hq1 hc2
    go_wp2_with (at_builtin;refine stop_ ?_)
    refine on_ ?_
    refine wpList_append_b rfl (.tmp 34) (.tmp 35) _ rfl 5 infoB underlying23 (q + 1) (G A3 20 c3) 20 _ rfl hown3 w3.heap.size A n c l rfl (HR.out w3 hB3) (20 + n) rfl (by omega) (by omega) ?_
    intro A4 c4 w4 hown4 hb4 _ _
    have hB4':=hB3'.trans hb4
    have hq4:=hq3.below hb4 (Nat.lt_succ_self q)
    have hB4:=hB0.trans (hB4'.mono (by rw[←HQ.out];omega))
    have hs4:=hB4'.size
    have hO4:=jH hown4
    obtain⟨hc0,hc1,hc2⟩:=hq4.c3
    clear hown3 hb4 hq3 hB3' hown4
    go_wp2_with fail
    have CBn:=CB.out (20 + n) (by omega) w4
    have hcast:((20 + n:Nat):Int)=20 + (n:Int):=by omega
    rw[hcast] at CBn
    have HCB:=jH CBn
    have HEn:=jH (HE.out (tcpHead ⟨src,dst,proto,sport,dport⟩ flags++l) (20 + n) (by unfold madeP;rw[if_pos (by simpa using hbt)]) (by rw[List.length_append,HL.out];rfl))
    rw[hcast] at HEn
    clear CBn hcast hc0 hc1 hc2
    refine HCB.out.mono ?_
    rintro e w5 ⟨A5,c5,rfl,hown5,hb5⟩
    have hB5:=hB4.trans (hb5.mono hB4.size)
    have hO45:=own_below hO4.out hb5
    have hs5:=hb5.size
    have hBA:=jH hb5
    clear HCB hO4 hb5
    go_wp2_with (at_builtin;refine stop_ ?_)
    refine on_ ?_
    refine wpList_append_b rfl (.tmp 48) (.tmp 49) _ rfl 5 infoB underlying23 w4.heap.size (G A5 20 c5) 20 _ rfl hown5 w5.heap.size A4 (20 + n) c4 _ rfl (Reads.of_own hO45) (20 + (20 + n)) rfl (by omega) hs5 ?_
    intro A6 c6 w6 hown6 hb6 _ _
    have hown6:w6.ownsRow w4.heap.size 5 1 (G A6 (20 + (20 + n)) c6) (20 + (20 + n)) (bv (madeB ⟨src,dst,proto,sport,dport⟩ ttl flags l)):=by rw[HEn.out];exact hown6
    have hB6:=hB5.trans (hb6.mono hB4.size)
    have hlN:20 + (20 + n)=(madeB ⟨src,dst,proto,sport,dport⟩ ttl flags l).length:=by
     have:=hown6.1
     rw[bv_length] at this
     omega
    have HF:Hid (MadeRet ⟨src,dst,proto,sport,dport⟩ ttl flags l w (rT (G A6 (20 + (20 + n)) c6)) w6):=⟨A6,_,c6,rfl,hlN,own_lower hown6 hB4.size,hB6⟩
    clear hlN hown6 hown5 hO45
    go_wp2_with fail
    go_ret
    exact HF.out
 exact both _ rfl
def wholeN (f o:Nat):Bool:=decide (f % 2=0∧o=0)
theorem whole_any (y0 y1 y2 y3 f o y6 y7 y8 y9 y10:Nat)(w:World)(hf:f < 65536)(ho:o < 65536):
  Calls Pg 315 #[aG #[X Y y0,X Y y1,X Y y2,X Y y3,X Y f,X Y o,X Y y6,X Y y7,X Y y8,X Z y9,X Z y10]] w fun e w'=>e=rT (bL (wholeN f o))∧Below w.heap.size w w':=by
 have hm:bits BinOp.and IntKind.i64 (f:Int) 1=((f % 2:Nat):Int):=by
  have:=i64_and_nat f 1 (by omega) (by omega)
  rw[nat_mask1] at this
  exact this
 by_cases h1:f % 2=0
 ·by_cases h2:o=0
  ·have HB:Hid (wholeN f o=true):=decide_eq_true ⟨h1,h2⟩
   have b1:(((f % 2:Nat):Int)==0)=true:=by simp[h1]
   have b1':(((f:Int) % 2)==0)=true:=by simp;omega
   have b2:((o:Int)==0)=true:=by simp[h2]
   clear h1 h2
   go_enter func315,ntmps315
   go_wp2_with fail
   go_ret
   exact⟨by rw[HB.out];rfl,(bR _ _).alloc (nR _) _⟩
  ·have HB:Hid (wholeN f o=false):=decide_eq_false (by omega)
   have b1:(((f % 2:Nat):Int)==0)=true:=by simp[h1]
   have b1':(((f:Int) % 2)==0)=true:=by simp;omega
   have b2:((o:Int)==0)=false:=by simp;omega
   clear h1 h2
   go_enter func315,ntmps315
   go_wp2_with fail
   go_ret
   exact⟨by rw[HB.out];rfl,(bR _ _).alloc (nR _) _⟩
 ·have HB:Hid (wholeN f o=false):=decide_eq_false (by omega)
  have b1:(((f % 2:Nat):Int)==0)=false:=by simp;omega
  have b1':(((f:Int) % 2)==0)=false:=by simp;omega
  clear h1
  go_enter func315,ntmps315
  go_wp2_with fail
  go_ret
  exact⟨by rw[HB.out];rfl,(bR _ _).alloc (nR _) _⟩
def wholeL (l:List Nat):Bool:=wholeN (two' l 6 / 8192) (two' l 6 % 8192)
def whyT (l:List Nat):Nat:=
 if whyP l≠0 then whyP l
 else if wholeL l=false then 6
 else if at' l 9=6 then (if tcpB (bodyP l)=true then 0 else 9)
 else if at' l 9=17 then (if udpB (bodyP l)=true then 0 else 9)
 else 8
def tuP (l:List Nat):Tu:=⟨four' l 12,four' l 16,(at' l 9:Nat),(two' (bodyP l) 0:Nat),(two' (bodyP l) 2:Nat)⟩
def tu0:Tu:=⟨0,0,0,0,0⟩
def WithinRet (l:List Nat)(w:World)(e:Ending)(w':World):Prop:=
 (whyT l=0∧∃A c,e=rT (tU #[.agg (tuP l).vals,.agg (hdP l).vals,G A (lenP l - 4 * ihlP l) c,X Y 0])∧w'.ownsRow w.heap.size 5 1 (G A (lenP l - 4 * ihlP l) c) (lenP l - 4 * ihlP l) (bv (bodyP l)))∨
 (whyT l≠0∧e=rT (tU #[.agg tu0.vals,.agg hd0.vals,G none 0 0,X Y (whyT l:Nat)]))
theorem within_no1 (A:Option Addr)(n c B:Nat)(l:List Nat)(w:World)(hr:Reads w B 1 A n (bv l))(hB0:B≤w.heap.size)(hn:n≤140737488355328)(hnc:n≤c)(ha:AllB l)(hno:whyP l≠0):
  Calls Pg 203 #[G A n c] w fun e w'=>WithinRet l w e w'∧Below w.heap.size w w':=by
 have CP:=jH (fun w' (hb:Below w.heap.size w w')=>parse_any A n c w'.heap.size l w' ((hr.below (hb.mono hB0)).more (nT hB0 hb.size)) (nR _) hn hnc ha)
 have hT:whyT l=whyP l:=by unfold whyT;rw[if_pos hno]
 obtain⟨r,hrr⟩:∃r,r=whyP l:=⟨_,rfl⟩
 have HR:Hid (∀w',WithinRet l w (rT (tU #[aG #[X Z 0,X Z 0,X Y 0,X Y 0,X Y 0],aG #[X Y 0,X Y 0,X Y 0,X Y 0,X Y 0,X Y 0,X Y 0,X Y 0,X Y 0,X Z 0,X Z 0],G none 0 0,X Y r])) w'):=fun w'=>.inr ⟨by rw[hT];exact hno,by rw[hT,hrr];rfl⟩
 have HN:=jH (aI hno hrr)
 have hb:((r:Int) !=0)=true:=by simp;omega
 clear hr hno hT hrr ha
 go_enter func203,ntmps203
 go_wp2_with fail
 have hq2:=(Blk.new w 39 #[X Z 0,X Z 0,X Y 0,X Y 0,X Y 0]).alloc (cL #[X Y 0,X Y 0,X Y 0,X Y 0,X Y 0,X Y 0,X Y 0,X Y 0,X Y 0,X Z 0,X Z 0] 132)
 have hq3:Blk ((w.alloc (cL #[X Z 0,X Z 0,X Y 0,X Y 0,X Y 0] 39)).alloc (cL #[X Y 0,X Y 0,X Y 0,X Y 0,X Y 0,X Y 0,X Y 0,X Y 0,X Y 0,X Z 0,X Z 0] 132)) (w.heap.size + 1) 132 #[X Y 0,X Y 0,X Y 0,X Y 0,X Y 0,X Y 0,X Y 0,X Y 0,X Y 0,X Z 0,X Z 0]:=Blk.new_ (by simp)
 have hB:=((bR w.heap.size w).alloc (nR _) (cL #[X Z 0,X Z 0,X Y 0,X Y 0,X Y 0] 39)).alloc (by simp) (cL #[X Y 0,X Y 0,X Y 0,X Y 0,X Y 0,X Y 0,X Y 0,X Y 0,X Y 0,X Z 0,X Z 0] 132)
 refine(CP.out _ hB).mono ?_
 rintro e w1 ⟨hret,hb1⟩
 obtain rfl:=hret.no HN.out.1
 rw[←HN.out.2]
 have hq2:=hq2.below hb1 hq2.lt
 have hq3:=hq3.below hb1 hq3.lt
 have hB:=hB.trans (hb1.mono hB.size)
 have hq2:=hq2.alloc (cL #[X Y 0,X Y 0,X Y 0,X Y 0,X Y 0,X Y 0,X Y 0,X Y 0,X Y 0,X Z 0,X Z 0] 132)
 have hq3:=hq3.alloc (cL #[X Y 0,X Y 0,X Y 0,X Y 0,X Y 0,X Y 0,X Y 0,X Y 0,X Y 0,X Z 0,X Z 0] 132)
 have hB:=hB.alloc hB.size (cL #[X Y 0,X Y 0,X Y 0,X Y 0,X Y 0,X Y 0,X Y 0,X Y 0,X Y 0,X Z 0,X Z 0] 132)
 clear hret hb1 CP
 obtain⟨q,hq⟩:∃q,q=w.heap.size:=⟨_,rfl⟩
 rw[←hq] at hq2 hq3⊢
 have HQ:=jH hq
 clear hq
 unfold hd0 Hd.vals
 obtain⟨ta0,ta1,ta2,ta3,ta4⟩:=hq2.c5
 obtain⟨tf0,tf1,tf2,tf3,tf4⟩:=hq2.f5
 obtain⟨ha0,ha1,ha2,ha3,ha4,ha5,ha6,ha7,ha8,ha9,ha10⟩:=hq3.c11
 obtain⟨hf0,hf1,hf2,hf3,hf4,hf5,hf6,hf7,hf8,hf9,hf10⟩:=hq3.f11
 go_wp2_with fail
 obtain⟨wz,hwz⟩:∃wz,wz=((((((((((((((((w1.alloc (cL #[X Y 0,X Y 0,X Y 0,X Y 0,X Y 0,X Y 0,X Y 0,X Y 0,X Y 0,X Z 0,X Z 0] 132)).setCell ⟨q,0,none⟩ (X Z 0)).setCell ⟨q,1,none⟩ (X Z 0)).setCell ⟨q,2,none⟩ (X Y 0)).setCell ⟨q,3,none⟩ (X Y 0)).setCell ⟨q,4,none⟩ (X Y 0)).setCell ⟨q + 1,0,none⟩ (X Y 0)).setCell ⟨q + 1,1,none⟩ (X Y 0)).setCell ⟨q + 1,2,none⟩ (X Y 0)).setCell ⟨q + 1,3,none⟩ (X Y 0)).setCell ⟨q + 1,4,none⟩ (X Y 0)).setCell ⟨q + 1,5,none⟩ (X Y 0)).setCell ⟨q + 1,6,none⟩ (X Y 0)).setCell ⟨q + 1,7,none⟩ (X Y 0)).setCell ⟨q + 1,8,none⟩ (X Y 0)).setCell ⟨q + 1,9,none⟩ (X Z 0)).setCell ⟨q + 1,10,none⟩ (X Z 0):=⟨_,rfl⟩
 have hz2:Blk wz q 39 #[X Z 0,X Z 0,X Y 0,X Y 0,X Y 0]:=by
  rw[hwz]
  have hset:=((((((((((((((((hq2).set_ 0 (X Z 0)).set_ 1 (X Z 0)).set_ 2 (X Y 0)).set_ 3 (X Y 0)).set_ 4 (X Y 0)).far (p:=⟨q + 1,0,none⟩) (by show q≠q + 1;omega) (X Y 0)).far (p:=⟨q + 1,1,none⟩) (by show q≠q + 1;omega) (X Y 0)).far (p:=⟨q + 1,2,none⟩) (by show q≠q + 1;omega) (X Y 0)).far (p:=⟨q + 1,3,none⟩) (by show q≠q + 1;omega) (X Y 0)).far (p:=⟨q + 1,4,none⟩) (by show q≠q + 1;omega) (X Y 0)).far (p:=⟨q + 1,5,none⟩) (by show q≠q + 1;omega) (X Y 0)).far (p:=⟨q + 1,6,none⟩) (by show q≠q + 1;omega) (X Y 0)).far (p:=⟨q + 1,7,none⟩) (by show q≠q + 1;omega) (X Y 0)).far (p:=⟨q + 1,8,none⟩) (by show q≠q + 1;omega) (X Y 0)).far (p:=⟨q + 1,9,none⟩) (by show q≠q + 1;omega) (X Z 0)).far (p:=⟨q + 1,10,none⟩) (by show q≠q + 1;omega) (X Z 0)
  simp only[List.setIfInBounds_toArray,List.set_cons_zero,List.set_cons_succ] at hset
  exact hset
 have hz3:Blk wz (q + 1) 132 #[X Y 0,X Y 0,X Y 0,X Y 0,X Y 0,X Y 0,X Y 0,X Y 0,X Y 0,X Z 0,X Z 0]:=by
  rw[hwz]
  have hset:=((((((((((((((((hq3).far (p:=⟨q,0,none⟩) (by show q + 1≠q;omega) (X Z 0)).far (p:=⟨q,1,none⟩) (by show q + 1≠q;omega) (X Z 0)).far (p:=⟨q,2,none⟩) (by show q + 1≠q;omega) (X Y 0)).far (p:=⟨q,3,none⟩) (by show q + 1≠q;omega) (X Y 0)).far (p:=⟨q,4,none⟩) (by show q + 1≠q;omega) (X Y 0)).set_ 0 (X Y 0)).set_ 1 (X Y 0)).set_ 2 (X Y 0)).set_ 3 (X Y 0)).set_ 4 (X Y 0)).set_ 5 (X Y 0)).set_ 6 (X Y 0)).set_ 7 (X Y 0)).set_ 8 (X Y 0)).set_ 9 (X Z 0)).set_ 10 (X Z 0)
  simp only[List.setIfInBounds_toArray,List.set_cons_zero,List.set_cons_succ] at hset
  exact hset
 have hBz:Below w.heap.size w wz:=by
  rw[hwz]
  exact((((((((((((((((hB).setCell (p:=⟨q,0,none⟩) (by rw[HQ.out];exact nR _) _).setCell (p:=⟨q,1,none⟩) (by rw[HQ.out];exact nR _) _).setCell (p:=⟨q,2,none⟩) (by rw[HQ.out];exact nR _) _).setCell (p:=⟨q,3,none⟩) (by rw[HQ.out];exact nR _) _).setCell (p:=⟨q,4,none⟩) (by rw[HQ.out];exact nR _) _).setCell (p:=⟨q + 1,0,none⟩) (by rw[HQ.out];exact nS _) _).setCell (p:=⟨q + 1,1,none⟩) (by rw[HQ.out];exact nS _) _).setCell (p:=⟨q + 1,2,none⟩) (by rw[HQ.out];exact nS _) _).setCell (p:=⟨q + 1,3,none⟩) (by rw[HQ.out];exact nS _) _).setCell (p:=⟨q + 1,4,none⟩) (by rw[HQ.out];exact nS _) _).setCell (p:=⟨q + 1,5,none⟩) (by rw[HQ.out];exact nS _) _).setCell (p:=⟨q + 1,6,none⟩) (by rw[HQ.out];exact nS _) _).setCell (p:=⟨q + 1,7,none⟩) (by rw[HQ.out];exact nS _) _).setCell (p:=⟨q + 1,8,none⟩) (by rw[HQ.out];exact nS _) _).setCell (p:=⟨q + 1,9,none⟩) (by rw[HQ.out];exact nS _) _).setCell (p:=⟨q + 1,10,none⟩) (by rw[HQ.out];exact nS _) _
 rw[←hwz]
 clear hwz
 obtain⟨ra0,ra1,ra2,ra3,ra4⟩:=hz2.c5
 obtain⟨rb0,rb1,rb2,rb3,rb4,rb5,rb6,rb7,rb8,rb9,rb10⟩:=hz3.c11
 exact bodyPost_ret (v:=tU #[aG #[X Z 0,X Z 0,X Y 0,X Y 0,X Y 0],aG #[X Y 0,X Y 0,X Y 0,X Y 0,X Y 0,X Y 0,X Y 0,X Y 0,X Y 0,X Z 0,X Z 0],G none 0 0,X Y r]) (by simp[results,results203,go_sem,ra0,ra1,ra2,ra3,ra4,rb0,rb1,rb2,rb3,rb4,rb5,rb6,rb7,rb8,rb9,rb10]) rfl ⟨HR.out _,hBz⟩
theorem wret_no {w:World}{l:List Nat}{r:Nat}(h:whyT l=r)(h0:r≠0):∀w',WithinRet l w (rT (tU #[aG #[X Z 0,X Z 0,X Y 0,X Y 0,X Y 0],aG #[X Y 0,X Y 0,X Y 0,X Y 0,X Y 0,X Y 0,X Y 0,X Y 0,X Y 0,X Z 0,X Z 0],G none 0 0,X Y r])) w':=fun w'=>.inr (by
 rw[h]
 exact⟨h0,rfl⟩)
theorem within_no (A:Option Addr)(n c B:Nat)(l:List Nat)(w:World)(hr:Reads w B 1 A n (bv l))(hB0:B≤w.heap.size)(hn:n≤140737488355328)(hnc:n≤c)(ha:AllB l)(hyes:whyP l=0)(hc:wholeL l=false∨wholeL l=true∧(at' l 9≠6∧at' l 9≠17∨at' l 9=6∧tcpB (bodyP l)=false∨at' l 9=17∧udpB (bodyP l)=false)):
  Calls Pg 203 #[G A n c] w fun e w'=>WithinRet l w e w'∧Below w.heap.size w w':=by
 have CP:=jH (fun w' (hb:Below w.heap.size w w')=>parse_any A n c w'.heap.size l w' ((hr.below (hb.mono hB0)).more (nT hB0 hb.size)) (nR _) hn hnc ha)
 obtain⟨y0,y1,y2,y3,f,o,y6,y7,y8,y9,y10,hvals,hf,ho,h7,h9,h10⟩:∃y0 y1 y2 y3 f o y6 y7 y8 y9 y10:Nat,(hdP l).vals=#[X Y y0,X Y y1,X Y y2,X Y y3,X Y f,X Y o,X Y y6,X Y y7,X Y y8,X Z y9,X Z y10]∧f=two' l 6 / 8192∧o=two' l 6 % 8192∧y7=at' l 9∧y9=four' l 12∧y10=four' l 16:=⟨_,_,_,_,_,_,_,_,_,_,_,rfl,rfl,rfl,rfl,rfl,rfl⟩
 have hfl:f < 65536:=by have:=two_lt ha 6;omega
 have hol:o < 65536:=by omega
 have CW:=jH (fun w'=>whole_any y0 y1 y2 y3 f o y6 y7 y8 y9 y10 w' hfl hol)
 have hw1:wholeN f o=wholeL l:=by rw[hf,ho];rfl
 rw[hw1] at CW
 have HY:=jH (aI hyes (aI hvals h7))
 have hbz:(((0:Nat):Int) !=0)=false:=by decide
 have HBA:Hid (AllB (bodyP l)):=(ha.take _).drop _
 have hbl:lenP l - 4 * ihlP l≤140737488355328:=by have:=two_lt ha 2;unfold lenP;omega
 obtain⟨m,hm⟩:∃m,m=lenP l - 4 * ihlP l:=⟨_,rfl⟩
 rw[←hm] at hbl
 have HM:=jH hm
 have HC:=jH hc
 clear hr hyes hvals hf ho h7 h9 h10 hw1 hfl hol hm hc
 go_enter func203,ntmps203
 go_wp2_with fail
 have hq2:=(Blk.new w 39 #[X Z 0,X Z 0,X Y 0,X Y 0,X Y 0]).alloc (cL #[X Y 0,X Y 0,X Y 0,X Y 0,X Y 0,X Y 0,X Y 0,X Y 0,X Y 0,X Z 0,X Z 0] 132)
 have hq3:Blk ((w.alloc (cL #[X Z 0,X Z 0,X Y 0,X Y 0,X Y 0] 39)).alloc (cL #[X Y 0,X Y 0,X Y 0,X Y 0,X Y 0,X Y 0,X Y 0,X Y 0,X Y 0,X Z 0,X Z 0] 132)) (w.heap.size + 1) 132 #[X Y 0,X Y 0,X Y 0,X Y 0,X Y 0,X Y 0,X Y 0,X Y 0,X Y 0,X Z 0,X Z 0]:=Blk.new_ (by simp)
 have hB:=((bR w.heap.size w).alloc (nR _) (cL #[X Z 0,X Z 0,X Y 0,X Y 0,X Y 0] 39)).alloc (by simp) (cL #[X Y 0,X Y 0,X Y 0,X Y 0,X Y 0,X Y 0,X Y 0,X Y 0,X Y 0,X Z 0,X Z 0] 132)
 refine(CP.out _ hB).mono ?_
 rintro e w1 ⟨hret,hb1⟩
 obtain⟨A1,c1,rfl,hown⟩:=hret.yes HY.out.1
 rw[HY.out.2.1,←HM.out]
 rw[←HM.out] at hown
 have hq2:=hq2.below hb1 hq2.lt
 have hq3:=hq3.below hb1 hq3.lt
 have hB:=hB.trans (hb1.mono hB.size)
 have hq2:=hq2.alloc (cL #[X Y y0,X Y y1,X Y y2,X Y y3,X Y f,X Y o,X Y y6,X Y y7,X Y y8,X Z y9,X Z y10] 132)
 have hq3:=hq3.alloc (cL #[X Y y0,X Y y1,X Y y2,X Y y3,X Y f,X Y o,X Y y6,X Y y7,X Y y8,X Z y9,X Z y10] 132)
 have hB:=hB.alloc hB.size (cL #[X Y y0,X Y y1,X Y y2,X Y y3,X Y f,X Y o,X Y y6,X Y y7,X Y y8,X Z y9,X Z y10] 132)
 have hq6:=Blk.new w1 132 #[X Y y0,X Y y1,X Y y2,X Y y3,X Y f,X Y o,X Y y6,X Y y7,X Y y8,X Z y9,X Z y10]
 have hown:=hown.alloc (cL #[X Y y0,X Y y1,X Y y2,X Y y3,X Y f,X Y o,X Y y6,X Y y7,X Y y8,X Z y9,X Z y10] 132)
 clear hret hb1 CP
 obtain⟨q,hq⟩:∃q,q=w.heap.size:=⟨_,rfl⟩
 rw[←hq] at hq2 hq3⊢
 have HQ:=jH hq
 clear hq
 go_wp2_with fail
 refine(CW.out _).mono ?_
 rintro e w2 ⟨rfl,hb2⟩
 have hq2:=hq2.below hb2 hq2.lt
 have hq3:=hq3.below hb2 hq3.lt
 have hq6:=hq6.below hb2 hq6.lt
 have hown:=own_below hown hb2
 have hB:=hB.trans (hb2.mono hB.size)
 clear hb2 CW
 have hc7:=hq6.cell 7
 simp only[ga,gz,gN] at hc7
 rcases HC.out with hwh|⟨hwh,⟨hp6,hp17⟩|⟨hp,htc⟩|⟨hp,htc⟩⟩
 all_goals rw[hwh]
 case' inl=>
  have HR:=jH (wret_no (w:=w) (l:=l) (r:=6) (by unfold whyT;rw[if_neg (fun h=>h HY.out.1),if_pos hwh]) (by decide))
  clear hq6 hown hbl HBA hc7 hwh
 case' inr.inl=>
  have HR:=jH (wret_no (w:=w) (l:=l) (r:=8) (by unfold whyT;rw[if_neg (fun h=>h HY.out.1),if_neg (by rw[hwh];decide),if_neg hp6,if_neg hp17]) (by decide))
  have hb6:((y7:Int)==6)=false:=by have:=HY.out.2.2;simp;omega
  have hb17:((y7:Int)==17)=false:=by have:=HY.out.2.2;simp;omega
  clear hq6 hown hbl HBA hwh hp6 hp17
 case' inr.inr.inl=>
  have HR:=jH (wret_no (w:=w) (l:=l) (r:=9) (by unfold whyT;rw[if_neg (fun h=>h HY.out.1),if_neg (by rw[hwh];decide),if_pos hp,htc];rfl) (by decide))
  have hb6:((y7:Int)==6)=true:=by have:=HY.out.2.2;simp;omega
  have CT:=jH (tcp_any A1 m c1 w2.heap.size (bodyP l) w2 (Reads.of_own hown) hbl HBA.out)
  rw[htc] at CT
  clear hq6 hown hbl HBA hwh hp htc
  go_wp2_with fail
  refine CT.out.mono ?_
  rintro e w' ⟨rfl,rfl⟩
  clear CT
 case' inr.inr.inr=>
  have HR:=jH (wret_no (w:=w) (l:=l) (r:=9) (by unfold whyT;rw[if_neg (fun h=>h HY.out.1),if_neg (by rw[hwh];decide),if_neg (by omega),if_pos hp,htc];rfl) (by decide))
  have hb6:((y7:Int)==6)=false:=by have:=HY.out.2.2;simp;omega
  have hb17:((y7:Int)==17)=true:=by have:=HY.out.2.2;simp;omega
  have CT:=jH (udp_any A1 m c1 w2.heap.size (bodyP l) w2 (Reads.of_own hown) (nR _) hbl (own_cap hown) HBA.out)
  rw[htc] at CT
  clear hq6 hown hbl HBA hwh hp htc
  go_wp2_with fail
  refine CT.out.mono ?_
  rintro e w3 ⟨rfl,hb3⟩
  have hq2:=hq2.below hb3 hq2.lt
  have hq3:=hq3.below hb3 hq3.lt
  have hB:=hB.trans (hb3.mono hB.size)
  clear hb3 CT
  obtain⟨w2,hww⟩:∃w,w=w3:=⟨_,rfl⟩
  subst hww
 all_goals
  obtain⟨ta0,ta1,ta2,ta3,ta4⟩:=hq2.c5
  obtain⟨tf0,tf1,tf2,tf3,tf4⟩:=hq2.f5
  obtain⟨ha0,ha1,ha2,ha3,ha4,ha5,ha6,ha7,ha8,ha9,ha10⟩:=hq3.c11
  obtain⟨hf0,hf1,hf2,hf3,hf4,hf5,hf6,hf7,hf8,hf9,hf10⟩:=hq3.f11
  go_wp2_with fail
  obtain⟨wz,hwz⟩:∃wz,wz=((((((((((((((((w2).setCell ⟨q,0,none⟩ (X Z 0)).setCell ⟨q,1,none⟩ (X Z 0)).setCell ⟨q,2,none⟩ (X Y 0)).setCell ⟨q,3,none⟩ (X Y 0)).setCell ⟨q,4,none⟩ (X Y 0)).setCell ⟨q + 1,0,none⟩ (X Y 0)).setCell ⟨q + 1,1,none⟩ (X Y 0)).setCell ⟨q + 1,2,none⟩ (X Y 0)).setCell ⟨q + 1,3,none⟩ (X Y 0)).setCell ⟨q + 1,4,none⟩ (X Y 0)).setCell ⟨q + 1,5,none⟩ (X Y 0)).setCell ⟨q + 1,6,none⟩ (X Y 0)).setCell ⟨q + 1,7,none⟩ (X Y 0)).setCell ⟨q + 1,8,none⟩ (X Y 0)).setCell ⟨q + 1,9,none⟩ (X Z 0)).setCell ⟨q + 1,10,none⟩ (X Z 0):=⟨_,rfl⟩
  have hz2:Blk wz q 39 #[X Z 0,X Z 0,X Y 0,X Y 0,X Y 0]:=by
   rw[hwz]
   have hset:=((((((((((((((((hq2).set_ 0 (X Z 0)).set_ 1 (X Z 0)).set_ 2 (X Y 0)).set_ 3 (X Y 0)).set_ 4 (X Y 0)).far (p:=⟨q + 1,0,none⟩) (by show q≠q + 1;omega) (X Y 0)).far (p:=⟨q + 1,1,none⟩) (by show q≠q + 1;omega) (X Y 0)).far (p:=⟨q + 1,2,none⟩) (by show q≠q + 1;omega) (X Y 0)).far (p:=⟨q + 1,3,none⟩) (by show q≠q + 1;omega) (X Y 0)).far (p:=⟨q + 1,4,none⟩) (by show q≠q + 1;omega) (X Y 0)).far (p:=⟨q + 1,5,none⟩) (by show q≠q + 1;omega) (X Y 0)).far (p:=⟨q + 1,6,none⟩) (by show q≠q + 1;omega) (X Y 0)).far (p:=⟨q + 1,7,none⟩) (by show q≠q + 1;omega) (X Y 0)).far (p:=⟨q + 1,8,none⟩) (by show q≠q + 1;omega) (X Y 0)).far (p:=⟨q + 1,9,none⟩) (by show q≠q + 1;omega) (X Z 0)).far (p:=⟨q + 1,10,none⟩) (by show q≠q + 1;omega) (X Z 0)
   simp only[List.setIfInBounds_toArray,List.set_cons_zero,List.set_cons_succ] at hset
   exact hset
  have hz3:Blk wz (q + 1) 132 #[X Y 0,X Y 0,X Y 0,X Y 0,X Y 0,X Y 0,X Y 0,X Y 0,X Y 0,X Z 0,X Z 0]:=by
   rw[hwz]
   have hset:=((((((((((((((((hq3).far (p:=⟨q,0,none⟩) (by show q + 1≠q;omega) (X Z 0)).far (p:=⟨q,1,none⟩) (by show q + 1≠q;omega) (X Z 0)).far (p:=⟨q,2,none⟩) (by show q + 1≠q;omega) (X Y 0)).far (p:=⟨q,3,none⟩) (by show q + 1≠q;omega) (X Y 0)).far (p:=⟨q,4,none⟩) (by show q + 1≠q;omega) (X Y 0)).set_ 0 (X Y 0)).set_ 1 (X Y 0)).set_ 2 (X Y 0)).set_ 3 (X Y 0)).set_ 4 (X Y 0)).set_ 5 (X Y 0)).set_ 6 (X Y 0)).set_ 7 (X Y 0)).set_ 8 (X Y 0)).set_ 9 (X Z 0)).set_ 10 (X Z 0)
   simp only[List.setIfInBounds_toArray,List.set_cons_zero,List.set_cons_succ] at hset
   exact hset
  have hBz:Below w.heap.size w wz:=by
   rw[hwz]
   exact((((((((((((((((hB).setCell (p:=⟨q,0,none⟩) (by rw[HQ.out];exact nR _) _).setCell (p:=⟨q,1,none⟩) (by rw[HQ.out];exact nR _) _).setCell (p:=⟨q,2,none⟩) (by rw[HQ.out];exact nR _) _).setCell (p:=⟨q,3,none⟩) (by rw[HQ.out];exact nR _) _).setCell (p:=⟨q,4,none⟩) (by rw[HQ.out];exact nR _) _).setCell (p:=⟨q + 1,0,none⟩) (by rw[HQ.out];exact nS _) _).setCell (p:=⟨q + 1,1,none⟩) (by rw[HQ.out];exact nS _) _).setCell (p:=⟨q + 1,2,none⟩) (by rw[HQ.out];exact nS _) _).setCell (p:=⟨q + 1,3,none⟩) (by rw[HQ.out];exact nS _) _).setCell (p:=⟨q + 1,4,none⟩) (by rw[HQ.out];exact nS _) _).setCell (p:=⟨q + 1,5,none⟩) (by rw[HQ.out];exact nS _) _).setCell (p:=⟨q + 1,6,none⟩) (by rw[HQ.out];exact nS _) _).setCell (p:=⟨q + 1,7,none⟩) (by rw[HQ.out];exact nS _) _).setCell (p:=⟨q + 1,8,none⟩) (by rw[HQ.out];exact nS _) _).setCell (p:=⟨q + 1,9,none⟩) (by rw[HQ.out];exact nS _) _).setCell (p:=⟨q + 1,10,none⟩) (by rw[HQ.out];exact nS _) _
  rw[←hwz]
  clear hwz
  obtain⟨ra0,ra1,ra2,ra3,ra4⟩:=hz2.c5
  obtain⟨rb0,rb1,rb2,rb3,rb4,rb5,rb6,rb7,rb8,rb9,rb10⟩:=hz3.c11
  first
   |exact bodyPost_ret (v:=tU #[aG #[X Z 0,X Z 0,X Y 0,X Y 0,X Y 0],aG #[X Y 0,X Y 0,X Y 0,X Y 0,X Y 0,X Y 0,X Y 0,X Y 0,X Y 0,X Z 0,X Z 0],G none 0 0,X Y 6]) (by simp[results,results203,go_sem,ra0,ra1,ra2,ra3,ra4,rb0,rb1,rb2,rb3,rb4,rb5,rb6,rb7,rb8,rb9,rb10]) rfl ⟨HR.out _,hBz⟩
   |exact bodyPost_ret (v:=tU #[aG #[X Z 0,X Z 0,X Y 0,X Y 0,X Y 0],aG #[X Y 0,X Y 0,X Y 0,X Y 0,X Y 0,X Y 0,X Y 0,X Y 0,X Y 0,X Z 0,X Z 0],G none 0 0,X Y 8]) (by simp[results,results203,go_sem,ra0,ra1,ra2,ra3,ra4,rb0,rb1,rb2,rb3,rb4,rb5,rb6,rb7,rb8,rb9,rb10]) rfl ⟨HR.out _,hBz⟩
   |exact bodyPost_ret (v:=tU #[aG #[X Z 0,X Z 0,X Y 0,X Y 0,X Y 0],aG #[X Y 0,X Y 0,X Y 0,X Y 0,X Y 0,X Y 0,X Y 0,X Y 0,X Y 0,X Z 0,X Z 0],G none 0 0,X Y 9]) (by simp[results,results203,go_sem,ra0,ra1,ra2,ra3,ra4,rb0,rb1,rb2,rb3,rb4,rb5,rb6,rb7,rb8,rb9,rb10]) rfl ⟨HR.out _,hBz⟩
theorem within_yes (A:Option Addr)(n c B:Nat)(l:List Nat)(w:World)(hr:Reads w B 1 A n (bv l))(hB0:B≤w.heap.size)(hn:n≤140737488355328)(hnc:n≤c)(ha:AllB l)(hyes:whyP l=0)(hc:wholeL l=true∧(at' l 9=6∧tcpB (bodyP l)=true∨at' l 9=17∧udpB (bodyP l)=true)):
  Calls Pg 203 #[G A n c] w fun e w'=>WithinRet l w e w'∧Below w.heap.size w w':=by
 have CP:=jH (fun w' (hb:Below w.heap.size w w')=>parse_any A n c w'.heap.size l w' ((hr.below (hb.mono hB0)).more (nT hB0 hb.size)) (nR _) hn hnc ha)
 obtain⟨y0,y1,y2,y3,f,o,y6,y7,y8,y9,y10,hvals,hf,ho,h7,h9,h10⟩:∃y0 y1 y2 y3 f o y6 y7 y8 y9 y10:Nat,(hdP l).vals=#[X Y y0,X Y y1,X Y y2,X Y y3,X Y f,X Y o,X Y y6,X Y y7,X Y y8,X Z y9,X Z y10]∧f=two' l 6 / 8192∧o=two' l 6 % 8192∧y7=at' l 9∧y9=four' l 12∧y10=four' l 16:=⟨_,_,_,_,_,_,_,_,_,_,_,rfl,rfl,rfl,rfl,rfl,rfl⟩
 obtain⟨s0,hs0⟩:∃s0,s0=two' (bodyP l) 0:=⟨_,rfl⟩
 obtain⟨s2,hs2⟩:∃s2,s2=two' (bodyP l) 2:=⟨_,rfl⟩
 have HS:=jH (aI hs0 hs2)
 have HTU:Hid ((tuP l).vals=#[X Z y9,X Z y10,X Y y7,X Y s0,X Y s2]):=by
  show _=_
  rw[hs0,hs2,h7,h9,h10]
  rfl
 clear hs0 hs2
 have hfl:f < 65536:=by have:=two_lt ha 6;omega
 have hol:o < 65536:=by omega
 have CW:=jH (fun w'=>whole_any y0 y1 y2 y3 f o y6 y7 y8 y9 y10 w' hfl hol)
 have hw1:wholeN f o=wholeL l:=by rw[hf,ho];rfl
 rw[hw1] at CW
 have HY:=jH (aI hyes (aI hvals h7))
 have hbz:(((0:Nat):Int) !=0)=false:=by decide
 have HBA:Hid (AllB (bodyP l)):=(ha.take _).drop _
 have hbl:lenP l - 4 * ihlP l≤140737488355328:=by have:=two_lt ha 2;unfold lenP;omega
 obtain⟨m,hm⟩:∃m,m=lenP l - 4 * ihlP l:=⟨_,rfl⟩
 rw[←hm] at hbl
 have HM:=jH hm
 have HC:=jH hc
 clear hr hyes hvals hf ho h7 h9 h10 hw1 hfl hol hm hc
 go_enter func203,ntmps203
 go_wp2_with fail
 have hq2:=(Blk.new w 39 #[X Z 0,X Z 0,X Y 0,X Y 0,X Y 0]).alloc (cL #[X Y 0,X Y 0,X Y 0,X Y 0,X Y 0,X Y 0,X Y 0,X Y 0,X Y 0,X Z 0,X Z 0] 132)
 have hq3:Blk ((w.alloc (cL #[X Z 0,X Z 0,X Y 0,X Y 0,X Y 0] 39)).alloc (cL #[X Y 0,X Y 0,X Y 0,X Y 0,X Y 0,X Y 0,X Y 0,X Y 0,X Y 0,X Z 0,X Z 0] 132)) (w.heap.size + 1) 132 #[X Y 0,X Y 0,X Y 0,X Y 0,X Y 0,X Y 0,X Y 0,X Y 0,X Y 0,X Z 0,X Z 0]:=Blk.new_ (by simp)
 have hB:=((bR w.heap.size w).alloc (nR _) (cL #[X Z 0,X Z 0,X Y 0,X Y 0,X Y 0] 39)).alloc (by simp) (cL #[X Y 0,X Y 0,X Y 0,X Y 0,X Y 0,X Y 0,X Y 0,X Y 0,X Y 0,X Z 0,X Z 0] 132)
 refine(CP.out _ hB).mono ?_
 rintro e w1 ⟨hret,hb1⟩
 obtain⟨A1,c1,rfl,hown⟩:=hret.yes HY.out.1
 rw[HY.out.2.1,←HM.out]
 rw[←HM.out] at hown
 have hq2:=hq2.below hb1 hq2.lt
 have hq3:=hq3.below hb1 hq3.lt
 have hB:=hB.trans (hb1.mono hB.size)
 have hq2':=hq2
 have hq3':=hq3
 have hq2:=hq2.alloc (cL #[X Y y0,X Y y1,X Y y2,X Y y3,X Y f,X Y o,X Y y6,X Y y7,X Y y8,X Z y9,X Z y10] 132)
 have hq3:=hq3.alloc (cL #[X Y y0,X Y y1,X Y y2,X Y y3,X Y f,X Y o,X Y y6,X Y y7,X Y y8,X Z y9,X Z y10] 132)
 have hB:=hB.alloc hB.size (cL #[X Y y0,X Y y1,X Y y2,X Y y3,X Y f,X Y o,X Y y6,X Y y7,X Y y8,X Z y9,X Z y10] 132)
 have HQ6:Hid (w.heap.size < w1.heap.size∧w.heap.size + 1 < w1.heap.size):=⟨by have:=hq2'.lt;omega,by have:=hq3'.lt;omega⟩
 have HBASE:Hid (w.heap.size≤((w.alloc (cL #[X Z 0,X Z 0,X Y 0,X Y 0,X Y 0] 39)).alloc (cL #[X Y 0,X Y 0,X Y 0,X Y 0,X Y 0,X Y 0,X Y 0,X Y 0,X Y 0,X Z 0,X Z 0] 132)).heap.size):=by show _≤_;simp;omega
 have hq6:=Blk.new w1 132 #[X Y y0,X Y y1,X Y y2,X Y y3,X Y f,X Y o,X Y y6,X Y y7,X Y y8,X Z y9,X Z y10]
 have hown:=hown.alloc (cL #[X Y y0,X Y y1,X Y y2,X Y y3,X Y f,X Y o,X Y y6,X Y y7,X Y y8,X Z y9,X Z y10] 132)
 clear hret hb1 CP
 obtain⟨q,hq⟩:∃q,q=w.heap.size:=⟨_,rfl⟩
 rw[←hq] at hq2 hq3 HQ6⊢
 clear hq2' hq3'
 have HQ:=jH hq
 clear hq
 go_wp2_with fail
 refine(CW.out _).mono ?_
 rintro e w2 ⟨rfl,hb2⟩
 have hq2:=hq2.below hb2 hq2.lt
 have hq3:=hq3.below hb2 hq3.lt
 have hq6:=hq6.below hb2 hq6.lt
 have hown:=own_below hown hb2
 have hB:=hB.trans (hb2.mono hB.size)
 clear hb2 CW
 have hc7:=hq6.cell 7
 simp only[ga,gz,gN] at hc7
 rw[HC.out.1]
 rcases HC.out.2 with⟨hp,htc⟩|⟨hp,htc⟩
 case' inl=>
  have HT:Hid (whyT l=0):=by show _=_;unfold whyT;rw[if_neg (fun h=>h HY.out.1),if_neg (by rw[HC.out.1];decide),if_pos hp,if_pos htc]
  have HLEN:Hid (8≤(bodyP l).length):=by have:20≤(bodyP l).length:=(of_decide_eq_true htc).1;show _≤_;omega
  have hb6:((y7:Int)==6)=true:=by have:=HY.out.2.2;simp;omega
  have CT:=jH (tcp_any A1 m c1 w2.heap.size (bodyP l) w2 (Reads.of_own hown) hbl HBA.out)
  rw[htc] at CT
  clear hp htc
  go_wp2_with fail
  refine CT.out.mono ?_
  rintro e w' ⟨rfl,rfl⟩
  clear CT
 case' inr=>
  have HT:Hid (whyT l=0):=by show _=_;unfold whyT;rw[if_neg (fun h=>h HY.out.1),if_neg (by rw[HC.out.1];decide),if_neg (by omega),if_pos hp,if_pos htc]
  have HLEN:Hid (8≤(bodyP l).length):=(of_decide_eq_true htc).1
  have hb6:((y7:Int)==6)=false:=by have:=HY.out.2.2;simp;omega
  have hb17:((y7:Int)==17)=true:=by have:=HY.out.2.2;simp;omega
  have CT:=jH (udp_any A1 m c1 w2.heap.size (bodyP l) w2 (Reads.of_own hown) (nR _) hbl (own_cap hown) HBA.out)
  rw[htc] at CT
  clear hp htc
  go_wp2_with fail
  refine CT.out.mono ?_
  rintro e w3 ⟨rfl,hb3⟩
  have hq2:=hq2.below hb3 hq2.lt
  have hq3:=hq3.below hb3 hq3.lt
  have hq6:=hq6.below hb3 hq6.lt
  have hown:=own_below hown hb3
  have hB:=hB.trans (hb3.mono hB.size)
  clear hb3 CT hc7
  obtain⟨w2,hww⟩:∃w,w=w3:=⟨_,rfl⟩
  subst hww
  have hc7:=hq6.cell 7
  simp only[ga,gz,gN] at hc7
 all_goals
  obtain⟨g,hA1,hg1,hg2⟩:=own_head hown (by have:=HLEN.out;have:=(Reads.of_own hown).length;omega)
  have CN:=jH (newreader_any A1 m c1 w2.heap.size (bodyP l) w2 (Reads.of_own hown) (nR _) hbl (fun h=>by rw[h] at hA1;cases hA1))
  have hlm:=(Reads.of_own hown).length
  have HL:=jH (aI hlm HLEN.out)
  have CU:=jH (fun p j w' (hj:j + 2≤(bodyP l).length)=>u16r_at p j (bodyP l) w' hj (by omega) HBA.out)
  clear hA1 hg1 hg2 hlm HLEN HBA
  go_wp2_with fail
  refine CN.out.mono ?_
  rintro e w3 ⟨p,rfl,hpp,hrb,hb3⟩
  clear CN
  obtain⟨-,-,-,-,-,-,-,-,-,hc9,hc10⟩:=(hq6.below hb3 hq6.lt).c11
  have hc7:=(hq6.below hb3 hq6.lt).cell 7
  simp only[ga,gz,gN] at hc7
  go_wp2_with fail
  obtain⟨qt,hqt⟩:∃qt,qt=w3.heap.size:=⟨_,rfl⟩
  have hpt:p < qt:=by rw[hqt];exact hrb.lt
  have hT:=Blk.new w3 39 #[X Z y9,X Z y10,X Y y7,X Y 0,X Y 0]
  have hbb:Below w2.heap.size w2 (w3.alloc (cL #[X Z y9,X Z y10,X Y y7,X Y 0,X Y 0] 39)):=hb3.alloc hb3.size _
  have hrb0:RBuf (w3.alloc (cL #[X Z y9,X Z y10,X Y y7,X Y 0,X Y 0] 39)) p ((bodyP l).drop 0):=hrb.below ((bR _ _).alloc (nR _) _)
  have hqs:w2.heap.size≤qt:=by rw[hqt];exact hb3.size
  rw[←hqt] at hT⊢
  have HQT:=jH hqt
  obtain⟨w4,hw4⟩:∃w4,w4=w3.alloc (cL #[X Z y9,X Z y10,X Y y7,X Y 0,X Y 0] 39):=⟨_,rfl⟩
  rw[←hw4] at hT hbb hrb0⊢
  clear hqt hrb hb3 hw4
  refine(CU.out p 0 w4 (by have:=HL.out;omega) hrb0).mono ?_
  rintro e w5 ⟨rfl,hrb2,hg⟩
  rw[←HS.out.1]
  have hT:=hT.grown hg (by intro h;cases h;omega)
  have hbb:=hbb.grown hg hbb.size (fun k hk=>by cases hk;exact hpp)
  have tf3:=hT.frozen 3
  have tc3:=hT.cell 3
  have tf4:=hT.frozen 4
  have tc4:=hT.cell 4
  simp only[ga,gz,gN] at tc3 tc4
  clear hg hrb0
  go_wp2_with fail
  have hT5:=hT.set_ 3 (X Y s0)
  simp only[List.setIfInBounds_toArray,List.set_cons_zero,List.set_cons_succ] at hT5
  have hb56:Below qt w5 (w5.setCell ⟨qt,3,none⟩ (X Y s0)):=(bR _ _).setCell (p:=⟨qt,3,none⟩) (nR _) _
  have hrb2:=hrb2.behind hb56 hpt
  have hbb:=hbb.trans (hb56.mono hqs)
  clear hT hb56 tf3 tc3 tf4 tc4
  obtain⟨w6,hw6⟩:∃w6,w6=w5.setCell ⟨qt,3,none⟩ (X Y s0):=⟨_,rfl⟩
  rw[←hw6] at hT5 hrb2 hbb⊢
  clear hw6
  refine(CU.out p 2 w6 (by have:=HL.out;omega) hrb2).mono ?_
  rintro e w7 ⟨rfl,hrb4,hg⟩
  rw[←HS.out.2]
  have hT:=hT5.grown hg (by intro h;cases h;omega)
  have hbb:=hbb.grown hg hbb.size (fun k hk=>by cases hk;exact hpp)
  have tf4:=hT.frozen 4
  have tc4:=hT.cell 4
  simp only[ga,gz,gN] at tc4
  clear hg hrb2 hrb4
  go_wp2_with fail
  have hT8:=hT.set_ 4 (X Y s2)
  simp only[List.setIfInBounds_toArray,List.set_cons_zero,List.set_cons_succ] at hT8
  have hb78:Below qt w7 (w7.setCell ⟨qt,4,none⟩ (X Y s2)):=(bR _ _).setCell (p:=⟨qt,4,none⟩) (nR _) _
  have hbb:=hbb.trans (hb78.mono hqs)
  obtain⟨w8,hw8⟩:∃w8,w8=w7.setCell ⟨qt,4,none⟩ (X Y s2):=⟨_,rfl⟩
  rw[←hw8] at hT8 hbb⊢
  clear hw8 hb78 hT tf4 tc4 CU hpp hpt HQT
  have n2:=hq2.lt
  have n3:=hq3.lt
  have n6:=hq6.lt
  have hq2:=hq2.below hbb hq2.lt
  have hq3:=hq3.below hbb hq3.lt
  have hq6':=hq6.below hbb hq6.lt
  have hown:=own_lower (own_below hown hbb) HBASE.out
  clear HBASE
  have hB:=hB.trans (hbb.mono hB.size)
  obtain⟨q6,hq6e⟩:∃q6,q6=w1.heap.size:=⟨_,rfl⟩
  rw[←hq6e] at hq6' n6⊢
  have e1:¬q6=q:=by rw[hq6e];have:=HQ6.out.1;omega
  have e2:¬q6=q + 1:=by rw[hq6e];have:=HQ6.out.2;omega
  have e3:¬qt=q:=by omega
  have e4:¬qt=q + 1:=by omega
  have e5:¬q=q6:=fun h=>e1 h.symm
  have e6:¬q + 1=q6:=fun h=>e2 h.symm
  have e7:¬q=qt:=fun h=>e3 h.symm
  have e8:¬q + 1=qt:=fun h=>e4 h.symm
  clear hq6 hq6e hbb n2 n3 n6 hqs HQ6
  obtain⟨u0,u1,u2,u3,u4⟩:=hT8.c5
  obtain⟨v0,v1,v2,v3,v4,v5,v6,v7,v8,v9,v10⟩:=hq6'.c11
  obtain⟨ff0,ff1,ff2,ff3,ff4⟩:=hq2.f5
  obtain⟨gg0,gg1,gg2,gg3,gg4,gg5,gg6,gg7,gg8,gg9,gg10⟩:=hq3.f11
  obtain⟨fc0,fc1,fc2,fc3,fc4⟩:=hq2.c5
  obtain⟨gc0,gc1,gc2,gc3,gc4,gc5,gc6,gc7,gc8,gc9,gc10⟩:=hq3.c11
  go_region
  go_wp2_with fail
  have O0:=hown
  have KA0:=hq2
  have KB0:=hq3
  have O1:=own_set_far O0 KA0 (by decide) 0 (X Z y9)
  have KA1:=KA0.set_ 0 (X Z y9)
  have KB1:=KB0.far (p:=⟨q,0,none⟩) (by show q + 1≠q;omega) (X Z y9)
  clear O0
  have O2:=own_set_far O1 KA1 (by decide) 1 (X Z y10)
  have KA2:=KA1.set_ 1 (X Z y10)
  have KB2:=KB1.far (p:=⟨q,1,none⟩) (by show q + 1≠q;omega) (X Z y10)
  clear O1
  have O3:=own_set_far O2 KA2 (by decide) 2 (X Y y7)
  have KA3:=KA2.set_ 2 (X Y y7)
  have KB3:=KB2.far (p:=⟨q,2,none⟩) (by show q + 1≠q;omega) (X Y y7)
  clear O2
  have O4:=own_set_far O3 KA3 (by decide) 3 (X Y s0)
  have KA4:=KA3.set_ 3 (X Y s0)
  have KB4:=KB3.far (p:=⟨q,3,none⟩) (by show q + 1≠q;omega) (X Y s0)
  clear O3
  have O5:=own_set_far O4 KA4 (by decide) 4 (X Y s2)
  have KA5:=KA4.set_ 4 (X Y s2)
  have KB5:=KB4.far (p:=⟨q,4,none⟩) (by show q + 1≠q;omega) (X Y s2)
  clear O4
  have O6:=own_set_far O5 KB5 (by decide) 0 (X Y y0)
  have KB6:=KB5.set_ 0 (X Y y0)
  clear O5
  have O7:=own_set_far O6 KB6 (by decide) 1 (X Y y1)
  have KB7:=KB6.set_ 1 (X Y y1)
  clear O6
  have O8:=own_set_far O7 KB7 (by decide) 2 (X Y y2)
  have KB8:=KB7.set_ 2 (X Y y2)
  clear O7
  have O9:=own_set_far O8 KB8 (by decide) 3 (X Y y3)
  have KB9:=KB8.set_ 3 (X Y y3)
  clear O8
  have O10:=own_set_far O9 KB9 (by decide) 4 (X Y f)
  have KB10:=KB9.set_ 4 (X Y f)
  clear O9
  have O11:=own_set_far O10 KB10 (by decide) 5 (X Y o)
  have KB11:=KB10.set_ 5 (X Y o)
  clear O10
  have O12:=own_set_far O11 KB11 (by decide) 6 (X Y y6)
  have KB12:=KB11.set_ 6 (X Y y6)
  clear O11
  have O13:=own_set_far O12 KB12 (by decide) 7 (X Y y7)
  have KB13:=KB12.set_ 7 (X Y y7)
  clear O12
  have O14:=own_set_far O13 KB13 (by decide) 8 (X Y y8)
  have KB14:=KB13.set_ 8 (X Y y8)
  clear O13
  have O15:=own_set_far O14 KB14 (by decide) 9 (X Z y9)
  have KB15:=KB14.set_ 9 (X Z y9)
  clear O14
  have O16:=own_set_far O15 KB15 (by decide) 10 (X Z y10)
  have KB16:=KB15.set_ 10 (X Z y10)
  clear O15
  obtain⟨wz,hwz⟩:∃wz,wz=(((((((((((((((((w8).setCell ⟨q,0,none⟩ (X Z y9)).setCell ⟨q,1,none⟩ (X Z y10)).setCell ⟨q,2,none⟩ (X Y y7)).setCell ⟨q,3,none⟩ (X Y s0)).setCell ⟨q,4,none⟩ (X Y s2)).setCell ⟨q + 1,0,none⟩ (X Y y0)).setCell ⟨q + 1,1,none⟩ (X Y y1)).setCell ⟨q + 1,2,none⟩ (X Y y2)).setCell ⟨q + 1,3,none⟩ (X Y y3)).setCell ⟨q + 1,4,none⟩ (X Y f)).setCell ⟨q + 1,5,none⟩ (X Y o)).setCell ⟨q + 1,6,none⟩ (X Y y6)).setCell ⟨q + 1,7,none⟩ (X Y y7)).setCell ⟨q + 1,8,none⟩ (X Y y8)).setCell ⟨q + 1,9,none⟩ (X Z y9)).setCell ⟨q + 1,10,none⟩ (X Z y10)).drew:=⟨_,rfl⟩
  have hz2:Blk wz q 39 #[X Z y9,X Z y10,X Y y7,X Y s0,X Y s2]:=by
   rw[hwz]
   have hset:=((((((((((((((((hq2).set_ 0 (X Z y9)).set_ 1 (X Z y10)).set_ 2 (X Y y7)).set_ 3 (X Y s0)).set_ 4 (X Y s2)).far (p:=⟨q + 1,0,none⟩) (by show q≠q + 1;omega) (X Y y0)).far (p:=⟨q + 1,1,none⟩) (by show q≠q + 1;omega) (X Y y1)).far (p:=⟨q + 1,2,none⟩) (by show q≠q + 1;omega) (X Y y2)).far (p:=⟨q + 1,3,none⟩) (by show q≠q + 1;omega) (X Y y3)).far (p:=⟨q + 1,4,none⟩) (by show q≠q + 1;omega) (X Y f)).far (p:=⟨q + 1,5,none⟩) (by show q≠q + 1;omega) (X Y o)).far (p:=⟨q + 1,6,none⟩) (by show q≠q + 1;omega) (X Y y6)).far (p:=⟨q + 1,7,none⟩) (by show q≠q + 1;omega) (X Y y7)).far (p:=⟨q + 1,8,none⟩) (by show q≠q + 1;omega) (X Y y8)).far (p:=⟨q + 1,9,none⟩) (by show q≠q + 1;omega) (X Z y9)).far (p:=⟨q + 1,10,none⟩) (by show q≠q + 1;omega) (X Z y10)
   simp only[List.setIfInBounds_toArray,List.set_cons_zero,List.set_cons_succ] at hset
   exact hset.drew
  have hz3:Blk wz (q + 1) 132 #[X Y y0,X Y y1,X Y y2,X Y y3,X Y f,X Y o,X Y y6,X Y y7,X Y y8,X Z y9,X Z y10]:=by
   rw[hwz]
   have hset:=((((((((((((((((hq3).far (p:=⟨q,0,none⟩) (by show q + 1≠q;omega) (X Z y9)).far (p:=⟨q,1,none⟩) (by show q + 1≠q;omega) (X Z y10)).far (p:=⟨q,2,none⟩) (by show q + 1≠q;omega) (X Y y7)).far (p:=⟨q,3,none⟩) (by show q + 1≠q;omega) (X Y s0)).far (p:=⟨q,4,none⟩) (by show q + 1≠q;omega) (X Y s2)).set_ 0 (X Y y0)).set_ 1 (X Y y1)).set_ 2 (X Y y2)).set_ 3 (X Y y3)).set_ 4 (X Y f)).set_ 5 (X Y o)).set_ 6 (X Y y6)).set_ 7 (X Y y7)).set_ 8 (X Y y8)).set_ 9 (X Z y9)).set_ 10 (X Z y10)
   simp only[List.setIfInBounds_toArray,List.set_cons_zero,List.set_cons_succ] at hset
   exact hset.drew
  have hBz:Below w.heap.size w wz:=by
   rw[hwz]
   exact(((((((((((((((((hB).setCell (p:=⟨q,0,none⟩) (by rw[HQ.out];exact nR _) _).setCell (p:=⟨q,1,none⟩) (by rw[HQ.out];exact nR _) _).setCell (p:=⟨q,2,none⟩) (by rw[HQ.out];exact nR _) _).setCell (p:=⟨q,3,none⟩) (by rw[HQ.out];exact nR _) _).setCell (p:=⟨q,4,none⟩) (by rw[HQ.out];exact nR _) _).setCell (p:=⟨q + 1,0,none⟩) (by rw[HQ.out];exact nS _) _).setCell (p:=⟨q + 1,1,none⟩) (by rw[HQ.out];exact nS _) _).setCell (p:=⟨q + 1,2,none⟩) (by rw[HQ.out];exact nS _) _).setCell (p:=⟨q + 1,3,none⟩) (by rw[HQ.out];exact nS _) _).setCell (p:=⟨q + 1,4,none⟩) (by rw[HQ.out];exact nS _) _).setCell (p:=⟨q + 1,5,none⟩) (by rw[HQ.out];exact nS _) _).setCell (p:=⟨q + 1,6,none⟩) (by rw[HQ.out];exact nS _) _).setCell (p:=⟨q + 1,7,none⟩) (by rw[HQ.out];exact nS _) _).setCell (p:=⟨q + 1,8,none⟩) (by rw[HQ.out];exact nS _) _).setCell (p:=⟨q + 1,9,none⟩) (by rw[HQ.out];exact nS _) _).setCell (p:=⟨q + 1,10,none⟩) (by rw[HQ.out];exact nS _) _).drew
  have hownz:wz.ownsRow w.heap.size 5 1 (G A1 m c1) m (bv (bodyP l)):=by
   rw[hwz]
   exact own_drew O16
  rw[←hwz]
  clear hwz
  obtain⟨ra0,ra1,ra2,ra3,ra4⟩:=hz2.c5
  obtain⟨rb0,rb1,rb2,rb3,rb4,rb5,rb6,rb7,rb8,rb9,rb10⟩:=hz3.c11
  exact bodyPost_ret (v:=tU #[aG #[X Z y9,X Z y10,X Y y7,X Y s0,X Y s2],aG #[X Y y0,X Y y1,X Y y2,X Y y3,X Y f,X Y o,X Y y6,X Y y7,X Y y8,X Z y9,X Z y10],G A1 m c1,X Y 0]) (by simp[results,results203,go_sem,ra0,ra1,ra2,ra3,ra4,rb0,rb1,rb2,rb3,rb4,rb5,rb6,rb7,rb8,rb9,rb10]) rfl ⟨by
   left
   refine⟨HT.out,A1,c1,?_,?_⟩
   ·rw[HTU.out,HY.out.2.1,←HM.out]
   ·rw[←HM.out];exact hownz,hBz⟩
theorem within_any (A:Option Addr)(n c B:Nat)(l:List Nat)(w:World)(hr:Reads w B 1 A n (bv l))(hB0:B≤w.heap.size)(hn:n≤140737488355328)(hnc:n≤c)(ha:AllB l):
  Calls Pg 203 #[G A n c] w fun e w'=>WithinRet l w e w'∧Below w.heap.size w w':=by
 by_cases hy:whyP l=0
 ·cases hwh:wholeL l with
  |false=>exact within_no A n c B l w hr hB0 hn hnc ha hy (.inl hwh)
  |true=>
   by_cases h6:at' l 9=6
   ·cases htc:tcpB (bodyP l) with
    |false=>exact within_no A n c B l w hr hB0 hn hnc ha hy (.inr ⟨hwh,.inr (.inl ⟨h6,htc⟩)⟩)
    |true=>exact within_yes A n c B l w hr hB0 hn hnc ha hy ⟨hwh,.inl ⟨h6,htc⟩⟩
   ·by_cases h17:at' l 9=17
    ·cases htc:udpB (bodyP l) with
     |false=>exact within_no A n c B l w hr hB0 hn hnc ha hy (.inr ⟨hwh,.inr (.inr ⟨h17,htc⟩)⟩)
     |true=>exact within_yes A n c B l w hr hB0 hn hnc ha hy ⟨hwh,.inr ⟨h17,htc⟩⟩
    ·exact within_no A n c B l w hr hB0 hn hnc ha hy (.inr ⟨hwh,.inl ⟨h6,h17⟩⟩)
 ·exact within_no1 A n c B l w hr hB0 hn hnc ha hy
def tuT (l:List Nat):Tu:=if whyT l=0 then tuP l else tu0
def hdT (l:List Nat):Hd:=if whyT l=0 then hdP l else hd0
theorem WithinRet.names {l:List Nat}{w w':World}{e:Ending}(h:WithinRet l w e w'):
  ∃(t0 t1:Nat) (t2 t3 t4 y0 y1 y2 y3 y4 y5 y6 y7 y8:Int) (y9 y10:Nat) (A:Option Addr) (m c:Nat),
   e=rT (tU #[aG #[X Z t0,X Z t1,X Y t2,X Y t3,X Y t4],aG #[X Y y0,X Y y1,X Y y2,X Y y3,X Y y4,X Y y5,X Y y6,X Y y7,X Y y8,X Z y9,X Z y10],G A m c,X Y (whyT l:Nat)])∧(tuT l).vals=#[X Z t0,X Z t1,X Y t2,X Y t3,X Y t4]∧(hdT l).vals=#[X Y y0,X Y y1,X Y y2,X Y y3,X Y y4,X Y y5,X Y y6,X Y y7,X Y y8,X Z y9,X Z y10]∧
   (whyT l=0→m=lenP l - 4 * ihlP l∧w'.ownsRow w.heap.size 5 1 (G A m c) m (bv (bodyP l))):=by
 rcases h with⟨h0,A,c,rfl,ho⟩|⟨h0,rfl⟩
 ·have hT:tuT l=tuP l:=if_pos h0
  have hH:hdT l=hdP l:=if_pos h0
  refine⟨(tuT l).src,(tuT l).dst,(tuT l).proto,(tuT l).sport,(tuT l).dport,(hdT l).ihl,(hdT l).tos,(hdT l).len,(hdT l).id,(hdT l).flags,(hdT l).off,(hdT l).ttl,(hdT l).proto,(hdT l).sum,(hdT l).src,(hdT l).dst,A,lenP l - 4 * ihlP l,c,?_,rfl,rfl,fun _=>⟨rfl,ho⟩⟩
  rw[h0,←hT,←hH]
  rfl
 ·have hT:tuT l=tu0:=if_neg h0
  have hH:hdT l=hd0:=if_neg h0
  refine⟨(tuT l).src,(tuT l).dst,(tuT l).proto,(tuT l).sport,(tuT l).dport,(hdT l).ihl,(hdT l).tos,(hdT l).len,(hdT l).id,(hdT l).flags,(hdT l).off,(hdT l).ttl,(hdT l).proto,(hdT l).sum,(hdT l).src,(hdT l).dst,none,0,0,?_,rfl,rfl,fun h=>absurd h h0⟩
  rw[←hT,←hH]
  rfl
theorem ptuple_any (A:Option Addr)(n c B:Nat)(l:List Nat)(w:World)(hr:Reads w B 1 A n (bv l))(hB0:B≤w.heap.size)(hn:n≤140737488355328)(hnc:n≤c)(ha:AllB l):
  Calls Pg 102 #[G A n c] w fun e w'=>e=rT (tU #[.agg (tuT l).vals,.agg (hdT l).vals,X Y (whyT l:Nat)])∧Below w.heap.size w w':=by
 have CP:=jH (fun w' (hb:Below w.heap.size w w')=>within_any A n c w'.heap.size l w' ((hr.below (hb.mono hB0)).more (nT hB0 hb.size)) (nR _) hn hnc ha)
 obtain⟨r,hrr⟩:∃r,r=whyT l:=⟨_,rfl⟩
 have HRR:=jH hrr
 clear hr hrr
 go_enter func102,ntmps102
 go_wp2_with fail
 have hq2:=(Blk.new w 39 #[X Z 0,X Z 0,X Y 0,X Y 0,X Y 0]).alloc (cL #[X Y 0,X Y 0,X Y 0,X Y 0,X Y 0,X Y 0,X Y 0,X Y 0,X Y 0,X Z 0,X Z 0] 132)
 have hq3:Blk ((w.alloc (cL #[X Z 0,X Z 0,X Y 0,X Y 0,X Y 0] 39)).alloc (cL #[X Y 0,X Y 0,X Y 0,X Y 0,X Y 0,X Y 0,X Y 0,X Y 0,X Y 0,X Z 0,X Z 0] 132)) (w.heap.size + 1) 132 #[X Y 0,X Y 0,X Y 0,X Y 0,X Y 0,X Y 0,X Y 0,X Y 0,X Y 0,X Z 0,X Z 0]:=Blk.new_ (by simp)
 have hB:=((bR w.heap.size w).alloc (nR _) (cL #[X Z 0,X Z 0,X Y 0,X Y 0,X Y 0] 39)).alloc (by simp) (cL #[X Y 0,X Y 0,X Y 0,X Y 0,X Y 0,X Y 0,X Y 0,X Y 0,X Y 0,X Z 0,X Z 0] 132)
 refine(CP.out _ hB).mono ?_
 rintro e w1 ⟨hret,hb1⟩
 obtain⟨t0,t1,t2,t3,t4,y0,y1,y2,y3,y4,y5,y6,y7,y8,y9,y10,A1,m,c1,rfl,htu,hhd,_⟩:=hret.names
 rw[←HRR.out]
 have HX:=jH (aI htu hhd)
 have n2:=hq2.lt
 have n3:=hq3.lt
 have hs1:=hb1.size
 have hq2:=(hq2.below hb1 hq2.lt)
 have hq3:=(hq3.below hb1 hq3.lt)
 have hB:=hB.trans (hb1.mono hB.size)
 clear hret hb1 CP htu hhd
 obtain⟨q,hq⟩:∃q,q=w.heap.size:=⟨_,rfl⟩
 rw[←hq] at hq2 hq3 n2 n3⊢
 have HQ:=jH hq
 clear hq
 have hq5:=(Blk.new w1 39 #[X Z t0,X Z t1,X Y t2,X Y t3,X Y t4]).alloc (cL #[X Y y0,X Y y1,X Y y2,X Y y3,X Y y4,X Y y5,X Y y6,X Y y7,X Y y8,X Z y9,X Z y10] 132)
 have hq6:Blk ((w1.alloc (cL #[X Z t0,X Z t1,X Y t2,X Y t3,X Y t4] 39)).alloc (cL #[X Y y0,X Y y1,X Y y2,X Y y3,X Y y4,X Y y5,X Y y6,X Y y7,X Y y8,X Z y9,X Z y10] 132)) (w1.heap.size + 1) 132 #[X Y y0,X Y y1,X Y y2,X Y y3,X Y y4,X Y y5,X Y y6,X Y y7,X Y y8,X Z y9,X Z y10]:=Blk.new_ (by simp)
 have hB:=(hB.alloc hB.size (cL #[X Z t0,X Z t1,X Y t2,X Y t3,X Y t4] 39)).alloc (by have:=hB.size;simp;omega) (cL #[X Y y0,X Y y1,X Y y2,X Y y3,X Y y4,X Y y5,X Y y6,X Y y7,X Y y8,X Z y9,X Z y10] 132)
 have hq2:=(hq2.alloc (cL #[X Z t0,X Z t1,X Y t2,X Y t3,X Y t4] 39)).alloc (cL #[X Y y0,X Y y1,X Y y2,X Y y3,X Y y4,X Y y5,X Y y6,X Y y7,X Y y8,X Z y9,X Z y10] 132)
 have hq3:=(hq3.alloc (cL #[X Z t0,X Z t1,X Y t2,X Y t3,X Y t4] 39)).alloc (cL #[X Y y0,X Y y1,X Y y2,X Y y3,X Y y4,X Y y5,X Y y6,X Y y7,X Y y8,X Z y9,X Z y10] 132)
 go_wp2_with fail
 obtain⟨w8,hw8⟩:∃w8,w8=(w1.alloc (cL #[X Z t0,X Z t1,X Y t2,X Y t3,X Y t4] 39)).alloc (cL #[X Y y0,X Y y1,X Y y2,X Y y3,X Y y4,X Y y5,X Y y6,X Y y7,X Y y8,X Z y9,X Z y10] 132):=⟨_,rfl⟩
 rw[←hw8] at hq2 hq3 hq5 hq6 hB⊢
 clear hw8
 obtain⟨q5,hq5e⟩:∃q5,q5=w1.heap.size:=⟨_,rfl⟩
 have m1:q + 1 < q5:=by rw[hq5e];omega
 rw[←hq5e] at hq5 hq6⊢
 have e1:¬q5=q:=by omega
 have e2:¬q5=q + 1:=by omega
 have e5:¬q=q5:=by omega
 have e6:¬q + 1=q5:=by omega
 have e3:¬q5 + 1=q:=by omega
 have e7:¬q=q5 + 1:=by omega
 clear hq5e m1 n2 n3 hs1
 obtain⟨u0,u1,u2,u3,u4⟩:=hq5.c5
 obtain⟨v0,v1,v2,v3,v4,v5,v6,v7,v8,v9,v10⟩:=hq6.c11
 obtain⟨ff0,ff1,ff2,ff3,ff4⟩:=hq2.f5
 obtain⟨gg0,gg1,gg2,gg3,gg4,gg5,gg6,gg7,gg8,gg9,gg10⟩:=hq3.f11
 obtain⟨fc0,fc1,fc2,fc3,fc4⟩:=hq2.c5
 obtain⟨gc0,gc1,gc2,gc3,gc4,gc5,gc6,gc7,gc8,gc9,gc10⟩:=hq3.c11
 go_region
 go_wp2_with fail
 obtain⟨wz,hwz⟩:∃wz,wz=(((((((((((((((((w8).setCell ⟨q,0,none⟩ (X Z t0)).setCell ⟨q,1,none⟩ (X Z t1)).setCell ⟨q,2,none⟩ (X Y t2)).setCell ⟨q,3,none⟩ (X Y t3)).setCell ⟨q,4,none⟩ (X Y t4)).setCell ⟨q + 1,0,none⟩ (X Y y0)).setCell ⟨q + 1,1,none⟩ (X Y y1)).setCell ⟨q + 1,2,none⟩ (X Y y2)).setCell ⟨q + 1,3,none⟩ (X Y y3)).setCell ⟨q + 1,4,none⟩ (X Y y4)).setCell ⟨q + 1,5,none⟩ (X Y y5)).setCell ⟨q + 1,6,none⟩ (X Y y6)).setCell ⟨q + 1,7,none⟩ (X Y y7)).setCell ⟨q + 1,8,none⟩ (X Y y8)).setCell ⟨q + 1,9,none⟩ (X Z y9)).setCell ⟨q + 1,10,none⟩ (X Z y10)).drew:=⟨_,rfl⟩
 have hz2:Blk wz q 39 #[X Z t0,X Z t1,X Y t2,X Y t3,X Y t4]:=by
  rw[hwz]
  have hset:=((((((((((((((((hq2).set_ 0 (X Z t0)).set_ 1 (X Z t1)).set_ 2 (X Y t2)).set_ 3 (X Y t3)).set_ 4 (X Y t4)).far (p:=⟨q + 1,0,none⟩) (by show q≠q + 1;omega) (X Y y0)).far (p:=⟨q + 1,1,none⟩) (by show q≠q + 1;omega) (X Y y1)).far (p:=⟨q + 1,2,none⟩) (by show q≠q + 1;omega) (X Y y2)).far (p:=⟨q + 1,3,none⟩) (by show q≠q + 1;omega) (X Y y3)).far (p:=⟨q + 1,4,none⟩) (by show q≠q + 1;omega) (X Y y4)).far (p:=⟨q + 1,5,none⟩) (by show q≠q + 1;omega) (X Y y5)).far (p:=⟨q + 1,6,none⟩) (by show q≠q + 1;omega) (X Y y6)).far (p:=⟨q + 1,7,none⟩) (by show q≠q + 1;omega) (X Y y7)).far (p:=⟨q + 1,8,none⟩) (by show q≠q + 1;omega) (X Y y8)).far (p:=⟨q + 1,9,none⟩) (by show q≠q + 1;omega) (X Z y9)).far (p:=⟨q + 1,10,none⟩) (by show q≠q + 1;omega) (X Z y10)
  simp only[List.setIfInBounds_toArray,List.set_cons_zero,List.set_cons_succ] at hset
  exact hset.drew
 have hz3:Blk wz (q + 1) 132 #[X Y y0,X Y y1,X Y y2,X Y y3,X Y y4,X Y y5,X Y y6,X Y y7,X Y y8,X Z y9,X Z y10]:=by
  rw[hwz]
  have hset:=((((((((((((((((hq3).far (p:=⟨q,0,none⟩) (by show q + 1≠q;omega) (X Z t0)).far (p:=⟨q,1,none⟩) (by show q + 1≠q;omega) (X Z t1)).far (p:=⟨q,2,none⟩) (by show q + 1≠q;omega) (X Y t2)).far (p:=⟨q,3,none⟩) (by show q + 1≠q;omega) (X Y t3)).far (p:=⟨q,4,none⟩) (by show q + 1≠q;omega) (X Y t4)).set_ 0 (X Y y0)).set_ 1 (X Y y1)).set_ 2 (X Y y2)).set_ 3 (X Y y3)).set_ 4 (X Y y4)).set_ 5 (X Y y5)).set_ 6 (X Y y6)).set_ 7 (X Y y7)).set_ 8 (X Y y8)).set_ 9 (X Z y9)).set_ 10 (X Z y10)
  simp only[List.setIfInBounds_toArray,List.set_cons_zero,List.set_cons_succ] at hset
  exact hset.drew
 have hBz:Below w.heap.size w wz:=by
  rw[hwz]
  exact(((((((((((((((((hB).setCell (p:=⟨q,0,none⟩) (by rw[HQ.out];exact nR _) _).setCell (p:=⟨q,1,none⟩) (by rw[HQ.out];exact nR _) _).setCell (p:=⟨q,2,none⟩) (by rw[HQ.out];exact nR _) _).setCell (p:=⟨q,3,none⟩) (by rw[HQ.out];exact nR _) _).setCell (p:=⟨q,4,none⟩) (by rw[HQ.out];exact nR _) _).setCell (p:=⟨q + 1,0,none⟩) (by rw[HQ.out];exact nS _) _).setCell (p:=⟨q + 1,1,none⟩) (by rw[HQ.out];exact nS _) _).setCell (p:=⟨q + 1,2,none⟩) (by rw[HQ.out];exact nS _) _).setCell (p:=⟨q + 1,3,none⟩) (by rw[HQ.out];exact nS _) _).setCell (p:=⟨q + 1,4,none⟩) (by rw[HQ.out];exact nS _) _).setCell (p:=⟨q + 1,5,none⟩) (by rw[HQ.out];exact nS _) _).setCell (p:=⟨q + 1,6,none⟩) (by rw[HQ.out];exact nS _) _).setCell (p:=⟨q + 1,7,none⟩) (by rw[HQ.out];exact nS _) _).setCell (p:=⟨q + 1,8,none⟩) (by rw[HQ.out];exact nS _) _).setCell (p:=⟨q + 1,9,none⟩) (by rw[HQ.out];exact nS _) _).setCell (p:=⟨q + 1,10,none⟩) (by rw[HQ.out];exact nS _) _).drew
 rw[←hwz]
 clear hwz
 obtain⟨ra0,ra1,ra2,ra3,ra4⟩:=hz2.c5
 obtain⟨rb0,rb1,rb2,rb3,rb4,rb5,rb6,rb7,rb8,rb9,rb10⟩:=hz3.c11
 exact bodyPost_ret (v:=tU #[aG #[X Z t0,X Z t1,X Y t2,X Y t3,X Y t4],aG #[X Y y0,X Y y1,X Y y2,X Y y3,X Y y4,X Y y5,X Y y6,X Y y7,X Y y8,X Z y9,X Z y10],X Y r]) (by simp[results,results102,go_sem,ra0,ra1,ra2,ra3,ra4,rb0,rb1,rb2,rb3,rb4,rb5,rb6,rb7,rb8,rb9,rb10]) rfl ⟨by rw[HX.out.1,HX.out.2,←HRR.out],hBz⟩
theorem build_flof (h:Hd)(r:List Nat):two' (buildB h++r) 6=flof h:=by
 rw[two_append (by rw[buildB_length];omega)]
 have hf:flof h < 65536:=by unfold flof;omega
 unfold buildB two' at';rw[headB_list]
 show flof h / 256 % 256 * 256 + flof h % 256=_
 omega
theorem build_ttl (h:Hd)(r:List Nat):at' (buildB h++r) 8=u64n h.ttl % 256:=by
 rw[at_append (by rw[buildB_length];omega)]
 unfold buildB at';rw[headB_list];rfl
theorem build_proto (h:Hd)(r:List Nat):at' (buildB h++r) 9=u64n h.proto % 256:=by
 rw[at_append (by rw[buildB_length];omega)]
 unfold buildB at';rw[headB_list];rfl
theorem build_src (h:Hd)(r:List Nat)(hs:h.src < 4294967296):four' (buildB h++r) 12=h.src:=by
 rw[four_append (by rw[buildB_length];omega)]
 unfold buildB four' two' at';rw[headB_list]
 show (h.src / 16777216 % 256 * 256 + h.src / 65536 % 256) * 65536 + (h.src / 256 % 256 * 256 + h.src % 256)=h.src
 omega
theorem build_dst (h:Hd)(r:List Nat)(hs:h.dst < 4294967296):four' (buildB h++r) 16=h.dst:=by
 rw[four_append (by rw[buildB_length];omega)]
 unfold buildB four' two' at';rw[headB_list]
 show (h.dst / 16777216 % 256 * 256 + h.dst / 65536 % 256) * 65536 + (h.dst / 256 % 256 * 256 + h.dst % 256)=h.dst
 omega
theorem whyT_build (h:Hd)(P:List Nat)(hL:u64n h.len % 65536=20 + P.length):
  whyT (buildB h++P)=if wholeN (flof h / 8192) (flof h % 8192)=false then 6 else if u64n h.proto % 256=6 then (if tcpB P=true then 0 else 9) else if u64n h.proto % 256=17 then (if udpB P=true then 0 else 9) else 8:=by
 have hw:whyP (buildB h++P)=0:=by rw[why_build h P (by omega),if_neg (by omega)]
 have hb:bodyP (buildB h++P)=P:=by rw[body_build h P P.length hL,List.take_length]
 unfold whyT wholeL
 rw[hw,hb,build_flof,build_proto,if_neg (by simp)]
theorem tuP_build (h:Hd)(P:List Nat)(hL:u64n h.len % 65536=20 + P.length)(hs:h.src < 4294967296)(hd:h.dst < 4294967296):
  tuP (buildB h++P)=⟨h.src,h.dst,(u64n h.proto % 256:Nat),(two' P 0:Nat),(two' P 2:Nat)⟩:=by
 have hb:bodyP (buildB h++P)=P:=by rw[body_build h P P.length hL,List.take_length]
 unfold tuP
 rw[hb,build_src h P hs,build_dst h P hd,build_proto]
theorem madeP_length (k:Tu)(flags:Int)(l:List Nat):(madeP k flags l).length=(if k.proto=6 then 20 else 8) + l.length:=by
 unfold madeP
 split
 ·simp[tcpHead,two8];omega
 ·simp[udpHead,two8];omega
theorem madeP_all (k:Tu)(flags:Int)(l:List Nat)(h:AllB l):AllB (madeP k flags l):=by
 unfold madeP
 split
 ·refine(((two8_all _).append (two8_all _)).append ?_).append h
  intro x hx
  simp at hx
  omega
 ·refine((((two8_all _).append (two8_all _)).append (two8_all _)).append ?_).append h
  intro x hx
  simp at hx
  omega
theorem madeB_length (k:Tu)(ttl flags:Int)(l:List Nat):(madeB k ttl flags l).length=20 + ((if k.proto=6 then 20 else 8) + l.length):=by
 unfold madeB
 rw[List.length_append,buildB_length,madeP_length]
theorem madeB_all (k:Tu)(ttl flags:Int)(l:List Nat)(h:AllB l):AllB (madeB k ttl flags l):=(buildB_all _).append (madeP_all k flags l h)
theorem madeHd_len (k:Tu)(ttl:Int)(L:Nat)(hL:L < 60000):u64n (madeHd k ttl L).len % 65536=20 + L:=by
 show u64n (20 + (L:Int)) % 65536=_
 unfold u64n;omega
theorem madeB_lenP (k:Tu)(ttl flags:Int)(l:List Nat)(h:l.length≤50000):lenP (madeB k ttl flags l)=(madeB k ttl flags l).length:=by
 have e:=madeP_length k flags l
 have hL:(madeP k flags l).length < 60000:=by rw[e];split<;>omega
 unfold madeB
 rw[build_len,madeHd_len k ttl _ hL,List.length_append,buildB_length]
theorem madeB_why (k:Tu)(ttl flags:Int)(l:List Nat)(h:l.length≤50000):whyP (madeB k ttl flags l)=0:=by
 have e:=madeP_length k flags l
 have hL:(madeP k flags l).length < 60000:=by rw[e];split<;>omega
 unfold madeB
 rw[why_build _ _ (by rw[madeHd_len k ttl _ hL];omega),madeHd_len k ttl _ hL,if_neg (by omega)]
theorem madeB_body (k:Tu)(ttl flags:Int)(l:List Nat)(h:l.length≤50000):bodyP (madeB k ttl flags l)=madeP k flags l:=by
 have e:=madeP_length k flags l
 have hL:(madeP k flags l).length < 60000:=by rw[e];split<;>omega
 unfold madeB
 rw[body_build _ _ _ (madeHd_len k ttl _ hL),List.take_length]
theorem madeB_ttl (k:Tu)(ttl flags:Int)(l:List Nat):at' (madeB k ttl flags l) 8=u64n ttl % 256:=by
 unfold madeB;rw[build_ttl];rfl
theorem tcp_made (k:Tu)(flags:Int)(l:List Nat):tcpB (tcpHead k flags++l)=true:=by
 unfold tcpB
 refine decide_eq_true ?_
 have hl:(tcpHead k flags++l).length=20 + l.length:=by simp[tcpHead,two8];omega
 have h12:at' (tcpHead k flags++l) 12=80:=rfl
 rw[hl,h12]
 omega
theorem udp_made (k:Tu)(l:List Nat)(h:l.length≤50000):udpB (udpHead k l.length++l)=true:=by
 unfold udpB
 refine decide_eq_true ?_
 have hl:(udpHead k l.length++l).length=8 + l.length:=by simp[udpHead,two8];omega
 have h4:two' (udpHead k l.length++l) 4=u64n (8 + (l.length:Int)) / 256 % 256 * 256 + u64n (8 + (l.length:Int)) % 256:=rfl
 have e:u64n (8 + (l.length:Int))=8 + l.length:=by unfold u64n;omega
 rw[hl,h4,e]
 omega
theorem two_sport (k:Tu)(flags:Int)(l:List Nat)(h:0≤k.sport∧k.sport≤65535):((two' (madeP k flags l) 0:Nat):Int)=k.sport:=by
 have e:two' (madeP k flags l) 0=u64n k.sport / 256 % 256 * 256 + u64n k.sport % 256:=by
  unfold madeP;split<;>rfl
 rw[e]
 have:u64n k.sport=k.sport.toNat:=by unfold u64n;omega
 rw[this];omega
theorem two_dport (k:Tu)(flags:Int)(l:List Nat)(h:0≤k.dport∧k.dport≤65535):((two' (madeP k flags l) 2:Nat):Int)=k.dport:=by
 have e:two' (madeP k flags l) 2=u64n k.dport / 256 % 256 * 256 + u64n k.dport % 256:=by
  unfold madeP;split<;>rfl
 rw[e]
 have:u64n k.dport=k.dport.toNat:=by unfold u64n;omega
 rw[this];omega
theorem mayTu_parts {k:Tu}(h:mayTu k=true):(k.proto=6∨k.proto=17)∧0≤k.sport∧k.sport≤65535∧0≤k.dport∧k.dport≤65535:=of_decide_eq_true h
theorem u64n_proto {k:Tu}(h:k.proto=6∨k.proto=17):((u64n k.proto % 256:Nat):Int)=k.proto:=by
 rcases h with h|h<;>rw[h]<;>decide +kernel
theorem flof_zero (h:Hd)(hf:h.flags=0)(ho:h.off=0):flof h=0:=by unfold flof;rw[hf,ho];rfl
theorem made_tells (k:Tu)(ttl flags:Int)(l:List Nat)(hk:TuOk k)(hm:mayTu k=true)(h:l.length≤50000):
  whyT (madeB k ttl flags l)=0∧tuP (madeB k ttl flags l)=k:=by
 obtain⟨hp,s0,s1,d0,d1⟩:=mayTu_parts hm
 have e:=madeP_length k flags l
 have hL:(madeP k flags l).length < 60000:=by rw[e];split<;>omega
 have hlen:=madeHd_len k ttl _ hL
 have hpr:=u64n_proto hp
 constructor
 ·unfold madeB
  rw[whyT_build _ _ hlen]
  have hw:wholeN (flof (madeHd k ttl (madeP k flags l).length) / 8192) (flof (madeHd k ttl (madeP k flags l).length) % 8192)=true:=by
   rw[flof_zero _ rfl rfl];rfl
  rw[hw,if_neg (by decide)]
  have epr:(madeHd k ttl (madeP k flags l).length).proto=k.proto:=rfl
  rw[epr]
  rcases hp with hp|hp
  ·rw[if_pos (by rw[hp];decide +kernel),show madeP k flags l=tcpHead k flags++l from if_pos hp,tcp_made,if_pos rfl]
  ·rw[if_neg (by rw[hp];decide +kernel),if_pos (by rw[hp];decide +kernel),show madeP k flags l=udpHead k l.length++l from if_neg (by rw[hp];decide),udp_made k l h,if_pos rfl]
 ·unfold madeB
  rw[tuP_build _ _ hlen hk.src hk.dst]
  show (⟨k.src,k.dst,((u64n k.proto % 256:Nat):Int),_,_⟩:Tu)=k
  rw[hpr,two_sport k flags l ⟨s0,s1⟩,two_dport k flags l ⟨d0,d1⟩]
theorem made_flags (k:Tu)(ttl flags:Int)(l:List Nat)(hp:k.proto=6)(h:l.length≤50000):at' (bodyP (madeB k ttl flags l)) 13=u64n flags % 256:=by
 rw[madeB_body k ttl flags l h,show madeP k flags l=tcpHead k flags++l from if_pos hp]
 rfl
theorem made_proto (k:Tu)(ttl flags:Int)(l:List Nat):at' (madeB k ttl flags l) 9=u64n k.proto % 256:=by
 unfold madeB;rw[build_proto];rfl
def endsL (k:Tu)(l:List Nat):Bool:=decide (whyT l=0∧k=tuP l∧at' l 9=6∧at' (bodyP l) 13&&& 5≠0)
theorem ends_made (k o:Tu)(ttl flags:Int)(l:List Nat)(hk:TuOk k)(hm:mayTu k=true)(h:l.length≤50000):
  endsL o (madeB k ttl flags l)=decide (o=k∧k.proto=6∧(u64n flags % 256)&&& 5≠0):=by
 obtain⟨hy,ht⟩:=made_tells k ttl flags l hk hm h
 have hp:=(mayTu_parts hm).1
 unfold endsL
 rw[decide_eq_decide,hy,ht,made_proto]
 by_cases h6:k.proto=6
 ·rw[made_flags k ttl flags l h6 h,h6]
  constructor
  ·rintro⟨_,h1,_,h2⟩;exact⟨h1,rfl,h2⟩
  ·rintro⟨h1,_,h2⟩;exact⟨rfl,h1,rfl,h2⟩
 ·constructor
  ·rintro⟨_,_,h1,_⟩
   have:=u64n_proto hp
   omega
  ·rintro⟨_,h1,_⟩;exact absurd h1 h6
theorem hdT_names (l:List Nat):∃(y0 y1 y2 y3 y4 y5 y6 y7 y8:Int) (y9 y10:Nat),(hdT l).vals=#[X Y y0,X Y y1,X Y y2,X Y y3,X Y y4,X Y y5,X Y y6,X Y y7,X Y y8,X Z y9,X Z y10]∧y2=(hdT l).len∧y6=(hdT l).ttl:=
 ⟨_,_,_,_,_,_,_,_,_,_,_,rfl,rfl,rfl⟩
theorem tuT_yes {l:List Nat}(h:whyT l=0):tuT l=tuP l:=if_pos h
theorem u8_and5 (x:Nat)(hx:x < 256):bits .and .u8 (x:Int) 5=((x&&& 5:Nat):Int):=
 (bits_nat .u8 8 (by decide) (fun n h0 h1=>by
  have e:(2:Int) ^ 8=256:=by decide
  rw[IntKind.wrap_u8]
  omega) x 5 (by omega) (by omega)).1
theorem whyT_tcp {l:List Nat}(h:whyT l=0)(h6:at' l 9=6):20≤(bodyP l).length:=by
 unfold whyT at h
 split at h
 ·omega
 ·split at h
  ·omega
  ·split at h
   ·rename_i ht
    exact(of_decide_eq_true ht:_∧_).1
   ·omega
theorem ends_any (k:Tu)(A:Option Addr)(n c B:Nat)(l:List Nat)(w:World)(hr:Reads w B 1 A n (bv l))(hB0:B≤w.heap.size)(hn:n≤140737488355328)(hnc:n≤c)(ha:AllB l):
  Calls Pg 109 #[.agg k.vals,G A n c] w fun e w'=>e=rT (bL (endsL k l))∧Below w.heap.size w w':=by
 have CP:=jH (fun w' (hb:Below w.heap.size w w')=>within_any A n c w'.heap.size l w' ((hr.below (hb.mono hB0)).more (nT hB0 hb.size)) (nR _) hn hnc ha)
 obtain⟨r,hrr⟩:∃r,r=whyT l:=⟨_,rfl⟩
 have HRR:=jH hrr
 obtain⟨src,dst,pr,sp,dp⟩:=k
 obtain⟨x,hx⟩:∃x,x=at' (bodyP l) 13:=⟨_,rfl⟩
 have hxl:x < 256:=by rw[hx];exact at_lt ((ha.take _).drop _) 13
 have hbx:=u8_and5 x hxl
 obtain⟨z,hz⟩:∃z,z=x&&& 5:=⟨_,rfl⟩
 rw[←hz] at hbx
 have HX:=jH hx
 have HB0:=jH hB0
 have HE:Hid (∀b,(b=true↔r=0∧src=(tuP l).src∧dst=(tuP l).dst∧pr=(tuP l).proto∧sp=(tuP l).sport∧dp=(tuP l).dport∧pr=6∧z≠0)→b=endsL ⟨src,dst,pr,sp,dp⟩ l):=by
  intro b hb
  rw[Bool.eq_iff_iff,hb]
  unfold endsL
  rw[decide_eq_true_eq,←hrr,←hx,←hz,Tu.mk.injEq]
  constructor
  ·rintro⟨a1,a2,a3,a4,a5,a6,a7,a8⟩
   exact⟨a1,⟨a2,a3,a4,a5,a6⟩,by have:(tuP l).proto=((at' l 9:Nat):Int):=rfl;omega,a8⟩
  ·rintro⟨a1,⟨a2,a3,a4,a5,a6⟩,a7,a8⟩
   exact⟨a1,a2,a3,a4,a5,a6,by have:(tuP l).proto=((at' l 9:Nat):Int):=rfl;omega,a8⟩
 unfold Tu.vals
 dsimp only
 clear hr hrr hx hz hxl hB0
 go_enter func109,ntmps109
 go_wp2_with fail
 refine(CP.out _ ((bR _ _).alloc (nR _) _)).mono ?_
 rintro e w1 ⟨hret,hb1⟩
 obtain⟨t0,t1,t2,t3,t4,y0,y1,y2,y3,y4,y5,y6,y7,y8,y9,y10,A1,m,c1,rfl,htu,hhd,hy⟩:=hret.names
 have HTU:=jH htu
 rw[←HRR.out] at hy⊢
 have hk:=((Blk.new w 39 #[X Z src,X Z dst,X Y pr,X Y sp,X Y dp]).below hb1 (by simp))
 have hBz:=(((bR w.heap.size w).alloc (nR _) (cL #[X Z src,X Z dst,X Y pr,X Y sp,X Y dp] 39)).trans (hb1.mono (by simp)))
 have hs1:=hBz.size
 have HBz:=jH (fun C C'=>(hBz.alloc hs1 (.cells C 39)).alloc (by simp;omega) (.cells C' 132))
 obtain⟨q,hq⟩:∃q,q=w.heap.size:=⟨_,rfl⟩
 rw[←hq] at hk⊢
 have HQ:=jH hq
 have hk:=(hk.alloc (cL #[X Z t0,X Z t1,X Y t2,X Y t3,X Y t4] 39)).alloc (cL #[X Y y0,X Y y1,X Y y2,X Y y3,X Y y4,X Y y5,X Y y6,X Y y7,X Y y8,X Z y9,X Z y10] 132)
 obtain⟨k0,k1,k2,k3,k4⟩:=hk.c5
 have HF:Hid (∀b,(b=true↔r=0∧t0=src∧t1=dst∧t2=pr∧t3=sp∧t4=dp∧t2=6∧z≠0)→b=endsL ⟨src,dst,pr,sp,dp⟩ l):=by
  intro b hb
  apply HE.out
  rw[hb]
  have hrr:=HRR.out
  by_cases h0:r=0
  ·rw[tuT_yes (by omega)] at htu
   unfold Tu.vals at htu
   simp only[Array.mk.injEq,List.cons.injEq,Value.int.injEq,true_and,and_true] at htu
   obtain⟨e0,e1,e2,e3,e4⟩:=htu
   constructor
   ·rintro⟨_,h1,h2,h3,h4,h5,h6,h7⟩;exact⟨h0,by omega,by omega,by omega,by omega,by omega,by omega,h7⟩
   ·rintro⟨_,h1,h2,h3,h4,h5,h6,h7⟩;exact⟨h0,by omega,by omega,by omega,by omega,by omega,by omega,h7⟩
  ·constructor
   ·rintro⟨h,_⟩;exact absurd h h0
   ·rintro⟨h,_⟩;exact absurd h h0
 have HP:Hid (r=0→t2=6→20≤(bodyP l).length):=by
  intro h0 h6
  have hrr:=HRR.out
  rw[tuT_yes (by omega)] at htu
  unfold Tu.vals at htu
  simp only[Array.mk.injEq,List.cons.injEq,Value.int.injEq,true_and,and_true] at htu
  obtain⟨e0,e1,e2,e3,e4⟩:=htu
  have e9:(tuP l).proto=((at' l 9:Nat):Int):=rfl
  exact whyT_tcp (by omega) (by omega)
 have HNO:Hid (∀b,b=false→¬(r=0∧t0=src∧t1=dst∧t2=pr∧t3=sp∧t4=dp∧t2=6∧z≠0)→b=endsL ⟨src,dst,pr,sp,dp⟩ l):=by
  intro b hb hn
  apply HF.out
  subst hb
  constructor
  ·intro h;cases h
  ·intro h;exact absurd h hn
 clear hb1 CP hret hk hq htu hhd hBz hs1 HE
 by_cases h0:r=0
 ·have hb0:((r:Int)==0)=true:=by simp[h0]
  by_cases heq:t0=src∧t1=dst∧t2=pr∧t3=sp∧t4=dp
  ·obtain⟨rfl,rfl,rfl,rfl,rfl⟩:=heq
   by_cases h6:t2=6
   ·have hb6:(t2==6)=true:=by simp[h6]
    obtain⟨hm,hown⟩:=hy h0
    have hlb:=HP.out h0 h6
    have hml:m=(bodyP l).length:=by have:=hown.1;rw[bv_length] at this;omega
    obtain⟨g,rfl,_,_⟩:=own_head hown (by omega)
    have hx0:=ownb_cell ((hown.alloc (cL #[X Z t0,X Z t1,X Y t2,X Y t3,X Y t4] 39)).alloc (cL #[X Y y0,X Y y1,X Y y2,X Y y3,X Y y4,X Y y5,X Y y6,X Y y7,X Y y8,X Z y9,X Z y10] 132)) 13 (by omega) (by omega)
    have e13:(bodyP l)[13]=x:=by rw[HX.out];unfold at';simp[List.getD_eq_getElem?_getD,List.getElem?_eq_getElem (show 13 < (bodyP l).length by omega)]
    rw[e13] at hx0
    have hm13:13 < m:=by omega
    have HH:=jH (aI h0 h6)
    clear hown hy hm hml hlb e13 h0 h6
    by_cases hz0:z=0
    ·have bz:(((z:Nat):Int)==0)=true:=by simp[hz0]
     have bz':(((z:Nat):Int) !=0)=false:=by simp[hz0]
     have HT:Hid (false=endsL ⟨t0,t1,t2,t3,t4⟩ l):=HNO.out false rfl (by omega)
     clear hz0
     go_wp2_with fail
     go_ret
     exact⟨by rw[←HT.out];rfl,HBz.out _ _⟩
    ·have bz:(((z:Nat):Int)==0)=false:=by simp;omega
     have bz':(((z:Nat):Int) !=0)=true:=by simp;omega
     have HT:Hid (true=endsL ⟨t0,t1,t2,t3,t4⟩ l):=HF.out true ⟨fun _=>⟨HH.out.1,rfl,rfl,rfl,rfl,rfl,HH.out.2,hz0⟩,fun _=>rfl⟩
     clear hz0
     go_wp2_with fail
     go_ret
     exact⟨by rw[←HT.out];rfl,HBz.out _ _⟩
   ·have hb6:(t2==6)=false:=by simp[h6]
    have HT:Hid (false=endsL ⟨t0,t1,t2,t3,t4⟩ l):=HNO.out false rfl (by omega)
    clear hy h6 h0
    go_wp2_with fail
    go_ret
    exact⟨by rw[←HT.out];rfl,HBz.out _ _⟩
  ·have HH:=jH heq
   have HT:Hid (false=endsL ⟨src,dst,pr,sp,dp⟩ l):=HNO.out false rfl (by omega)
   clear hy heq h0
   go_wp2_with fail
   all_goals first
    |exact absurd ⟨by omega,by omega,by omega,by omega,by omega⟩ HH.out
    |(go_ret;exact⟨by rw[←HT.out];rfl,HBz.out _ _⟩)
 ·have hb0:((r:Int)==0)=false:=by simp[h0]
  have HT:Hid (false=endsL ⟨src,dst,pr,sp,dp⟩ l):=HNO.out false rfl (by omega)
  clear hy h0
  go_wp2_with fail
  go_ret
  exact⟨by rw[←HT.out];rfl,HBz.out _ _⟩
theorem at_cell {w:World}{b off j:Nat}{l:List Nat}(h:∀j u,(bv l)[j]? =some u→w.cell? ⟨b,off + j,none⟩=some u)(hj:j < l.length):w.cell? ⟨b,off + j,none⟩=some (X .u8 (at' l j:Nat)):=by
 have:=h j _ (bv_get hj)
 rw[this]
 unfold at'
 simp[List.getD_eq_getElem?_getD,List.getElem?_eq_getElem hj]
theorem AllB.set2 {l:List Nat}(h:AllB l)(j y:Nat)(hy:y < 256):AllB (l.set j y):=by
 intro x hx
 rcases List.mem_or_eq_of_mem_set hx with h1|h1
 ·exact h x h1
 ·omega
theorem why_zero {l:List Nat}(h:whyP l=0):20≤l.length∧at' l 0 / 16=4∧5≤ihlP l∧4 * ihlP l≤l.length∧netN (l.take (4 * ihlP l))=0∧4 * ihlP l≤lenP l∧lenP l≤l.length:=by
 have h20:20≤l.length:=by
  rcases Nat.lt_or_ge l.length 20 with h1|h1
  ·rw[why_short h1] at h;cases h
  ·exact h1
 have hc:=why_cases (l:=l) h20 rfl rfl rfl rfl rfl
 rw[h] at hc
 omega
def olderN (l:List Nat):Nat:=fixN (two' l 10) (two' l 8) (two' (l.set 8 (at' l 8 - 1)) 8)
def olderB (l:List Nat):List Nat:=((l.set 8 (at' l 8 - 1)).set 10 (olderN l / 256)).set 11 (olderN l % 256)
theorem olderN_lt (l:List Nat):olderN l < 65536:=fixN_lt _ _ _
theorem at_set_ne {l:List Nat}{i y j:Nat}(h:i≠j):at' (l.set i y) j=at' l j:=by
 unfold at'
 simp[List.getD_eq_getElem?_getD,List.getElem?_set_ne h]
theorem at_take {l:List Nat}{k j:Nat}(h:j < k):at' (l.take k) j=at' l j:=by
 unfold at'
 simp[List.getD_eq_getElem?_getD,List.getElem?_take_of_lt h]
def outHd (l:List Nat)(self dest:Nat):Hd:=⟨0,(at' l 1:Nat),((lenP l + 20:Nat):Int),(two' l 4:Nat),((two' l 6 / 8192 / 2 * 2:Nat):Int),0,64,4,0,self,dest⟩
def wrapB (l:List Nat)(self dest:Nat):List Nat:=buildB (outHd l self dest)++olderB (l.take (lenP l))
def whyW (l:List Nat)(mtu:Int):Nat:=
 if whyP l≠0 then whyP l else if at' l 8≤1 then 7 else if ((lenP l + 20:Nat):Int) > min mtu 2000 then 11 else 0
theorem u16_join (x y:Nat)(hx:x < 256)(hy:y < 256):bits .or .u16 ((x:Int) * 256) (y:Int)=((x * 256 + y:Nat):Int):=by
 have h:=(bits_nat .u16 16 (by decide) (fun n h0 h1=>by
  have e:(2:Int) ^ 16=65536:=by decide
  rw[IntKind.wrap_u16]
  omega) (x * 256) y (by omega) (by omega)).2
 rw[nat_join 8 (x * 256) y (by omega) (by omega)] at h
 exact h
theorem pair_any (A:Option Addr)(n c B:Nat)(l:List Nat)(j:Nat)(w:World)(hr:Reads w B 1 A n (bv l))(hj:j + 1 < n)(hn:n≤140737488355328)(ha:AllB l):
  Calls Pg 321 #[G A n c,X Y j] w fun e w'=>e=rT (X .u16 (two' l j:Nat))∧Below w.heap.size w w':=by
 obtain⟨b,off,rfl,hb,hcell⟩:=hr.plain (by omega) (by omega)
 have hlen:=hr.length
 have g0:=at_cell hcell (j:=j) (by omega)
 have g1:=at_cell hcell (j:=j + 1) (by omega)
 have hx:=at_lt ha j
 have hy:=at_lt ha (j + 1)
 have HE:Hid (two' l j=at' l j * 256 + at' l (j + 1)):=rfl
 generalize at' l j=x at *
 generalize at' l (j + 1)=y at *
 have hor:=u16_join x y hx hy
 have i0:(0:Int)≤(j:Int):=by omega
 have i1:(j:Int) < (n:Int):=by omega
 have i2:(j:Int) + 1 < (n:Int):=by omega
 have i3:IntKind.i64.wrap ((j:Int) + 1)=(j:Int) + 1:=IntWalk.i64_in _ (by omega)
 have i4:(0:Int)≤(j:Int) + 1:=by omega
 have i5:((j:Int) + 1).toNat=j + 1:=by omega
 clear hr hcell hlen
 go_enter func321,ntmps321
 go_wp2_with fail
 go_quiet (fail)
 go_wp2_with fail
 go_ret
 exact⟨by rw[HE.out];rfl,⟨rfl,rfl,rfl,nR _,fun _ _=>rfl⟩⟩
theorem older_any (A:Option Addr)(n c B:Nat)(l:List Nat)(w:World)(hr:Reads w B 1 A n (bv l))(hB:B≤w.heap.size)(h20:20≤n)(hn:n≤140737488355328)(ha:AllB l)(h8:1≤at' l 8):
  Calls Pg 207 #[G A n c] w fun e w'=>∃A' c',e=rT (G A' n c')∧w'.ownsRow w.heap.size 5 1 (G A' n c') n (bv (olderB l))∧Below w.heap.size w w':=by
 obtain⟨ad,rfl,_,_⟩:=hr.2 (by omega)
 have CC:=jH (clone_any (some ad) n c B l w hr hB hn (fun h=>by cases h))
 have hlen:=hr.length
 obtain⟨x8,hx8⟩:∃x,x=at' l 8:=⟨_,rfl⟩
 have hx8l:x8 < 256:=by rw[hx8];exact at_lt ha 8
 obtain⟨y8,hy8,e8⟩:∃y:Nat,(x8:Int) - 1=(y:Int)∧y=x8 - 1:=⟨x8 - 1,by omega,rfl⟩
 have hs1:l.set 8 (at' l 8 - 1)=l.set 8 y8:=by rw[e8,hx8]
 have ha1:=ha.set2 8 y8 (by omega)
 have hl1:(l.set 8 y8).length=n:=by rw[List.length_set];exact hlen
 have ht1:two' (l.set 8 y8) 10=two' l 10:=by unfold two';rw[at_set_ne (by omega),at_set_ne (by omega)]
 obtain⟨z,hz⟩:∃z,z=olderN l:=⟨_,rfl⟩
 have hz2:fixN (two' l 10) (two' l 8) (two' (l.set 8 y8) 8)=z:=by rw[hz];unfold olderN;rw[hs1]
 have z16:z < 65536:=by rw[hz];exact olderN_lt l
 have hres:olderB l=((l.set 8 y8).set 10 (z / 256)).set 11 (z % 256):=by unfold olderB;rw[hs1,←hz]
 have CF:=jH (fun w'=>fix_any (two' l 10) (two' l 8) (two' (l.set 8 y8) 8) (two_lt ha 10) (two_lt ha 8) (two_lt ha1 8) w')
 rw[hz2] at CF
 have HA:=jH (aI ha ha1)
 have HLN:=jH (aI hlen hl1)
 have HX:=jH hx8
 have HT:=jH ht1
 have HRES:=jH hres
 obtain⟨y1,e1,hy1⟩:∃y1:Nat,(z:Int) / 256=(y1:Int)∧y1=z / 256:=⟨z / 256,by omega,rfl⟩
 obtain⟨y2,e2,hy2⟩:∃y2:Nat,(z:Int) % 256=(y2:Int)∧y2=z % 256:=⟨z % 256,by omega,rfl⟩
 have HY:=jH (aI hy1 hy2)
 have h8':1≤x8:=by omega
 clear hr ha hlen hx8 hs1 ha1 hl1 ht1 hz hz2 hres e8 hy1 hy2 h8
 go_enter func207,ntmps207
 go_wp2_with fail
 refine CC.out.mono ?_
 rintro e w1 ⟨A1,c1,rfl,hown1,hb1⟩
 obtain⟨g,rfl,hg1,hg2⟩:=own_head hown1 (by omega)
 have CP:Hid (∀w',Below w1.heap.size w1 w'→Calls Pg 321 #[G (some ⟨g,0,none⟩) n c1,X Y 8] w' fun e w''=>e=rT (X .u16 (two' l 8:Nat))∧Below w'.heap.size w' w''):=
  fun w' hb=>pair_any (some ⟨g,0,none⟩) n c1 w1.heap.size l 8 w' ((Reads.of_own hown1).below hb) (by omega) hn HA.out.1
 have HO1:=jH hown1
 clear CC hown1
 go_wp2_with fail
 refine(CP.out w1 (bR _ _)).mono ?_
 rintro e w2 ⟨rfl,hb2⟩
 have hown2:=own_below HO1.out hb2
 have hB2:=hb1.trans (hb2.mono hb1.size)
 have c8:=ownb_cell hown2 8 (by omega) (by rw[HLN.out.1];omega)
 have f8:=hown2.frozenAt 8
 have g8:l[8]'(by rw[HLN.out.1];omega)=x8:=by
  rw[HX.out]
  unfold at'
  rw[List.getD_eq_getElem?_getD,List.getElem?_eq_getElem (by rw[HLN.out.1];omega)]
  rfl
 rw[g8] at c8
 have hst:=ownb_store hown2 8 y8
 have hB3:=hB2.setCell (p:=⟨g,8,none⟩) hg1 (X .u8 y8)
 have HS:=jH (aI hst hB3)
 clear hown2 hb1 hb2 hst hB3 CP HO1 g8 hB2
 go_wp2_with fail
 obtain⟨w3,hw3⟩:∃w3,w3=w2.setCell ⟨g,8,none⟩ (X .u8 y8):=⟨_,rfl⟩
 rw[←hw3] at HS⊢
 clear hw3 c8 f8
 have CPa:Hid (Calls Pg 321 #[G (some ⟨g,0,none⟩) n c1,X Y 10] w3 fun e w''=>e=rT (X .u16 (two' l 10:Nat))∧Below w3.heap.size w3 w''):=by
  have:=pair_any (some ⟨g,0,none⟩) n c1 w3.heap.size (l.set 8 y8) 10 w3 (Reads.of_own HS.out.1) (by omega) hn HA.out.2
  rw[HT.out] at this
  exact this
 have CPb:Hid (∀w',Below w3.heap.size w3 w'→Calls Pg 321 #[G (some ⟨g,0,none⟩) n c1,X Y 8] w' fun e w''=>e=rT (X .u16 (two' (l.set 8 y8) 8:Nat))∧Below w'.heap.size w' w''):=
  fun w' hb=>pair_any (some ⟨g,0,none⟩) n c1 w3.heap.size (l.set 8 y8) 8 w' ((Reads.of_own HS.out.1).below hb) (by omega) hn HA.out.2
 refine CPa.out.mono ?_
 rintro e w4 ⟨rfl,hb4⟩
 go_wp2_with fail
 refine(CPb.out w4 hb4).mono ?_
 rintro e w5 ⟨rfl,hb5⟩
 have hb35:=hb4.trans (hb5.mono hb4.size)
 have hown5:=own_below HS.out.1 hb35
 have hB5:=HS.out.2.trans (hb35.mono HS.out.2.size)
 clear CPa CPb hb4 hb5 hb35 HS
 go_wp2_with fail
 refine(CF.out w5).mono ?_
 rintro e w6 ⟨rfl,hw6⟩
 subst hw6
 obtain⟨o10,c10⟩:∃o:Nat,w5.cell? ⟨g,10,none⟩=some (X .u8 o):=⟨_,ownb_cell hown5 10 (by omega) (by rw[HLN.out.2];omega)⟩
 obtain⟨o11,c11⟩:∃o:Nat,w5.cell? ⟨g,11,none⟩=some (X .u8 o):=⟨_,ownb_cell hown5 11 (by omega) (by rw[HLN.out.2];omega)⟩
 have f10:=hown5.frozenAt 10
 have f11:=hown5.frozenAt 11
 have hst5:=ownb_store (ownb_store hown5 10 y1) 11 y2
 have hB6:=(hB5.setCell (p:=⟨g,10,none⟩) hg1 (X .u8 y1)).setCell (p:=⟨g,11,none⟩) hg1 (X .u8 y2)
 have HF:=jH (aI hst5 hB6)
 have HRES2:Hid (olderB l=((l.set 8 y8).set 10 y1).set 11 y2):=by show _=_;rw[HRES.out,HY.out.1,HY.out.2]
 clear hst5 hB6 hown5 hB5 CF
 go_wp2_with fail
 go_ret
 refine⟨_,c1,rfl,?_,HF.out.2⟩
 rw[HRES2.out]
 exact HF.out.1
def WrapRet (l:List Nat)(self dest:Nat)(mtu:Int)(w:World)(e:Ending)(w':World):Prop:=
 (whyW l mtu=0∧∃A c,e=rT (tU #[G A (20 + lenP l) c,X Y 0])∧w'.ownsRow w.heap.size 5 1 (G A (20 + lenP l) c) (20 + lenP l) (bv (wrapB l self dest)))∨
 (whyW l mtu≠0∧e=rT (tU #[G none 0 0,X Y (whyW l mtu:Nat)]))
theorem flags_two (f:Nat)(h:f < 8):bits .and .i64 (f:Int) 6=((f / 2 * 2:Nat):Int)∧bits .andNot .i64 (f:Int) 1=((f / 2 * 2:Nat):Int):=by
 have:∀f:Fin 8,bits .and .i64 ((f.val:Nat):Int) 6=((f.val / 2 * 2:Nat):Int)∧bits .andNot .i64 ((f.val:Nat):Int) 1=((f.val / 2 * 2:Nat):Int):=by decide +kernel
 exact this ⟨f,h⟩
theorem outHd_ok (l:List Nat)(self dest:Nat)(ha:AllB l)(hs:self < 4294967296)(hd:dest < 4294967296):HdOk (outHd l self dest):=by
 have h1:=at_lt ha 1
 have h2:lenP l < 65536:=two_lt ha 2
 have h4:=two_lt ha 4
 have h6:=two_lt ha 6
 unfold outHd
 exact⟨by dsimp only;omega,by dsimp only;omega,by dsimp only;omega,by dsimp only;omega,by dsimp only;omega,by dsimp only;omega,by dsimp only;omega,by dsimp only;omega,by dsimp only;omega,hs,hd⟩
theorem wrap_any (A:Option Addr)(n c B:Nat)(l:List Nat)(self dest:Nat)(mtu:Int)(w:World)(hr:Reads w B 1 A n (bv l))(hB:B≤w.heap.size)(hn:n≤1000000)(hnc:n≤c)(ha:AllB l)(hs:self < 4294967296)(hd:dest < 4294967296):
  Calls Pg 107 #[G A n c,X Z self,X Z dest,X Y mtu] w fun e w'=>WrapRet l self dest mtu w e w'∧Below w.heap.size w w':=by
 have CP:=jH (parse_any A n c B l w hr hB (by omega) hnc ha)
 by_cases hy:whyP l=0
 ·obtain⟨k1,k2,k3,k4,k5,k6,k7⟩:=why_zero hy
  have hlen:=hr.length
  obtain⟨ad,rfl,_,_⟩:=hr.2 (by omega)
  obtain⟨L,hL⟩:∃x,x=lenP l:=⟨_,rfl⟩
  obtain⟨x8,hx8⟩:∃x,x=at' l 8:=⟨_,rfl⟩
  obtain⟨s,hs1⟩:∃x,x=ihlP l:=⟨_,rfl⟩
  obtain⟨x1,hx1⟩:∃x,x=at' l 1:=⟨_,rfl⟩
  obtain⟨x4,hx4⟩:∃x,x=two' l 4:=⟨_,rfl⟩
  obtain⟨f,hf⟩:∃x,x=two' l 6 / 8192:=⟨_,rfl⟩
  obtain⟨o,ho⟩:∃x,x=two' l 6 % 8192:=⟨_,rfl⟩
  obtain⟨x9,hx9⟩:∃x,x=at' l 9:=⟨_,rfl⟩
  obtain⟨x10,hx10⟩:∃x,x=two' l 10:=⟨_,rfl⟩
  obtain⟨x12,hx12⟩:∃x,x=four' l 12:=⟨_,rfl⟩
  obtain⟨x16,hx16⟩:∃x,x=four' l 16:=⟨_,rfl⟩
  have hvals:(hdP l).vals=#[X Y s,X Y x1,X Y L,X Y x4,X Y f,X Y o,X Y x8,X Y x9,X Y x10,X Z x12,X Z x16]:=by
   unfold hdP Hd.vals
   dsimp only
   rw[←hL,←hx8,←hs1,←hx1,←hx4,←hf,←ho,←hx9,←hx10,←hx12,←hx16]
  have h6:=two_lt ha 6
  have f8:f < 8:=by omega
  have L16:L < 65536:=by rw[hL];exact two_lt ha 2
  have hfl:=flags_two f f8
  obtain⟨f2,hf2⟩:∃f2,f2=f / 2 * 2:=⟨_,rfl⟩
  rw[←hf2] at hfl
  obtain⟨hfl1,hfl2⟩:=hfl
  have hoh:outHd l self dest=⟨0,(x1:Int),(L:Int) + 20,(x4:Int),(f2:Int),0,64,4,0,self,dest⟩:=by
   unfold outHd
   rw[←hL,←hx1,←hx4,←hf,←hf2]
   rfl
  have CB:Hid (∀w',Calls Pg 160 #[aG #[X Y 0,X Y x1,X Y ((L:Int) + 20),X Y x4,X Y f2,X Y 0,X Y 64,X Y 4,X Y 0,X Z self,X Z dest]] w' fun e w''=>∃A c',e=rT (G A 20 c')∧w''.ownsRow w'.heap.size 5 1 (G A 20 c') 20 (bv (buildB (outHd l self dest)))∧Below w'.heap.size w' w''):=by
   intro w'
   have:=build_any (outHd l self dest) w' (outHd_ok l self dest ha hs hd)
   rw[hoh] at this⊢
   exact this
  have CO:=jH (fun w' (hb:Below w.heap.size w w') (h8:1≤x8)=>older_any (some ad) L c w'.heap.size (l.take L) w' (((hr.below (hb.mono hB)).more (nT hB hb.size)).takeb (by omega)) (nR _) (by omega) (by omega) (ha.take L) (by rw[at_take (by omega)];omega))
  have HW:Hid (wrapB l self dest=buildB (outHd l self dest)++olderB (l.take L)):=by show _=_;unfold wrapB;rw[hL]
  have HV:=jH hvals
  have HL:=jH hL
  obtain⟨M,hM⟩:∃M,min mtu 2000=M:=⟨_,rfl⟩
  have HC:Hid ((x8≤1→whyW l mtu=7)∧(¬x8≤1→(L:Int) + 20 > M→whyW l mtu=11)∧(¬x8≤1→(L:Int) + 20≤M→whyW l mtu=0)):=by
   unfold whyW
   rw[hM,←hx8,←hL,if_neg (by omega)]
   refine⟨fun h1=>by rw[if_pos h1],fun h1 h2=>by rw[if_neg h1,if_pos (by omega)],fun h1 h2=>by rw[if_neg h1,if_neg (by omega)]⟩
  have hLc:L≤c:=by omega
  have HYE:=jH hy
  clear hr ha hL hx8 hs1 hx1 hx4 hf ho hx9 hx10 hx12 hx16 hvals h6 hf2 hoh k1 k2 k3 k4 k5 k6 hlen hs hd hy hfl2
  have hM3:(mtu < 2000∧M=mtu)∨(mtu=2000∧M=2000)∨(2000 < mtu∧M=2000):=by omega
  clear hM
  rcases hM3 with⟨hmt,rfl⟩|⟨rfl,rfl⟩|⟨hmt,rfl⟩
  ·go_enter func107,ntmps107
   go_wp2_with fail
   refine CP.out.mono ?_
   rintro e w1 ⟨hret,hb1⟩
   obtain⟨A1,c1,rfl,_⟩:=hret.yes HYE.out
   rw[HV.out]
   have hB2:=hb1.alloc hb1.size (cL #[X Y s,X Y x1,X Y L,X Y x4,X Y f,X Y o,X Y x8,X Y x9,X Y x10,X Z x12,X Z x16] 132)
   have hh2:=Blk.new w1 132 #[X Y s,X Y x1,X Y L,X Y x4,X Y f,X Y o,X Y x8,X Y x9,X Y x10,X Z x12,X Z x16]
   have hs2:=hB2.size
   clear hret hb1 CP
   by_cases h8:x8≤1
   ·have HH:=jH (HC.out.1 h8)
    clear HC
    go_wp2_with fail
    exact bodyPost_ret (v:=tU #[G none 0 0,X Y 7]) (by simp[results,results107,go_sem]) rfl ⟨.inr ⟨by rw[HH.out];omega,by rw[HH.out];rfl⟩,hB2⟩
   ·by_cases hM2:(L:Int) + 20 > M
    ·have HH:=jH (HC.out.2.1 h8 hM2)
     clear HC
     go_wp2_with fail
     exact bodyPost_ret (v:=tU #[G none 0 0,X Y 11]) (by simp[results,results107,go_sem]) rfl ⟨.inr ⟨by rw[HH.out];omega,by rw[HH.out];rfl⟩,hB2⟩
    ·have HH:=jH (HC.out.2.2 h8 (by omega))
     have q1:¬(M < (L:Int) + 20):=by omega
     have q2:¬((2000:Int) < (L:Int) + 20):=by omega
     have q3:¬((x8:Int)≤1):=by omega
     have q4:decide (min M 2000 < (L:Int) + 20)=false:=decide_eq_false (by omega)
     clear hM2
     clear HC
     go_wp2_with fail
     generalize w1.alloc (cL #[X Y s,X Y x1,X Y L,X Y x4,X Y f,X Y o,X Y x8,X Y x9,X Y x10,X Z x12,X Z x16] 132)=w2 at *
     refine(CB.out w2).mono ?_
     rintro e w3 ⟨A3,c3,rfl,hown3,hb3⟩
     have hB3:=hB2.trans (hb3.mono hB2.size)
     have hh3:=hh2.below hb3 hh2.lt
     have HO3:=jH (own_lower hown3 hs2)
     have CO3:=jH (CO.out w3 hB3 (by omega))
     obtain⟨-,-,e2⟩:=hh3.c3
     have hcL:(L:Int)≤(c:Int):=by omega
     clear hown3 hb3 CB CO hh2 hh3 hB2
     go_wp2_with fail
     refine CO3.out.mono ?_
     rintro e w4 ⟨A4,c4,rfl,hown4,hb4⟩
     have hB4:=hB3.trans (hb4.mono hB3.size)
     have hO34:=own_below HO3.out hb4
     have hb4s:=hb4.size
     have hs4:=hB4.size
     clear CO3 hb4 e2 HO3
     go_wp2_with (at_builtin;refine stop_ ?_)
     refine on_ ?_
     refine wpList_append_b rfl (.tmp 49) (.tmp 54) _ rfl 5 infoB underlying23 w.heap.size (G A3 20 c3) 20 _ rfl hO34 w4.heap.size A4 L c4 _ rfl (Reads.of_own hown4) (20 + L) rfl (by omega) hs4 ?_
     intro A5 c5 w5 hown5 hb5 _ _
     rw[←HW.out] at hown5
     have hB5:=hB4.trans hb5
     have HF:Hid (WrapRet l self dest M w (rT (tU #[G A5 (20 + L) c5,X Y 0])) w5):=.inl ⟨HH.out,A5,c5,by rw[←HL.out],by rw[←HL.out];exact hown5⟩
     clear hown4 hown5 hO34 hb5
     go_wp2_with fail
     exact bodyPost_ret (v:=tU #[G A5 (20 + L) c5,X Y 0]) (by simp[results,results107,go_sem]) rfl ⟨HF.out,hB5⟩
  ·go_enter func107,ntmps107
   go_wp2_with fail
   refine CP.out.mono ?_
   rintro e w1 ⟨hret,hb1⟩
   obtain⟨A1,c1,rfl,_⟩:=hret.yes HYE.out
   rw[HV.out]
   have hB2:=hb1.alloc hb1.size (cL #[X Y s,X Y x1,X Y L,X Y x4,X Y f,X Y o,X Y x8,X Y x9,X Y x10,X Z x12,X Z x16] 132)
   have hh2:=Blk.new w1 132 #[X Y s,X Y x1,X Y L,X Y x4,X Y f,X Y o,X Y x8,X Y x9,X Y x10,X Z x12,X Z x16]
   have hs2:=hB2.size
   clear hret hb1 CP
   by_cases h8:x8≤1
   ·have HH:=jH (HC.out.1 h8)
    clear HC
    go_wp2_with fail
    exact bodyPost_ret (v:=tU #[G none 0 0,X Y 7]) (by simp[results,results107,go_sem]) rfl ⟨.inr ⟨by rw[HH.out];omega,by rw[HH.out];rfl⟩,hB2⟩
   ·by_cases hM2:(L:Int) + 20 > 2000
    ·have HH:=jH (HC.out.2.1 h8 hM2)
     clear HC
     go_wp2_with fail
     exact bodyPost_ret (v:=tU #[G none 0 0,X Y 11]) (by simp[results,results107,go_sem]) rfl ⟨.inr ⟨by rw[HH.out];omega,by rw[HH.out];rfl⟩,hB2⟩
    ·have HH:=jH (HC.out.2.2 h8 (by omega))
     have q1:¬(2000 < (L:Int) + 20):=by omega
     have q2:¬((2000:Int) < (L:Int) + 20):=by omega
     have q3:¬((x8:Int)≤1):=by omega
     have q4:decide (min 2000 2000 < (L:Int) + 20)=false:=decide_eq_false (by omega)
     clear hM2
     clear HC
     go_wp2_with fail
     generalize w1.alloc (cL #[X Y s,X Y x1,X Y L,X Y x4,X Y f,X Y o,X Y x8,X Y x9,X Y x10,X Z x12,X Z x16] 132)=w2 at *
     refine(CB.out w2).mono ?_
     rintro e w3 ⟨A3,c3,rfl,hown3,hb3⟩
     have hB3:=hB2.trans (hb3.mono hB2.size)
     have hh3:=hh2.below hb3 hh2.lt
     have HO3:=jH (own_lower hown3 hs2)
     have CO3:=jH (CO.out w3 hB3 (by omega))
     obtain⟨-,-,e2⟩:=hh3.c3
     have hcL:(L:Int)≤(c:Int):=by omega
     clear hown3 hb3 CB CO hh2 hh3 hB2
     go_wp2_with fail
     refine CO3.out.mono ?_
     rintro e w4 ⟨A4,c4,rfl,hown4,hb4⟩
     have hB4:=hB3.trans (hb4.mono hB3.size)
     have hO34:=own_below HO3.out hb4
     have hb4s:=hb4.size
     have hs4:=hB4.size
     clear CO3 hb4 e2 HO3
     go_wp2_with (at_builtin;refine stop_ ?_)
     refine on_ ?_
     refine wpList_append_b rfl (.tmp 49) (.tmp 54) _ rfl 5 infoB underlying23 w.heap.size (G A3 20 c3) 20 _ rfl hO34 w4.heap.size A4 L c4 _ rfl (Reads.of_own hown4) (20 + L) rfl (by omega) hs4 ?_
     intro A5 c5 w5 hown5 hb5 _ _
     rw[←HW.out] at hown5
     have hB5:=hB4.trans hb5
     have HF:Hid (WrapRet l self dest 2000 w (rT (tU #[G A5 (20 + L) c5,X Y 0])) w5):=.inl ⟨HH.out,A5,c5,by rw[←HL.out],by rw[←HL.out];exact hown5⟩
     clear hown4 hown5 hO34 hb5
     go_wp2_with fail
     exact bodyPost_ret (v:=tU #[G A5 (20 + L) c5,X Y 0]) (by simp[results,results107,go_sem]) rfl ⟨HF.out,hB5⟩
  ·go_enter func107,ntmps107
   go_wp2_with fail
   refine CP.out.mono ?_
   rintro e w1 ⟨hret,hb1⟩
   obtain⟨A1,c1,rfl,_⟩:=hret.yes HYE.out
   rw[HV.out]
   have hB2:=hb1.alloc hb1.size (cL #[X Y s,X Y x1,X Y L,X Y x4,X Y f,X Y o,X Y x8,X Y x9,X Y x10,X Z x12,X Z x16] 132)
   have hh2:=Blk.new w1 132 #[X Y s,X Y x1,X Y L,X Y x4,X Y f,X Y o,X Y x8,X Y x9,X Y x10,X Z x12,X Z x16]
   have hs2:=hB2.size
   clear hret hb1 CP
   by_cases h8:x8≤1
   ·have HH:=jH (HC.out.1 h8)
    clear HC
    go_wp2_with fail
    exact bodyPost_ret (v:=tU #[G none 0 0,X Y 7]) (by simp[results,results107,go_sem]) rfl ⟨.inr ⟨by rw[HH.out];omega,by rw[HH.out];rfl⟩,hB2⟩
   ·by_cases hM2:(L:Int) + 20 > 2000
    ·have HH:=jH (HC.out.2.1 h8 hM2)
     clear HC
     go_wp2_with fail
     exact bodyPost_ret (v:=tU #[G none 0 0,X Y 11]) (by simp[results,results107,go_sem]) rfl ⟨.inr ⟨by rw[HH.out];omega,by rw[HH.out];rfl⟩,hB2⟩
    ·have HH:=jH (HC.out.2.2 h8 (by omega))
     have q1:¬(2000 < (L:Int) + 20):=by omega
     have q2:¬((2000:Int) < (L:Int) + 20):=by omega
     have q3:¬((x8:Int)≤1):=by omega
     have q4:decide (min 2000 2000 < (L:Int) + 20)=false:=decide_eq_false (by omega)
     clear hM2
     clear HC
     go_wp2_with fail
     generalize w1.alloc (cL #[X Y s,X Y x1,X Y L,X Y x4,X Y f,X Y o,X Y x8,X Y x9,X Y x10,X Z x12,X Z x16] 132)=w2 at *
     refine(CB.out w2).mono ?_
     rintro e w3 ⟨A3,c3,rfl,hown3,hb3⟩
     have hB3:=hB2.trans (hb3.mono hB2.size)
     have hh3:=hh2.below hb3 hh2.lt
     have HO3:=jH (own_lower hown3 hs2)
     have CO3:=jH (CO.out w3 hB3 (by omega))
     obtain⟨-,-,e2⟩:=hh3.c3
     have hcL:(L:Int)≤(c:Int):=by omega
     clear hown3 hb3 CB CO hh2 hh3 hB2
     go_wp2_with fail
     refine CO3.out.mono ?_
     rintro e w4 ⟨A4,c4,rfl,hown4,hb4⟩
     have hB4:=hB3.trans (hb4.mono hB3.size)
     have hO34:=own_below HO3.out hb4
     have hb4s:=hb4.size
     have hs4:=hB4.size
     clear CO3 hb4 e2 HO3
     go_wp2_with (at_builtin;refine stop_ ?_)
     refine on_ ?_
     refine wpList_append_b rfl (.tmp 49) (.tmp 54) _ rfl 5 infoB underlying23 w.heap.size (G A3 20 c3) 20 _ rfl hO34 w4.heap.size A4 L c4 _ rfl (Reads.of_own hown4) (20 + L) rfl (by omega) hs4 ?_
     intro A5 c5 w5 hown5 hb5 _ _
     rw[←HW.out] at hown5
     have hB5:=hB4.trans hb5
     have HF:Hid (WrapRet l self dest mtu w (rT (tU #[G A5 (20 + L) c5,X Y 0])) w5):=.inl ⟨HH.out,A5,c5,by rw[←HL.out],by rw[←HL.out];exact hown5⟩
     clear hown4 hown5 hO34 hb5
     go_wp2_with fail
     exact bodyPost_ret (v:=tU #[G A5 (20 + L) c5,X Y 0]) (by simp[results,results107,go_sem]) rfl ⟨HF.out,hB5⟩
 ·obtain⟨r,hrr,hr0⟩:∃r,whyP l=r∧r≠0:=⟨_,rfl,hy⟩
  have HW:Hid (whyW l mtu=r):=by show _=_;unfold whyW;rw[if_pos hy,hrr]
  have HR:=jH hrr
  have HY:=jH hy
  have hb0:((r:Int) !=0)=true:=by simp;omega
  have HR0:=jH hr0
  clear hr hrr hy hr0
  go_enter func107,ntmps107
  go_wp2_with fail
  refine CP.out.mono ?_
  rintro e w1 ⟨hret,hb1⟩
  obtain rfl:=hret.no HY.out
  rw[HR.out]
  have hB2:=hb1.alloc hb1.size (cL #[X Y 0,X Y 0,X Y 0,X Y 0,X Y 0,X Y 0,X Y 0,X Y 0,X Y 0,X Z 0,X Z 0] 132)
  unfold hd0 Hd.vals
  clear hret CP hb1
  go_wp2_with fail
  exact bodyPost_ret (v:=tU #[G none 0 0,X Y r]) (by simp[results,results107,go_sem]) rfl ⟨.inr ⟨by rw[HW.out];exact HR0.out,by rw[HW.out]⟩,hB2⟩
theorem chfind_yes (p slots:Nat)(l:List Be)(t:List Int)(made:Int)(id:Int)(w:World)(hch:Ch w p slots l t made):
  Calls Pg 105 #[PT (some ⟨p,0,none⟩),X Y id] w fun e w'=>e=rT (tU #[.agg (findBe l id).1.cells.toArray,bL (findBe l id).2])∧Below w.heap.size w w':=by
 obtain⟨A,n,c,A2,c2,h1,h2,h3,h4⟩:=hch
 have hr:=Reads.of_own h2
 have hq0:=Blk.new w 34 #[X Y 0,X Z 0,X Y 0]
 have hb0:=(bR w.heap.size w).alloc (nR _) (cL #[X Y 0,X Z 0,X Y 0] 34)
 have CF:=jH (gfind_any A n c _ l id _ (hr.below hb0) hb0.size (by omega))
 have hp0:=h1.below hb0 h1.lt
 obtain⟨-,g1⟩:=hp0.c2
 obtain⟨⟨⟨x,ad,wt⟩,ok⟩,hf⟩:∃r,findBe l id=r:=⟨_,rfl⟩
 rw[hf] at CF
 rw[hf]
 dsimp only[Be.cells] at CF⊢
 have HB:=jH (aI hq0 hb0)
 clear hq0 hb0 h1 h2 h3 h4 hr hp0 hf
 go_enter func105,ntmps105
 go_wp2_with fail
 refine CF.out.mono ?_
 rintro e w1 ⟨rfl,hb1⟩
 have hq1:=HB.out.1.below hb1 HB.out.1.lt
 have hB1:=HB.out.2.trans (hb1.mono HB.out.2.size)
 obtain⟨f0,f1,f2⟩:=hq1.f3
 obtain⟨d0,d1,d2⟩:=hq1.c3
 obtain⟨q,hq⟩:∃q,q=w.heap.size:=⟨_,rfl⟩
 rw[←hq] at hq1 f0 f1 f2 d0 d1 d2⊢
 have HX:=jH (aI hq (aI hq1 hB1))
 clear hq hq1 hB1 g1 hb1 HB
 go_wp2_with fail
 obtain⟨w9,hw9⟩:∃w9,w9=((w1.setCell ⟨q,0,none⟩ (X Y x)).setCell ⟨q,1,none⟩ (X Z ad)).setCell ⟨q,2,none⟩ (X Y wt):=⟨_,rfl⟩
 have hz:Blk w9 q 34 #[X Y x,X Z ad,X Y wt]:=by
  rw[hw9]
  exact((HX.out.2.1.set_ 0 (X Y x)).set_ 1 (X Z ad)).set_ 2 (X Y wt)
 have hB9:Below w.heap.size w w9:=by
  rw[hw9]
  have hle:w.heap.size≤q:=Nat.le_of_eq HX.out.1.symm
  exact((HX.out.2.2.setCell (p:=⟨q,0,none⟩) hle _).setCell (p:=⟨q,1,none⟩) hle _).setCell (p:=⟨q,2,none⟩) hle _
 rw[←hw9]
 clear hw9 d0 d1 d2 f0 f1 f2
 obtain⟨r0,r1,r2⟩:=hz.c3
 rw[←HX.out.1]
 exact bodyPost_ret (v:=tU #[aG #[X Y x,X Z ad,X Y wt],.bool ok]) (by simp[results,results105,go_sem,r0,r1,r2]) rfl ⟨rfl,by rw[HX.out.1];exact hB9⟩
def pickBe (l:List Be)(t:List Int)(slots:Nat)(k:Tu):Be×Bool:=if mayTu k=true then findBe l (t.getD (hashT k % slots) 0) else (⟨0,0,0⟩,false)
structure PickAt (W:World)(p q g slots j:Nat)(c2:Nat)(src dst:Nat)(proto sport dport y:Int):Prop where
 cells:W.cell? ⟨p,0,none⟩=some (X Y slots)∧W.cell? ⟨p,2,none⟩=some (G (some ⟨g,0,none⟩) slots c2)∧W.cell? ⟨q,0,none⟩=some (X Z src)∧W.cell? ⟨q,1,none⟩=some (X Z dst)∧W.cell? ⟨q,2,none⟩=some (X Y proto)∧W.cell? ⟨q,3,none⟩=some (X Y sport)∧W.cell? ⟨q,4,none⟩=some (X Y dport)∧W.cell? ⟨g,j,none⟩=some (X Y y)
theorem PickAt.below {W W':World}{p q g slots j c2 src dst:Nat}{proto sport dport y:Int}(h:PickAt W p q g slots j c2 src dst proto sport dport y)(hb:Below W.heap.size W W'):PickAt W' p q g slots j c2 src dst proto sport dport y:=by
 obtain⟨h0,h1,h2,h3,h4,h5,h6,h7⟩:=h
 have key:∀{a:Addr} {v:Value},W.cell? a=some v→W'.cell? a=some v:=fun{a v} e=>(hb.cell (World.block_lt_of_cell? W a e)).trans e
 exact⟨key h0,key h1,key h2,key h3,key h4,key h5,key h6,key h7⟩
theorem PickAt.drew {W:World}{p q g slots j:Nat}{c2:Nat}{src dst:Nat}{proto sport dport y:Int}(h:PickAt W p q g slots j c2 src dst proto sport dport y):PickAt W.drew p q g slots j c2 src dst proto sport dport y:=⟨h.cells⟩
theorem PickAt.far {W:World}{p q g slots j:Nat}{c2:Nat}{src dst:Nat}{proto sport dport y:Int}(h:PickAt W p q g slots j c2 src dst proto sport dport y){b:Nat}(hp:p < b)(hq:q < b)(hg:g < b)(i:Nat)(u:Value):PickAt (W.setCell ⟨b,i,none⟩ u) p q g slots j c2 src dst proto sport dport y:=by
 obtain⟨h0,h1,h2,h3,h4,h5,h6,h7⟩:=h
 have key:∀{a:Addr} {v:Value},a.block < b→W.cell? a=some v→(W.setCell ⟨b,i,none⟩ u).cell? a=some v:=fun{a v} hl e=>(World.cell?_setCell_other W ⟨b,i,none⟩ a u (fun e=>by subst e;exact absurd hl (Nat.lt_irrefl _))).trans e
 exact⟨key hp h0,key hp h1,key hq h2,key hq h3,key hq h4,key hq h5,key hq h6,key hg h7⟩
theorem hash_lt (k:Tu):hashT k < 4294967296:=mixN_lt 0 (tupB k)
theorem chpick_yes (p slots:Nat)(l:List Be)(t:List Int)(made:Int)(k:Tu)(hk:TuOk k)(w:World)(hch:Ch w p slots l t made)(hm:mayN slots=true):
  Calls Pg 106 #[PT (some ⟨p,0,none⟩),.agg k.vals] w fun e w'=>e=rT (tU #[.agg (pickBe l t slots k).1.cells.toArray,bL (pickBe l t slots k).2])∧Below w.heap.size w w':=by
 have CY:=jH (fun W=>tupmay_any k W)
 have CH:=jH (fun W=>hash_any k hk W)
 have hpk:pickBe l t slots k=if mayTu k=true then findBe l (t.getD (hashT k % slots) 0) else (⟨0,0,0⟩,false):=rfl
 obtain⟨r,hr⟩:∃r,pickBe l t slots k=r:=⟨_,rfl⟩
 rw[hr] at hpk⊢
 clear hr
 obtain⟨h3s,h251⟩:=may_bounds hm
 have hh:=hash_lt k
 obtain⟨src,dst,proto,sport,dport⟩:=k
 dsimp only[Tu.vals] at CY CH⊢
 have hq0:=Blk.new w 39 #[X Z src,X Z dst,X Y proto,X Y sport,X Y dport]
 have hr0:=Blk.new (w.alloc (cL #[X Z src,X Z dst,X Y proto,X Y sport,X Y dport] 39)) 34 #[X Y 0,X Z 0,X Y 0]
 have hq1:=hq0.alloc (cL #[X Y 0,X Z 0,X Y 0] 34)
 have hb0:=((bR w.heap.size w).alloc (nR _) (cL #[X Z src,X Z dst,X Y proto,X Y sport,X Y dport] 39)).alloc (by simp) (cL #[X Y 0,X Z 0,X Y 0] 34)
 have hs0:(w.alloc (cL #[X Z src,X Z dst,X Y proto,X Y sport,X Y dport] 39)).heap.size=w.heap.size + 1:=by simp
 rw[hs0] at hr0
 obtain⟨b,hb⟩:∃b,mayTu ⟨src,dst,proto,sport,dport⟩=b:=⟨_,rfl⟩
 rw[hb] at CY hpk
 clear hb
 obtain⟨v0,v1,v2,v3,v4⟩:=hq1.c5
 have HB:=jH (aI hq1 (aI hr0 hb0))
 clear hq0 hr0 hq1 hb0 hs0
 go_enter func106,ntmps106
 go_wp2_with fail
 refine(CY.out _).mono ?_
 rintro e w1 ⟨rfl,hb1⟩
 have hB1:=HB.out.2.2.trans (hb1.mono HB.out.2.2.size)
 have hq1:=HB.out.1.below hb1 HB.out.1.lt
 have hr1:=HB.out.2.1.below hb1 HB.out.2.1.lt
 have hch1:=hch.below hB1
 obtain⟨q,hq⟩:∃q,q=w.heap.size:=⟨_,rfl⟩
 rw[←hq] at hq1 hr1⊢
 clear v0 v1 v2 v3 v4 CY
 cases b with
 |false=>
  have hpk':r=(⟨0,0,0⟩,false):=by rw[hpk];rfl
  obtain⟨f0,f1,f2⟩:=hr1.f3
  obtain⟨d0,d1,d2⟩:=hr1.c3
  have HX:=jH (aI hq (aI hr1 hB1))
  have HP:=jH hpk'
  clear hpk hpk' hq hr1 hB1 hq1 hch1 hch hb1 HB CH hh
  go_wp2_with fail
  obtain⟨w9,hw9⟩:∃w9,w9=((w1.setCell ⟨q + 1,0,none⟩ (X Y 0)).setCell ⟨q + 1,1,none⟩ (X Z 0)).setCell ⟨q + 1,2,none⟩ (X Y 0):=⟨_,rfl⟩
  have hz:Blk w9 (q + 1) 34 #[X Y 0,X Z 0,X Y 0]:=by
   rw[hw9]
   exact((HX.out.2.1.set_ 0 (X Y 0)).set_ 1 (X Z 0)).set_ 2 (X Y 0)
  have hB9:Below w.heap.size w w9:=by
   rw[hw9]
   have hle:w.heap.size≤q + 1:=by rw[HX.out.1];exact nS _
   exact((HX.out.2.2.setCell (p:=⟨q + 1,0,none⟩) hle _).setCell (p:=⟨q + 1,1,none⟩) hle _).setCell (p:=⟨q + 1,2,none⟩) hle _
  rw[←hw9]
  clear hw9 d0 d1 d2 f0 f1 f2
  obtain⟨r0,r1,r2⟩:=hz.c3
  rw[HP.out]
  exact bodyPost_ret (v:=tU #[aG #[X Y 0,X Z 0,X Y 0],bL false]) (by simp[results,results106,go_sem,r0,r1,r2]) rfl ⟨rfl,hB9⟩
 |true=>
  obtain⟨A,n,c,A2,c2,c1',c2',c3',c4⟩:=id hch
  obtain⟨g,rfl,_,hglt⟩:=own_head c3' (by omega)
  have hplt:=c1'.lt
  have c1:=c1'.below hB1 c1'.lt
  have c3:=own_below c3' hB1
  have c2':=own_below c2' hB1
  clear c1' c3' hch1
  have htl:t.length=slots:=owni_length c3
  have CF:=jH (fun(W:World) (h:Below w1.heap.size w1 W) (id:Int)=>chfind_yes p slots l t made id W (Ch.below ⟨A,n,c,_,c2,c1,c2',c3,c4⟩ h))
  obtain⟨h,hhe⟩:∃h,hashT ⟨src,dst,proto,sport,dport⟩=h:=⟨_,rfl⟩
  rw[hhe] at hh hpk CH
  clear hhe
  have hmod:((h:Int) % (slots:Int))=((h % slots:Nat):Int):=(Int.natCast_emod h slots).symm
  have hjl:h % slots < slots:=Nat.mod_lt _ (by omega)
  obtain⟨j,hj⟩:∃j,h % slots=j:=⟨_,rfl⟩
  rw[hj] at hmod hjl hpk
  clear hj
  have hcj:w1.cell? ⟨g,j,none⟩=some (X Y (t.getD j 0)):=by
   rw[owni_cell c3 j hjl (by omega),List.getD_eq_getElem?_getD,List.getElem?_eq_getElem (by omega)]
   rfl
  obtain⟨y,hy⟩:∃y,t.getD j 0=y:=⟨_,rfl⟩
  rw[hy] at hcj hpk
  clear hy
  have CF2:=jH (fun(W:World) (h:Below w1.heap.size w1 W)=>CF.out W h y)
  rw[if_pos rfl] at hpk
  rw[←hpk] at CF2
  clear hpk CF
  obtain⟨⟨x,ad,wt⟩,ok⟩:=r
  dsimp only[Be.cells] at CF2⊢
  have PA:PickAt w1 p q g slots j c2 src dst proto sport dport y:=by
   refine⟨?_,?_,?_,?_,?_,?_,?_,hcj⟩
   ·have:=c1.cell 0;simpa using this
   ·have:=c1.cell 2;simpa using this
   ·have:=hq1.cell 0;simpa using this
   ·have:=hq1.cell 1;simpa using this
   ·have:=hq1.cell 2;simpa using this
   ·have:=hq1.cell 3;simpa using this
   ·have:=hq1.cell 4;simpa using this
  have hws:IntKind.u32.wrap (slots:Int)=(slots:Int):=by rw[IntKind.wrap_u32];omega
  have hjI:(j:Int) < (slots:Int):=by omega
  have h0b:((slots:Int)==0)=false:=by simp;omega
  have HX:=jH (aI hq (aI hr1 (aI hB1 PA)))
  have HG:Hid (p < q + 1∧g < q + 1):=⟨by omega,by omega⟩
  have hs0:¬slots=0:=by omega
  have h0j:(0:Int)≤(j:Int):=by omega
  have hjw:IntKind.u32.wrap (j:Int)=(j:Int):=by rw[IntKind.wrap_u32];omega
  have hmodt:Int.tmod (h:Int) (slots:Int)=(j:Int):=by rw[Int.tmod_eq_emod_of_nonneg (by omega)];exact hmod
  clear hplt hglt
  clear c1 c2' c3 c4 hq1 hch hb1 HB hcj hr1 hB1 PA htl hq hm hk
  go_wp2_with fail
  obtain⟨d0,d1,d2,d3,d4,d5,d6,d7⟩:=HX.out.2.2.2.drew
  go_region_held3 (fun wS=>wS.cell? ⟨p,0,none⟩=some (X Y slots)∧wS.cell? ⟨p,2,none⟩=some (G (some ⟨g,0,none⟩) slots c2)∧wS.cell? ⟨q,0,none⟩=some (X Z src)∧wS.cell? ⟨q,1,none⟩=some (X Z dst)∧wS.cell? ⟨q,2,none⟩=some (X Y proto)∧wS.cell? ⟨q,3,none⟩=some (X Y sport)∧wS.cell? ⟨q,4,none⟩=some (X Y dport)∧wS.cell? ⟨g,j,none⟩=some (X Y y)) (first|with_reducible exact⟨d0,d1,d2,d3,d4,d5,d6,d7⟩|with_reducible exact⟨z0,z1,z2,z3,z4,z5,z6,z7⟩|with_reducible exact⟨y0,y1,y2,y3,y4,y5,y6,y7⟩|with_reducible exact(((PA3.far HG.out.1 (Nat.lt_succ_self q) HG.out.2 0 _).far HG.out.1 (Nat.lt_succ_self q) HG.out.2 1 _).far HG.out.1 (Nat.lt_succ_self q) HG.out.2 2 _).cells|fail)
   (first
   |(go_at_call 205;(with_reducible refine(CH.out _).mono ?_);rintro e w2 ⟨rfl,hb2⟩;have PA2:=PickAt.below HX.out.2.2.2.drew hb2;obtain⟨z0,z1,z2,z3,z4,z5,z6,z7⟩:=id PA2)
   |(go_at_call 105;have hbd:Below w1.heap.size w1 w2:=(bR w1.heap.size w1).drew.trans hb2;(with_reducible refine(CF2.out _ hbd).mono ?_);rintro e w3 ⟨rfl,hb3⟩;have PA3:=PA2.below hb3;obtain⟨y0,y1,y2,y3,y4,y5,y6,y7⟩:=id PA3;have hr3:=(HX.out.2.1.below hbd HX.out.2.1.lt).below hb3 (HX.out.2.1.below hbd HX.out.2.1.lt).lt;have f0:=hr3.frozen 0;have f1:=hr3.frozen 1;have f2:=hr3.frozen 2;have e0:=hr3.cell 0;have e1:=hr3.cell 1;have e2:=hr3.cell 2;simp only[ga,gz,gN] at e0 e1 e2))
  have hq13:=hb2.mono (B':=w1.heap.size) (nR _)
  have hB3:Below w.heap.size w w3:=HX.out.2.2.1.trans ((hbd.trans (hb3.mono hbd.size)).mono HX.out.2.2.1.size)
  obtain⟨w9,hw9⟩:∃w9,w9=((w3.setCell ⟨q + 1,0,none⟩ (X Y x)).setCell ⟨q + 1,1,none⟩ (X Z ad)).setCell ⟨q + 1,2,none⟩ (X Y wt):=⟨_,rfl⟩
  have hz:Blk w9 (q + 1) 34 #[X Y x,X Z ad,X Y wt]:=by
   rw[hw9]
   exact((hr3.set_ 0 (X Y x)).set_ 1 (X Z ad)).set_ 2 (X Y wt)
  have hB9:Below w.heap.size w w9:=by
   rw[hw9]
   have hle:w.heap.size≤q + 1:=by rw[HX.out.1];exact nS _
   exact((hB3.setCell (p:=⟨q + 1,0,none⟩) hle _).setCell (p:=⟨q + 1,1,none⟩) hle _).setCell (p:=⟨q + 1,2,none⟩) hle _
  rw[←hw9]
  have HB9:=jH (aI hz hB9)
  clear hw9 d0 d1 d2 d3 d4 d5 d6 d7 z0 z1 z2 z3 z4 z5 z6 z7 y0 y1 y2 y3 y4 y5 y6 y7 f0 f1 f2 e0 e1 e2 PA2 PA3 hr3 hB3 hb2 hb3 hbd hq13 hB9 hz CF2 CH HX
  go_wp2_with fail
  have hz:=HB9.out.1
  obtain⟨r0,r1,r2⟩:=hz.c3
  exact bodyPost_ret (v:=tU #[aG #[X Y x,X Z ad,X Y wt],.bool ok]) (by simp[results,results106,go_sem,r0,r1,r2]) rfl ⟨rfl,HB9.out.2⟩
end
section
open Go.RowKit Go.Maps
structure PkAt (w W:World)(q:Nat)(cv:Array Value)(t1:Nat)(tv:Array Value):Prop where
 cfg:Blk W q 61 cv
 plan:Blk W (q + 1) 116 #[X Y 0,X Y 0,X Y 0,G none 0 0,G none 0 0]
 tu:Blk W t1 39 tv
 low:Below w.heap.size w W
theorem PkAt.made {w W W':World}{q t1:Nat}{cv tv:Array Value}(h:PkAt w W q cv t1 tv)(hb:Below W.heap.size W W'):PkAt w W' q cv t1 tv:=
 ⟨h.cfg.below hb h.cfg.lt,h.plan.below hb h.plan.lt,h.tu.below hb h.tu.lt,h.low.trans (hb.mono h.low.size)⟩
theorem pkS_of {w:World}{t1 t2 t4 t5 s2 d2 bid gen now:Nat}{p2 sp2 dp2:Int}{A9:Option Addr}{n9 c9:Nat}(h1:Blk w t1 39 #[X Z s2,X Z d2,X Y p2,X Y sp2,X Y dp2])(h2:Blk w t2 47 #[X Z 0,X Z 0,X Y 0,X Y 0,X Y 0,X Y 0,X Y 0,X Y 0])(h4:Blk w t4 28 #[X Y 2,X Y 0,X Y bid,G A9 n9 c9])(h5:Blk w t5 47 #[X Z s2,X Z d2,X Y p2,X Y sp2,X Y dp2,X Y bid,X Y gen,X Y now]):w.cell? ⟨t1,0,none⟩=some (X Z s2)∧w.cell? ⟨t1,1,none⟩=some (X Z d2)∧w.cell? ⟨t1,2,none⟩=some (X Y p2)∧w.cell? ⟨t1,3,none⟩=some (X Y sp2)∧w.cell? ⟨t1,4,none⟩=some (X Y dp2)∧w.cell? ⟨t4,0,none⟩=some (X Y 2)∧w.cell? ⟨t4,1,none⟩=some (X Y 0)∧w.cell? ⟨t4,2,none⟩=some (X Y bid)∧w.cell? ⟨t4,3,none⟩=some (G A9 n9 c9)∧w.cell? ⟨t5,0,none⟩=some (X Z s2)∧w.cell? ⟨t5,1,none⟩=some (X Z d2)∧w.cell? ⟨t5,2,none⟩=some (X Y p2)∧w.cell? ⟨t5,3,none⟩=some (X Y sp2)∧w.cell? ⟨t5,4,none⟩=some (X Y dp2)∧w.cell? ⟨t5,5,none⟩=some (X Y bid)∧w.cell? ⟨t5,6,none⟩=some (X Y gen)∧w.cell? ⟨t5,7,none⟩=some (X Y now)∧w.cell? ⟨t2,5,none⟩=some (X Y 0):=
 ⟨h1.cell 0,h1.cell 1,h1.cell 2,h1.cell 3,h1.cell 4,h4.cell 0,h4.cell 1,h4.cell 2,h4.cell 3,h5.cell 0,h5.cell 1,h5.cell 2,h5.cell 3,h5.cell 4,h5.cell 5,h5.cell 6,h5.cell 7,h2.cell 5⟩
theorem FrQ.set_new {qp:Nat}{K:List TypeId}{M:List Nat}{base:Nat}{a w:World}(h:FrQ qp K M base a w){g:Nat}(hg:a.heap.size≤g)(hb:base≤a.heap.size)(i:Nat)(u:Value):FrQ qp K M base a (w.setCell ⟨g,i,none⟩ u):=by
 refine⟨⟨h.toFr.below.setCell (p:=⟨g,i,none⟩) (nT hb hg) u,fun g' t cs h0 h1=>(h.toFr.blk g' t cs h0 h1).far (fun e=>?_) u,fun b es c h0 h1=>?_⟩,fun g' cs h0 h1=>(h.que g' cs h0 h1).far (fun e=>?_) u⟩
 ·have h2:g' < a.heap.size:=h0.lt
  have h3:g'=g:=e
  omega
 ·have h2:b < a.heap.size:=(Array.getElem?_eq_some_iff.1 h0).1
  rw[Below.heap_setCell _ _ _ _ (fun e=>by have h3:b=g:=e;omega)]
  exact h.toFr.map b es c h0 h1
 ·have h2:g' < a.heap.size:=h0.lt
  have h3:g'=g:=e
  omega
theorem infoPlan:(Pg.info? 116).map (·.size)=some 5:=by kernel_rfl
theorem getRet_none:getRet none=tU #[aG #[X Z 0,X Z 0,X Y 0,X Y 0,X Y 0,X Y 0,X Y 0,X Y 0],bL false]:=rfl
theorem be_cells (b:Be):b.cells.toArray=#[X Y b.id,X Z b.addr,X Y b.weight]:=rfl
theorem pathpk_new (base tp tm tk qp qm most idle chp slots seg quota cfl gen now:Nat)(fm:List (Tu×Fl))(il:List It)(bl:List Be)(t:List Int)(made:Int)(A:Option Addr)(n c B:Nat)(l:List Nat)(k:Tu)(b:Be)(bid:Nat)(w:World)
  (hr:Reads w B 1 A n (bv l))(hB:B≤w.heap.size)(hn:n≤100000)(hnc:n≤c)(ha:AllB l)(hwhy:whyT l=0)(hk:tuT l=k)(hkt:TuOk k)(hend:endsL k l=false)
  (hF:FlowAt w base tp tm tk qp qm most idle fm il)(hC:Ch w chp slots bl t made)(hm:mayN slots=true)(hbase:base≤w.heap.size)(hg:mget fm k=none)(hlt:fm.length < most)(hpick:pickBe bl t slots k=(b,true))(hbid:b.id=(bid:Int))(hok:FlOk ⟨k,bid,gen,now⟩)(hnow:now≤1099511627776)
  (CW:∀W,Below w.heap.size w W→Calls Pg 107 #[G A n c,X Z 168364297,X Z b.addr,X Y 1500] W fun e w'=>(∃A' n' c',e=rT (tU #[G A' n' c',X Y 0]))∧Below W.heap.size W w'):
  Calls Pg 41 #[aG #[X Z 168364297,X Y slots,X Y cfl,X Y idle,X Y 1500,X Y seg,X Y quota,X Y 3],PT (some ⟨tp,0,none⟩),PT (some ⟨chp,0,none⟩),X Y gen,X Y now,G A n c] w fun e w'=>
   (∃A' n' c' g,e=rT (aG #[X Y 2,X Y 0,X Y bid,G A' n' c',G (some ⟨g,0,none⟩) 1 1])∧w.heap.size≤g∧Blk w' g 119 (recC 1 ⟨k,bid,gen,now⟩ 0 (G none 0 0)))∧(∃l',QSet il (keyT k) now l'∧FlowAt w' base tp tm tk qp qm most idle (mput fm k ⟨k,bid,gen,now⟩) l')∧FrQ qp KF [tm,tk,qm] base w w':=by
 have d1:decide ((now:Int) < 0)=false:=decide_eq_false (by omega)
 have d2:decide ((1099511627776:Int) < (now:Int))=false:=decide_eq_false (by omega)
 have d3:decide ((now:Int) > 1099511627776)=false:=decide_eq_false (by omega)
 obtain⟨q,hq⟩:∃q,q=w.heap.size:=⟨_,rfl⟩
 have hx0:=(Blk.new w 61 #[X Z 168364297,X Y slots,X Y cfl,X Y idle,X Y 1500,X Y seg,X Y quota,X Y 3]).alloc (cL #[X Y 0,X Y 0,X Y 0,G none 0 0,G none 0 0] 116)
 have hp0:=Blk.new (w.alloc (cL #[X Z 168364297,X Y slots,X Y cfl,X Y idle,X Y 1500,X Y seg,X Y quota,X Y 3] 61)) 116 #[X Y 0,X Y 0,X Y 0,G none 0 0,G none 0 0]
 have hb0:=((bR w.heap.size w).alloc (nR _) (cL #[X Z 168364297,X Y slots,X Y cfl,X Y idle,X Y 1500,X Y seg,X Y quota,X Y 3] 61)).alloc (by simp) (cL #[X Y 0,X Y 0,X Y 0,G none 0 0,G none 0 0] 116)
 rw[show (w.alloc (cL #[X Z 168364297,X Y slots,X Y cfl,X Y idle,X Y 1500,X Y seg,X Y quota,X Y 3] 61)).heap.size=q + 1 by rw[hq];simp] at hp0
 have HQ:=jH hq
 rw[←hq] at hx0
 have CP:=jH (ptuple_any A n c B l ((w.alloc (cL #[X Z 168364297,X Y slots,X Y cfl,X Y idle,X Y 1500,X Y seg,X Y quota,X Y 3] 61)).alloc (cL #[X Y 0,X Y 0,X Y 0,G none 0 0,G none 0 0] 116)) (hr.below (hb0.mono hB)) (nT hB hb0.size) (by omega) hnc ha)
 obtain⟨y0,y1,y2,y3,y4,y5,y6,y7,y8,y9,y10,hv,-,-⟩:=hdT_names l
 rw[hv,hwhy,hk] at CP
 obtain⟨s2,d2,p2,sp2,dp2⟩:=k
 unfold Tu.vals at CP
 dsimp only at CP
 have H:=jH (aI hr (aI hF (aI hC (aI hx0 (aI hp0 hb0)))))
 clear hr hF hC hx0 hp0 hb0 hv
 subst hq
 go_enter func41,ntmps41
 go_wp2_with fail
 refine CP.out.mono ?_
 rintro e w1 ⟨rfl,hb1⟩
 clear CP
 have K2:Hid (PkAt w ((w1.alloc (cL #[X Z s2,X Z d2,X Y p2,X Y sp2,X Y dp2] 39)).alloc (cL #[X Y y0,X Y y1,X Y y2,X Y y3,X Y y4,X Y y5,X Y y6,X Y y7,X Y y8,X Z y9,X Z y10] 132)) w.heap.size #[X Z 168364297,X Y slots,X Y cfl,X Y idle,X Y 1500,X Y seg,X Y quota,X Y 3] w1.heap.size #[X Z s2,X Z d2,X Y p2,X Y sp2,X Y dp2]):=by
  obtain⟨g1,g2,g3,g4,g5,g6⟩:=H.out
  have hb2:Below w1.heap.size w1 ((w1.alloc (cL #[X Z s2,X Z d2,X Y p2,X Y sp2,X Y dp2] 39)).alloc (cL #[X Y y0,X Y y1,X Y y2,X Y y3,X Y y4,X Y y5,X Y y6,X Y y7,X Y y8,X Z y9,X Z y10] 132)):=((bR w1.heap.size w1).alloc (nR _) _).alloc (by simp) _
  have hl:=(g6.trans (hb1.mono g6.size))
  exact⟨(g4.below hb1 g4.lt).below hb2 (g4.below hb1 g4.lt).lt,(g5.below hb1 g5.lt).below hb2 (g5.below hb1 g5.lt).lt,(Blk.new w1 _ _).alloc _,hl.trans (hb2.mono hl.size)⟩
 clear hb1
 go_wp2_with fail
 generalize ((w1.alloc (cL #[X Z s2,X Z d2,X Y p2,X Y sp2,X Y dp2] 39)).alloc (cL #[X Y y0,X Y y1,X Y y2,X Y y3,X Y y4,X Y y5,X Y y6,X Y y7,X Y y8,X Z y9,X Z y10] 132))=w2 at K2⊢
 generalize w1.heap.size=t1 at K2⊢
 have CG:=jH (flget_any base tp tm tk qp most idle fm ⟨s2,d2,p2,sp2,dp2⟩ hkt w2 (H.out.2.1.tab.made K2.out.low))
 rw[hg,getRet_none] at CG
 unfold tupV Tu.vals at CG
 dsimp only at CG
 refine CG.out.mono ?_
 rintro e w3 ⟨rfl,hb3⟩
 have hb34:=hb3.trans ((bR w3.heap.size w3).alloc (nR _) (cL #[X Z 0,X Z 0,X Y 0,X Y 0,X Y 0,X Y 0,X Y 0,X Y 0] 47) |>.mono hb3.size)
 have K4:(fun Vv:World=>Hid (PkAt w Vv w.heap.size #[X Z 168364297,X Y slots,X Y cfl,X Y idle,X Y 1500,X Y seg,X Y quota,X Y 3] t1 #[X Z s2,X Z d2,X Y p2,X Y sp2,X Y dp2]∧Blk Vv w3.heap.size 47 #[X Z 0,X Z 0,X Y 0,X Y 0,X Y 0,X Y 0,X Y 0,X Y 0])) (w3.alloc (cL #[X Z 0,X Z 0,X Y 0,X Y 0,X Y 0,X Y 0,X Y 0,X Y 0] 47)):=⟨K2.out.made hb34,Blk.new w3 _ _⟩
 clear hb3 hb34 CG K2
 go_wp2_with fail
 generalize (w3.alloc (cL #[X Z 0,X Z 0,X Y 0,X Y 0,X Y 0,X Y 0,X Y 0,X Y 0] 47))=w4 at K4⊢
 generalize w3.heap.size=t2 at K4⊢
 have CF:=jH (chfind_yes chp slots bl t made 0 w4 (H.out.2.2.1.below K4.out.1.low))
 rw[be_cells] at CF
 generalize findBe bl 0=fb at CF
 obtain⟨fb,fo⟩:=fb
 dsimp only at CF
 refine CF.out.mono ?_
 rintro e w5 ⟨rfl,hb5⟩
 have hb6:=hb5.trans ((bR w5.heap.size w5).alloc (nR _) (cL #[X Y fb.id,X Z fb.addr,X Y fb.weight] 34) |>.mono hb5.size)
 have K6:(fun Vv:World=>Hid (PkAt w Vv w.heap.size #[X Z 168364297,X Y slots,X Y cfl,X Y idle,X Y 1500,X Y seg,X Y quota,X Y 3] t1 #[X Z s2,X Z d2,X Y p2,X Y sp2,X Y dp2]∧Blk Vv t2 47 #[X Z 0,X Z 0,X Y 0,X Y 0,X Y 0,X Y 0,X Y 0,X Y 0]∧Blk Vv w5.heap.size 34 #[X Y fb.id,X Z fb.addr,X Y fb.weight]∧w.heap.size≤w5.heap.size)) (w5.alloc (cL #[X Y fb.id,X Z fb.addr,X Y fb.weight] 34)):=⟨K4.out.1.made hb6,K4.out.2.below hb6 K4.out.2.lt,Blk.new w5 _ _,nT K4.out.1.low.size hb5.size⟩
 clear hb5 hb6 CF K4
 obtain⟨u0,u1,u2,u3,u4⟩:=K6.out.1.tu.c5
 go_wp2_with fail
 clear u0 u1 u2 u3 u4
 generalize (w5.alloc (cL #[X Y fb.id,X Z fb.addr,X Y fb.weight] 34))=w6 at K6⊢
 generalize w5.heap.size=t3 at K6⊢
 have CK:=jH (chpick_yes chp slots bl t made ⟨s2,d2,p2,sp2,dp2⟩ hkt w6 (H.out.2.2.1.below K6.out.1.low) hm)
 rw[hpick,be_cells] at CK
 unfold Tu.vals at CK
 dsimp only at CK
 refine CK.out.mono ?_
 rintro e w7 ⟨rfl,hb7⟩
 have K7:Hid (PkAt w w7 w.heap.size #[X Z 168364297,X Y slots,X Y cfl,X Y idle,X Y 1500,X Y seg,X Y quota,X Y 3] t1 #[X Z s2,X Z d2,X Y p2,X Y sp2,X Y dp2]∧Blk w7 t2 47 #[X Z 0,X Z 0,X Y 0,X Y 0,X Y 0,X Y 0,X Y 0,X Y 0]∧Blk w7 t3 34 #[X Y fb.id,X Z fb.addr,X Y fb.weight]∧w.heap.size≤t3):=⟨K6.out.1.made hb7,K6.out.2.1.below hb7 K6.out.2.1.lt,K6.out.2.2.1.below hb7 K6.out.2.2.1.lt,K6.out.2.2.2⟩
 clear hb7 CK K6
 obtain⟨e0,e1,e2⟩:=K7.out.2.2.1.c3
 obtain⟨z0,z1,z2⟩:=K7.out.2.2.1.f3
 obtain⟨p0,-,-,-,p4⟩:=K7.out.1.cfg.c5
 have hn1:w.heap.size≠t3:=K7.out.1.cfg.ne_ K7.out.2.2.1 (by decide)
 have hn2:t3≠w.heap.size:=fun e=>hn1 e.symm
 go_wp2_with fail
 have K8:(fun Vv:World=>Hid (PkAt w Vv w.heap.size #[X Z 168364297,X Y slots,X Y cfl,X Y idle,X Y 1500,X Y seg,X Y quota,X Y 3] t1 #[X Z s2,X Z d2,X Y p2,X Y sp2,X Y dp2]∧Blk Vv t2 47 #[X Z 0,X Z 0,X Y 0,X Y 0,X Y 0,X Y 0,X Y 0,X Y 0]∧Blk Vv t3 34 #[X Y bid,X Z b.addr,X Y b.weight])) (((w7.setCell ⟨t3,0,none⟩ (X Y bid)).setCell ⟨t3,1,none⟩ (X Z b.addr)).setCell ⟨t3,2,none⟩ (X Y b.weight)):=by
  obtain⟨⟨g1,gp,gt,gl⟩,g2,g3,g4⟩:=K7.out
  exact⟨⟨((((g1).far (p:=⟨t3,0,none⟩) (g1.ne_ g3 (by decide)) _).far (p:=⟨t3,1,none⟩) (g1.ne_ g3 (by decide)) _).far (p:=⟨t3,2,none⟩) (g1.ne_ g3 (by decide)) _),((((gp).far (p:=⟨t3,0,none⟩) (gp.ne_ g3 (by decide)) _).far (p:=⟨t3,1,none⟩) (gp.ne_ g3 (by decide)) _).far (p:=⟨t3,2,none⟩) (gp.ne_ g3 (by decide)) _),((((gt).far (p:=⟨t3,0,none⟩) (gt.ne_ g3 (by decide)) _).far (p:=⟨t3,1,none⟩) (gt.ne_ g3 (by decide)) _).far (p:=⟨t3,2,none⟩) (gt.ne_ g3 (by decide)) _),((gl.setCell (p:=⟨t3,0,none⟩) g4 _).setCell (p:=⟨t3,1,none⟩) g4 _).setCell (p:=⟨t3,2,none⟩) g4 _⟩,((((g2).far (p:=⟨t3,0,none⟩) (g2.ne_ g3 (by decide)) _).far (p:=⟨t3,1,none⟩) (g2.ne_ g3 (by decide)) _).far (p:=⟨t3,2,none⟩) (g2.ne_ g3 (by decide)) _),((g3.set_ 0 _).set_ 1 _).set_ 2 _⟩
 generalize (((w7.setCell ⟨t3,0,none⟩ (X Y bid)).setCell ⟨t3,1,none⟩ (X Z b.addr)).setCell ⟨t3,2,none⟩ (X Y b.weight))=w8 at K8⊢
 clear e0 e1 e2 z0 z1 z2 p0 p4 K7 hn1 hn2
 refine(CW w8 K8.out.1.low).mono ?_
 rintro e w9 ⟨⟨A9,n9,c9,rfl⟩,hb9⟩
 have K9:Hid (PkAt w w9 w.heap.size #[X Z 168364297,X Y slots,X Y cfl,X Y idle,X Y 1500,X Y seg,X Y quota,X Y 3] t1 #[X Z s2,X Z d2,X Y p2,X Y sp2,X Y dp2]∧Blk w9 t2 47 #[X Z 0,X Z 0,X Y 0,X Y 0,X Y 0,X Y 0,X Y 0,X Y 0]∧Blk w9 t3 34 #[X Y bid,X Z b.addr,X Y b.weight]):=⟨K8.out.1.made hb9,K8.out.2.1.below hb9 K8.out.2.1.lt,K8.out.2.2.below hb9 K8.out.2.2.lt⟩
 clear hb9 K8
 have e0:=K9.out.2.2.c1
 obtain⟨u0,u1,u2,u3,u4⟩:=K9.out.1.tu.c5
 have OV:=K9.out.2.2.alloc (cL #[X Y 2,X Y 0,X Y bid,G A9 n9 c9] 28)
 have v0:=OV.c1
 have UV:=K9.out.1.tu.alloc (cL #[X Y 2,X Y 0,X Y bid,G A9 n9 c9] 28)
 obtain⟨x0,x1,x2,x3,x4⟩:=UV.c5
 clear OV UV
 go_wp2_with fail
 have K10:(fun Vv:World=>Hid (PkAt w Vv w.heap.size #[X Z 168364297,X Y slots,X Y cfl,X Y idle,X Y 1500,X Y seg,X Y quota,X Y 3] t1 #[X Z s2,X Z d2,X Y p2,X Y sp2,X Y dp2]∧Blk Vv t2 47 #[X Z 0,X Z 0,X Y 0,X Y 0,X Y 0,X Y 0,X Y 0,X Y 0]∧Blk Vv w9.heap.size 28 #[X Y 2,X Y 0,X Y bid,G A9 n9 c9]∧Blk Vv (w9.heap.size + 1) 47 #[X Z s2,X Z d2,X Y p2,X Y sp2,X Y dp2,X Y bid,X Y gen,X Y now])) ((w9.alloc (cL #[X Y 2,X Y 0,X Y bid,G A9 n9 c9] 28)).alloc (cL #[X Z s2,X Z d2,X Y p2,X Y sp2,X Y dp2,X Y bid,X Y gen,X Y now] 47)):=by
  have hb:Below w9.heap.size w9 ((w9.alloc (cL #[X Y 2,X Y 0,X Y bid,G A9 n9 c9] 28)).alloc (cL #[X Z s2,X Z d2,X Y p2,X Y sp2,X Y dp2,X Y bid,X Y gen,X Y now] 47)):=((bR w9.heap.size w9).alloc (nR _) _).alloc (by simp) _
  exact⟨K9.out.1.made hb,K9.out.2.1.below hb K9.out.2.1.lt,(Blk.new w9 _ _).alloc _,Blk.new_ (by simp)⟩
 generalize ((w9.alloc (cL #[X Y 2,X Y 0,X Y bid,G A9 n9 c9] 28)).alloc (cL #[X Z s2,X Z d2,X Y p2,X Y sp2,X Y dp2,X Y bid,X Y gen,X Y now] 47))=w10 at K10⊢
 generalize w9.heap.size=t4 at K10⊢
 clear e0 u0 u1 u2 u3 u4 v0 x0 x1 x2 x3 x4 K9
 obtain⟨t5,ht5⟩:∃t5,t5=t4 + 1:=⟨_,rfl⟩
 rw[←ht5] at K10⊢
 clear ht5
 have CE:=ends_any ⟨s2,d2,p2,sp2,dp2⟩ A n c B l w10.drew ((H.out.1.below (K10.out.1.low.mono hB)).drew) (nT hB K10.out.1.low.size) (by omega) hnc ha
 rw[hend] at CE
 unfold Tu.vals at CE
 dsimp only at CE
 have HE:=jH CE
 have CK:=jH (fun W hW=>keep_put base tp tm tk qp qm most idle fm il ⟨⟨s2,d2,p2,sp2,dp2⟩,bid,gen,now⟩ 0 hok W (H.out.2.1.fr (Fr.of_below [] [] hW hbase) (by simp) (by simp) (by simp) (by simp) (by simp) (by simp) (by simp)) hg hlt (nT hbase hW.size))
 unfold flV Fl.vals at CK
 dsimp only at CK
 clear CE
 have d0:=pkS_of K10.out.1.tu.drew K10.out.2.1.drew K10.out.2.2.1.drew K10.out.2.2.2.drew
 go_region_held3 (fun wS=>wS.cell? ⟨t1,0,none⟩=some (X Z s2)∧wS.cell? ⟨t1,1,none⟩=some (X Z d2)∧wS.cell? ⟨t1,2,none⟩=some (X Y p2)∧wS.cell? ⟨t1,3,none⟩=some (X Y sp2)∧wS.cell? ⟨t1,4,none⟩=some (X Y dp2)∧wS.cell? ⟨t4,0,none⟩=some (X Y 2)∧wS.cell? ⟨t4,1,none⟩=some (X Y 0)∧wS.cell? ⟨t4,2,none⟩=some (X Y bid)∧wS.cell? ⟨t4,3,none⟩=some (G A9 n9 c9)∧wS.cell? ⟨t5,0,none⟩=some (X Z s2)∧wS.cell? ⟨t5,1,none⟩=some (X Z d2)∧wS.cell? ⟨t5,2,none⟩=some (X Y p2)∧wS.cell? ⟨t5,3,none⟩=some (X Y sp2)∧wS.cell? ⟨t5,4,none⟩=some (X Y dp2)∧wS.cell? ⟨t5,5,none⟩=some (X Y bid)∧wS.cell? ⟨t5,6,none⟩=some (X Y gen)∧wS.cell? ⟨t5,7,none⟩=some (X Y now)∧wS.cell? ⟨t2,5,none⟩=some (X Y 0)) (first|with_reducible exact d0|with_reducible exact e0|with_reducible exact g0|with_reducible exact h1 _ _ _ _ _|fail)
  (first
   |(go_at_call 109;(with_reducible refine HE.out.mono ?_);rintro e w11 ⟨rfl,hb11⟩;have k1:=K10.out.1.tu.drew.below hb11 K10.out.1.tu.lt;have k2:=K10.out.2.1.drew.below hb11 K10.out.2.1.lt;have k4:=K10.out.2.2.1.drew.below hb11 K10.out.2.2.1.lt;have k5:=K10.out.2.2.2.drew.below hb11 K10.out.2.2.2.lt;have e0:=pkS_of k1 k2 k4 k5;have hl11:=K10.out.1.low.drew.trans (hb11.mono K10.out.1.low.size);have C2:=CK.out w11 hl11)
   |(go_at_call 108;(with_reducible refine C2.mono ?_);rintro e w12 ⟨⟨rb,rfl,hrb,hrec⟩,hfl,hf12⟩;have kp:=hf12.blk _ _ _ (K10.out.1.plan.drew.below hb11 K10.out.1.plan.lt) (by decide);have m1:=hf12.blk _ _ _ k1 (by decide);have m2:=hf12.blk _ _ _ k2 (by decide);have m4:=hf12.blk _ _ _ k4 (by decide);have m5:=hf12.blk _ _ _ k5 (by decide);have g0:=pkS_of m1 m2 m4 m5;have s0:=kp.cell 0;have s1:=kp.cell 1;have s2':=kp.cell 2;have s3:=kp.cell 3;have s4:=kp.cell 4;have z0:=kp.frozen 0;have z1:=kp.frozen 1;have z2:=kp.frozen 2;have z3:=kp.frozen 3;have z4:=kp.frozen 4;(simp only[ga,gz,gN] at s0 s1 s2' s3 s4);have h1:=fun v0 v1 v2 v3 v4=>pkS_of (((((m1.far (p:=⟨w.heap.size + 1,0,none⟩) (m1.ne_ kp (by decide)) v0).far (p:=⟨w.heap.size + 1,1,none⟩) (m1.ne_ kp (by decide)) v1).far (p:=⟨w.heap.size + 1,2,none⟩) (m1.ne_ kp (by decide)) v2).far (p:=⟨w.heap.size + 1,3,none⟩) (m1.ne_ kp (by decide)) v3).far (p:=⟨w.heap.size + 1,4,none⟩) (m1.ne_ kp (by decide)) v4) (((((m2.far (p:=⟨w.heap.size + 1,0,none⟩) (m2.ne_ kp (by decide)) v0).far (p:=⟨w.heap.size + 1,1,none⟩) (m2.ne_ kp (by decide)) v1).far (p:=⟨w.heap.size + 1,2,none⟩) (m2.ne_ kp (by decide)) v2).far (p:=⟨w.heap.size + 1,3,none⟩) (m2.ne_ kp (by decide)) v3).far (p:=⟨w.heap.size + 1,4,none⟩) (m2.ne_ kp (by decide)) v4) (((((m4.far (p:=⟨w.heap.size + 1,0,none⟩) (m4.ne_ kp (by decide)) v0).far (p:=⟨w.heap.size + 1,1,none⟩) (m4.ne_ kp (by decide)) v1).far (p:=⟨w.heap.size + 1,2,none⟩) (m4.ne_ kp (by decide)) v2).far (p:=⟨w.heap.size + 1,3,none⟩) (m4.ne_ kp (by decide)) v3).far (p:=⟨w.heap.size + 1,4,none⟩) (m4.ne_ kp (by decide)) v4) (((((m5.far (p:=⟨w.heap.size + 1,0,none⟩) (m5.ne_ kp (by decide)) v0).far (p:=⟨w.heap.size + 1,1,none⟩) (m5.ne_ kp (by decide)) v1).far (p:=⟨w.heap.size + 1,2,none⟩) (m5.ne_ kp (by decide)) v2).far (p:=⟨w.heap.size + 1,3,none⟩) (m5.ne_ kp (by decide)) v3).far (p:=⟨w.heap.size + 1,4,none⟩) (m5.ne_ kp (by decide)) v4)))
 have hq0:FrQ qp KF [tm,tk,qm] base w w12:=(((Fr.of_below [] [] hl11 hbase).q qp (by simp)).mono (by simp) (by simp)).trans hf12
 have hq1:=(((((hq0.set_new (nS _) hbase 0 (X Y 2)).set_new (nS _) hbase 1 (X Y 0)).set_new (nS _) hbase 2 (X Y bid)).set_new (nS _) hbase 3 (G A9 n9 c9)).set_new (nS _) hbase 4 (G (some ⟨rb,0,none⟩) 1 1))
 have hpl:=(((((kp.set_ 0 (X Y 2)).set_ 1 (X Y 0)).set_ 2 (X Y bid)).set_ 3 (G A9 n9 c9)).set_ 4 (G (some ⟨rb,0,none⟩) 1 1))
 have hrc:=(((((hrec.far (p:=⟨w.heap.size + 1,0,none⟩) (hrec.ne_ kp (by decide)) (X Y 2)).far (p:=⟨w.heap.size + 1,1,none⟩) (hrec.ne_ kp (by decide)) (X Y 0)).far (p:=⟨w.heap.size + 1,2,none⟩) (hrec.ne_ kp (by decide)) (X Y bid)).far (p:=⟨w.heap.size + 1,3,none⟩) (hrec.ne_ kp (by decide)) (G A9 n9 c9)).far (p:=⟨w.heap.size + 1,4,none⟩) (hrec.ne_ kp (by decide)) (G (some ⟨rb,0,none⟩) 1 1))
 have hfr:=((((((Fr.refl [116] [] base w12).set_ kp (by simp) (nT hbase (nS _)) 0 (X Y 2)).set_ (kp.set_ 0 (X Y 2)) (by simp) (nT hbase (nS _)) 1 (X Y 0)).set_ ((kp.set_ 0 (X Y 2)).set_ 1 (X Y 0)) (by simp) (nT hbase (nS _)) 2 (X Y bid)).set_ (((kp.set_ 0 (X Y 2)).set_ 1 (X Y 0)).set_ 2 (X Y bid)) (by simp) (nT hbase (nS _)) 3 (G A9 n9 c9)).set_ ((((kp.set_ 0 (X Y 2)).set_ 1 (X Y 0)).set_ 2 (X Y bid)).set_ 3 (G A9 n9 c9)) (by simp) (nT hbase (nS _)) 4 (G (some ⟨rb,0,none⟩) 1 1))
 have HF:Hid (_∧_∧_∧_):=⟨hpl,hrc,(match hfl with|⟨l',ha,hb⟩=>(⟨l',ha,hb.fr hfr (by decide) (by decide) (by decide) (by decide) (by simp) (by simp) (by simp)⟩:∃l',QSet il (keyT ⟨s2,d2,p2,sp2,dp2⟩) now l'∧FlowAt _ base tp tm tk qp qm most idle (mput fm ⟨s2,d2,p2,sp2,dp2⟩ ⟨⟨s2,d2,p2,sp2,dp2⟩,bid,gen,now⟩) l')),hq1⟩
 have hle:w.heap.size≤rb:=nT hl11.size hrb
 clear hq0 hq1 hpl hrc hfr hfl hf12 hrec kp m1 m2 m4 m5 g0 s0 s1 s2' s3 s4 z0 z1 z2 z3 z4 h1 C2 e0 k1 k2 k4 k5 hb11 hl11 d0 HE CK K10
 go_wp2_with fail
 refine bodyPost_ret (results_cell_row rfl _ _ (w.heap.size + 1) 116 #[X Y 2,X Y 0,X Y bid,G A9 n9 c9,G (some ⟨rb,0,none⟩) 1 1] (0,0) _ rfl HF.out.1 underlying116 rfl infoPlan) rfl ?_
 exact⟨⟨A9,n9,c9,rb,rfl,hle,HF.out.2.1⟩,HF.out.2.2.1,HF.out.2.2.2⟩
theorem pkS2_of {w:World}{t1 t2 t4 t5 s2 d2 fbe fgen fseen gen now:Nat}{p2 sp2 dp2:Int}{A9:Option Addr}{n9 c9:Nat}(h1:Blk w t1 39 #[X Z s2,X Z d2,X Y p2,X Y sp2,X Y dp2])(h2:Blk w t2 47 #[X Z s2,X Z d2,X Y p2,X Y sp2,X Y dp2,X Y fbe,X Y fgen,X Y fseen])(h4:Blk w t4 28 #[X Y 2,X Y 0,X Y fbe,G A9 n9 c9])(h5:Blk w t5 47 #[X Z s2,X Z d2,X Y p2,X Y sp2,X Y dp2,X Y fbe,X Y gen,X Y now]):w.cell? ⟨t1,0,none⟩=some (X Z s2)∧w.cell? ⟨t1,1,none⟩=some (X Z d2)∧w.cell? ⟨t1,2,none⟩=some (X Y p2)∧w.cell? ⟨t1,3,none⟩=some (X Y sp2)∧w.cell? ⟨t1,4,none⟩=some (X Y dp2)∧w.cell? ⟨t4,0,none⟩=some (X Y 2)∧w.cell? ⟨t4,1,none⟩=some (X Y 0)∧w.cell? ⟨t4,2,none⟩=some (X Y fbe)∧w.cell? ⟨t4,3,none⟩=some (G A9 n9 c9)∧w.cell? ⟨t5,0,none⟩=some (X Z s2)∧w.cell? ⟨t5,1,none⟩=some (X Z d2)∧w.cell? ⟨t5,2,none⟩=some (X Y p2)∧w.cell? ⟨t5,3,none⟩=some (X Y sp2)∧w.cell? ⟨t5,4,none⟩=some (X Y dp2)∧w.cell? ⟨t5,5,none⟩=some (X Y fbe)∧w.cell? ⟨t5,6,none⟩=some (X Y gen)∧w.cell? ⟨t5,7,none⟩=some (X Y now)∧w.cell? ⟨t2,5,none⟩=some (X Y fbe):=
 ⟨h1.cell 0,h1.cell 1,h1.cell 2,h1.cell 3,h1.cell 4,h4.cell 0,h4.cell 1,h4.cell 2,h4.cell 3,h5.cell 0,h5.cell 1,h5.cell 2,h5.cell 3,h5.cell 4,h5.cell 5,h5.cell 6,h5.cell 7,h2.cell 5⟩
theorem pathpk_known (base tp tm tk qp qm most idle chp slots seg quota cfl gen now:Nat)(fm:List (Tu×Fl))(il:List It)(bl:List Be)(t:List Int)(made:Int)(A:Option Addr)(n c B:Nat)(l:List Nat)(k:Tu)(b:Be)(f:Fl)(w:World)
  (hr:Reads w B 1 A n (bv l))(hB:B≤w.heap.size)(hn:n≤100000)(hnc:n≤c)(ha:AllB l)(hwhy:whyT l=0)(hk:tuT l=k)(hkt:TuOk k)(hend:endsL k l=false)
  (hF:FlowAt w base tp tm tk qp qm most idle fm il)(hC:Ch w chp slots bl t made)(hm:mayN slots=true)(hbase:base≤w.heap.size)(hg:mget fm k=some f)(hfk:f.k=k)(hfind:findBe bl (f.be:Int)=(b,true))(hbid:b.id=(f.be:Int))(hle:f.seen≤now)(hnow:now≤1099511627776)
  (CW:∀W,Below w.heap.size w W→Calls Pg 107 #[G A n c,X Z 168364297,X Z b.addr,X Y 1500] W fun e w'=>(∃A' n' c',e=rT (tU #[G A' n' c',X Y 0]))∧Below W.heap.size W w'):
  Calls Pg 41 #[aG #[X Z 168364297,X Y slots,X Y cfl,X Y idle,X Y 1500,X Y seg,X Y quota,X Y 3],PT (some ⟨tp,0,none⟩),PT (some ⟨chp,0,none⟩),X Y gen,X Y now,G A n c] w fun e w'=>
   (∃A' n' c',e=rT (aG #[X Y 2,X Y 0,X Y f.be,G A' n' c',G none 0 0]))∧(∃l',QSet il (keyT k) now l'∧FlowAt w' base tp tm tk qp qm most idle (mput fm k {f with seen:=now}) l')∧FrQ qp KF [tm,tk,qm] base w w':=by
 have d1:decide ((now:Int) < 0)=false:=decide_eq_false (by omega)
 have d2:decide ((1099511627776:Int) < (now:Int))=false:=decide_eq_false (by omega)
 have d3:decide ((now:Int) > 1099511627776)=false:=decide_eq_false (by omega)
 obtain⟨fk,fbe,fgen,fseen⟩:=f
 dsimp only at hfk hfind hbid hle⊢
 subst hfk
 obtain⟨q,hq⟩:∃q,q=w.heap.size:=⟨_,rfl⟩
 have hx0:=(Blk.new w 61 #[X Z 168364297,X Y slots,X Y cfl,X Y idle,X Y 1500,X Y seg,X Y quota,X Y 3]).alloc (cL #[X Y 0,X Y 0,X Y 0,G none 0 0,G none 0 0] 116)
 have hp0:=Blk.new (w.alloc (cL #[X Z 168364297,X Y slots,X Y cfl,X Y idle,X Y 1500,X Y seg,X Y quota,X Y 3] 61)) 116 #[X Y 0,X Y 0,X Y 0,G none 0 0,G none 0 0]
 have hb0:=((bR w.heap.size w).alloc (nR _) (cL #[X Z 168364297,X Y slots,X Y cfl,X Y idle,X Y 1500,X Y seg,X Y quota,X Y 3] 61)).alloc (by simp) (cL #[X Y 0,X Y 0,X Y 0,G none 0 0,G none 0 0] 116)
 rw[show (w.alloc (cL #[X Z 168364297,X Y slots,X Y cfl,X Y idle,X Y 1500,X Y seg,X Y quota,X Y 3] 61)).heap.size=q + 1 by rw[hq];simp] at hp0
 have HQ:=jH hq
 rw[←hq] at hx0
 have CP:=jH (ptuple_any A n c B l ((w.alloc (cL #[X Z 168364297,X Y slots,X Y cfl,X Y idle,X Y 1500,X Y seg,X Y quota,X Y 3] 61)).alloc (cL #[X Y 0,X Y 0,X Y 0,G none 0 0,G none 0 0] 116)) (hr.below (hb0.mono hB)) (nT hB hb0.size) (by omega) hnc ha)
 obtain⟨y0,y1,y2,y3,y4,y5,y6,y7,y8,y9,y10,hv,-,-⟩:=hdT_names l
 rw[hv,hwhy,hk] at CP
 obtain⟨s2,d2,p2,sp2,dp2⟩:=fk
 unfold Tu.vals at CP
 dsimp only at CP
 have H:=jH (aI hr (aI hF (aI hC (aI hx0 (aI hp0 hb0)))))
 clear hr hF hC hx0 hp0 hb0 hv
 subst hq
 go_enter func41,ntmps41
 go_wp2_with fail
 refine CP.out.mono ?_
 rintro e w1 ⟨rfl,hb1⟩
 clear CP
 have K2:Hid (PkAt w ((w1.alloc (cL #[X Z s2,X Z d2,X Y p2,X Y sp2,X Y dp2] 39)).alloc (cL #[X Y y0,X Y y1,X Y y2,X Y y3,X Y y4,X Y y5,X Y y6,X Y y7,X Y y8,X Z y9,X Z y10] 132)) w.heap.size #[X Z 168364297,X Y slots,X Y cfl,X Y idle,X Y 1500,X Y seg,X Y quota,X Y 3] w1.heap.size #[X Z s2,X Z d2,X Y p2,X Y sp2,X Y dp2]):=by
  obtain⟨g1,g2,g3,g4,g5,g6⟩:=H.out
  have hb2:Below w1.heap.size w1 ((w1.alloc (cL #[X Z s2,X Z d2,X Y p2,X Y sp2,X Y dp2] 39)).alloc (cL #[X Y y0,X Y y1,X Y y2,X Y y3,X Y y4,X Y y5,X Y y6,X Y y7,X Y y8,X Z y9,X Z y10] 132)):=((bR w1.heap.size w1).alloc (nR _) _).alloc (by simp) _
  have hl:=(g6.trans (hb1.mono g6.size))
  exact⟨(g4.below hb1 g4.lt).below hb2 (g4.below hb1 g4.lt).lt,(g5.below hb1 g5.lt).below hb2 (g5.below hb1 g5.lt).lt,(Blk.new w1 _ _).alloc _,hl.trans (hb2.mono hl.size)⟩
 clear hb1
 go_wp2_with fail
 generalize ((w1.alloc (cL #[X Z s2,X Z d2,X Y p2,X Y sp2,X Y dp2] 39)).alloc (cL #[X Y y0,X Y y1,X Y y2,X Y y3,X Y y4,X Y y5,X Y y6,X Y y7,X Y y8,X Z y9,X Z y10] 132))=w2 at K2⊢
 generalize w1.heap.size=t1 at K2⊢
 have CG:=jH (flget_any base tp tm tk qp most idle fm ⟨s2,d2,p2,sp2,dp2⟩ hkt w2 (H.out.2.1.tab.made K2.out.low))
 rw[hg] at CG
 unfold getRet flV Fl.vals at CG
 unfold tupV Tu.vals at CG
 dsimp only at CG
 refine CG.out.mono ?_
 rintro e w3 ⟨rfl,hb3⟩
 have hb34:=hb3.trans ((bR w3.heap.size w3).alloc (nR _) (cL #[X Z s2,X Z d2,X Y p2,X Y sp2,X Y dp2,X Y fbe,X Y fgen,X Y fseen] 47) |>.mono hb3.size)
 have K4:(fun Vv:World=>Hid (PkAt w Vv w.heap.size #[X Z 168364297,X Y slots,X Y cfl,X Y idle,X Y 1500,X Y seg,X Y quota,X Y 3] t1 #[X Z s2,X Z d2,X Y p2,X Y sp2,X Y dp2]∧Blk Vv w3.heap.size 47 #[X Z s2,X Z d2,X Y p2,X Y sp2,X Y dp2,X Y fbe,X Y fgen,X Y fseen])) (w3.alloc (cL #[X Z s2,X Z d2,X Y p2,X Y sp2,X Y dp2,X Y fbe,X Y fgen,X Y fseen] 47)):=⟨K2.out.made hb34,Blk.new w3 _ _⟩
 clear hb3 hb34 CG K2
 go_wp2_with fail
 generalize (w3.alloc (cL #[X Z s2,X Z d2,X Y p2,X Y sp2,X Y dp2,X Y fbe,X Y fgen,X Y fseen] 47))=w4 at K4⊢
 generalize w3.heap.size=t2 at K4⊢
 have CF:=jH (chfind_yes chp slots bl t made (fbe:Int) w4 (H.out.2.2.1.below K4.out.1.low))
 rw[hfind,be_cells] at CF
 dsimp only at CF
 rw[hbid] at CF
 refine CF.out.mono ?_
 rintro e w5 ⟨rfl,hb5⟩
 have hb6:=hb5.trans ((bR w5.heap.size w5).alloc (nR _) (cL #[X Y fbe,X Z b.addr,X Y b.weight] 34) |>.mono hb5.size)
 have K6:(fun Vv:World=>Hid (PkAt w Vv w.heap.size #[X Z 168364297,X Y slots,X Y cfl,X Y idle,X Y 1500,X Y seg,X Y quota,X Y 3] t1 #[X Z s2,X Z d2,X Y p2,X Y sp2,X Y dp2]∧Blk Vv t2 47 #[X Z s2,X Z d2,X Y p2,X Y sp2,X Y dp2,X Y fbe,X Y fgen,X Y fseen]∧Blk Vv w5.heap.size 34 #[X Y fbe,X Z b.addr,X Y b.weight]∧w.heap.size≤w5.heap.size)) (w5.alloc (cL #[X Y fbe,X Z b.addr,X Y b.weight] 34)):=⟨K4.out.1.made hb6,K4.out.2.below hb6 K4.out.2.lt,Blk.new w5 _ _,nT K4.out.1.low.size hb5.size⟩
 clear hb5 hb6 CF K4
 obtain⟨p0,-,-,-,p4⟩:=K6.out.1.cfg.c5
 obtain⟨-,e1⟩:=K6.out.2.2.1.c2
 go_wp2_with fail
 clear p0 p4 e1
 have K8:(fun Vv:World=>Hid (PkAt w Vv w.heap.size #[X Z 168364297,X Y slots,X Y cfl,X Y idle,X Y 1500,X Y seg,X Y quota,X Y 3] t1 #[X Z s2,X Z d2,X Y p2,X Y sp2,X Y dp2]∧Blk Vv t2 47 #[X Z s2,X Z d2,X Y p2,X Y sp2,X Y dp2,X Y fbe,X Y fgen,X Y fseen]∧Blk Vv w5.heap.size 34 #[X Y fbe,X Z b.addr,X Y b.weight])) (w5.alloc (cL #[X Y fbe,X Z b.addr,X Y b.weight] 34)):=⟨K6.out.1,K6.out.2.1,K6.out.2.2.1⟩
 generalize (w5.alloc (cL #[X Y fbe,X Z b.addr,X Y b.weight] 34))=w8 at K8⊢
 generalize w5.heap.size=t3 at K8⊢
 clear K6
 refine(CW w8 K8.out.1.low).mono ?_
 rintro e w9 ⟨⟨A9,n9,c9,rfl⟩,hb9⟩
 have K9:Hid (PkAt w w9 w.heap.size #[X Z 168364297,X Y slots,X Y cfl,X Y idle,X Y 1500,X Y seg,X Y quota,X Y 3] t1 #[X Z s2,X Z d2,X Y p2,X Y sp2,X Y dp2]∧Blk w9 t2 47 #[X Z s2,X Z d2,X Y p2,X Y sp2,X Y dp2,X Y fbe,X Y fgen,X Y fseen]∧Blk w9 t3 34 #[X Y fbe,X Z b.addr,X Y b.weight]):=⟨K8.out.1.made hb9,K8.out.2.1.below hb9 K8.out.2.1.lt,K8.out.2.2.below hb9 K8.out.2.2.lt⟩
 clear hb9 K8
 have e0:=K9.out.2.2.c1
 obtain⟨u0,u1,u2,u3,u4⟩:=K9.out.1.tu.c5
 have OV:=K9.out.2.2.alloc (cL #[X Y 2,X Y 0,X Y fbe,G A9 n9 c9] 28)
 have v0:=OV.c1
 have UV:=K9.out.1.tu.alloc (cL #[X Y 2,X Y 0,X Y fbe,G A9 n9 c9] 28)
 obtain⟨x0,x1,x2,x3,x4⟩:=UV.c5
 clear OV UV
 go_wp2_with fail
 have K10:(fun Vv:World=>Hid (PkAt w Vv w.heap.size #[X Z 168364297,X Y slots,X Y cfl,X Y idle,X Y 1500,X Y seg,X Y quota,X Y 3] t1 #[X Z s2,X Z d2,X Y p2,X Y sp2,X Y dp2]∧Blk Vv t2 47 #[X Z s2,X Z d2,X Y p2,X Y sp2,X Y dp2,X Y fbe,X Y fgen,X Y fseen]∧Blk Vv w9.heap.size 28 #[X Y 2,X Y 0,X Y fbe,G A9 n9 c9]∧Blk Vv (w9.heap.size + 1) 47 #[X Z s2,X Z d2,X Y p2,X Y sp2,X Y dp2,X Y fbe,X Y gen,X Y now])) ((w9.alloc (cL #[X Y 2,X Y 0,X Y fbe,G A9 n9 c9] 28)).alloc (cL #[X Z s2,X Z d2,X Y p2,X Y sp2,X Y dp2,X Y fbe,X Y gen,X Y now] 47)):=by
  have hb:Below w9.heap.size w9 ((w9.alloc (cL #[X Y 2,X Y 0,X Y fbe,G A9 n9 c9] 28)).alloc (cL #[X Z s2,X Z d2,X Y p2,X Y sp2,X Y dp2,X Y fbe,X Y gen,X Y now] 47)):=((bR w9.heap.size w9).alloc (nR _) _).alloc (by simp) _
  exact⟨K9.out.1.made hb,K9.out.2.1.below hb K9.out.2.1.lt,(Blk.new w9 _ _).alloc _,Blk.new_ (by simp)⟩
 generalize ((w9.alloc (cL #[X Y 2,X Y 0,X Y fbe,G A9 n9 c9] 28)).alloc (cL #[X Z s2,X Z d2,X Y p2,X Y sp2,X Y dp2,X Y fbe,X Y gen,X Y now] 47))=w10 at K10⊢
 generalize w9.heap.size=t4 at K10⊢
 clear e0 u0 u1 u2 u3 u4 v0 x0 x1 x2 x3 x4 K9
 obtain⟨t5,ht5⟩:∃t5,t5=t4 + 1:=⟨_,rfl⟩
 rw[←ht5] at K10⊢
 clear ht5
 have CE:=ends_any ⟨s2,d2,p2,sp2,dp2⟩ A n c B l w10.drew ((H.out.1.below (K10.out.1.low.mono hB)).drew) (nT hB K10.out.1.low.size) (by omega) hnc ha
 rw[hend] at CE
 unfold Tu.vals at CE
 dsimp only at CE
 have HE:=jH CE
 have CK:=jH (fun W hW=>keep_touch base tp tm tk qp qm most idle now fm il ⟨⟨s2,d2,p2,sp2,dp2⟩,fbe,fgen,fseen⟩ ⟨⟨s2,d2,p2,sp2,dp2⟩,fbe,gen,now⟩ rfl rfl rfl hnow hle W (H.out.2.1.fr (Fr.of_below [] [] hW hbase) (by simp) (by simp) (by simp) (by simp) (by simp) (by simp) (by simp)) hg (nT hbase hW.size))
 unfold flV Fl.vals at CK
 dsimp only at CK
 clear CE
 have d0:=pkS2_of K10.out.1.tu.drew K10.out.2.1.drew K10.out.2.2.1.drew K10.out.2.2.2.drew
 go_region_held3 (fun wS=>wS.cell? ⟨t1,0,none⟩=some (X Z s2)∧wS.cell? ⟨t1,1,none⟩=some (X Z d2)∧wS.cell? ⟨t1,2,none⟩=some (X Y p2)∧wS.cell? ⟨t1,3,none⟩=some (X Y sp2)∧wS.cell? ⟨t1,4,none⟩=some (X Y dp2)∧wS.cell? ⟨t4,0,none⟩=some (X Y 2)∧wS.cell? ⟨t4,1,none⟩=some (X Y 0)∧wS.cell? ⟨t4,2,none⟩=some (X Y fbe)∧wS.cell? ⟨t4,3,none⟩=some (G A9 n9 c9)∧wS.cell? ⟨t5,0,none⟩=some (X Z s2)∧wS.cell? ⟨t5,1,none⟩=some (X Z d2)∧wS.cell? ⟨t5,2,none⟩=some (X Y p2)∧wS.cell? ⟨t5,3,none⟩=some (X Y sp2)∧wS.cell? ⟨t5,4,none⟩=some (X Y dp2)∧wS.cell? ⟨t5,5,none⟩=some (X Y fbe)∧wS.cell? ⟨t5,6,none⟩=some (X Y gen)∧wS.cell? ⟨t5,7,none⟩=some (X Y now)∧wS.cell? ⟨t2,5,none⟩=some (X Y fbe)) (first|with_reducible exact d0|with_reducible exact e0|with_reducible exact g0|with_reducible exact h1 _ _ _ _ _|fail)
  (first
   |(go_at_call 109;(with_reducible refine HE.out.mono ?_);rintro e w11 ⟨rfl,hb11⟩;have k1:=K10.out.1.tu.drew.below hb11 K10.out.1.tu.lt;have k2:=K10.out.2.1.drew.below hb11 K10.out.2.1.lt;have k4:=K10.out.2.2.1.drew.below hb11 K10.out.2.2.1.lt;have k5:=K10.out.2.2.2.drew.below hb11 K10.out.2.2.2.lt;have e0:=pkS2_of k1 k2 k4 k5;have hl11:=K10.out.1.low.drew.trans (hb11.mono K10.out.1.low.size);have C2:=CK.out w11 hl11)
   |(go_at_call 108;(with_reducible refine C2.mono ?_);rintro e w12 ⟨rfl,hfl,hf12⟩;have kp:=hf12.blk _ _ _ (K10.out.1.plan.drew.below hb11 K10.out.1.plan.lt) (by decide);have m1:=hf12.blk _ _ _ k1 (by decide);have m2:=hf12.blk _ _ _ k2 (by decide);have m4:=hf12.blk _ _ _ k4 (by decide);have m5:=hf12.blk _ _ _ k5 (by decide);have g0:=pkS2_of m1 m2 m4 m5;have s0:=kp.cell 0;have s1:=kp.cell 1;have s2':=kp.cell 2;have s3:=kp.cell 3;have s4:=kp.cell 4;have z0:=kp.frozen 0;have z1:=kp.frozen 1;have z2:=kp.frozen 2;have z3:=kp.frozen 3;have z4:=kp.frozen 4;(simp only[ga,gz,gN] at s0 s1 s2' s3 s4);have h1:=fun v0 v1 v2 v3 v4=>pkS2_of (((((m1.far (p:=⟨w.heap.size + 1,0,none⟩) (m1.ne_ kp (by decide)) v0).far (p:=⟨w.heap.size + 1,1,none⟩) (m1.ne_ kp (by decide)) v1).far (p:=⟨w.heap.size + 1,2,none⟩) (m1.ne_ kp (by decide)) v2).far (p:=⟨w.heap.size + 1,3,none⟩) (m1.ne_ kp (by decide)) v3).far (p:=⟨w.heap.size + 1,4,none⟩) (m1.ne_ kp (by decide)) v4) (((((m2.far (p:=⟨w.heap.size + 1,0,none⟩) (m2.ne_ kp (by decide)) v0).far (p:=⟨w.heap.size + 1,1,none⟩) (m2.ne_ kp (by decide)) v1).far (p:=⟨w.heap.size + 1,2,none⟩) (m2.ne_ kp (by decide)) v2).far (p:=⟨w.heap.size + 1,3,none⟩) (m2.ne_ kp (by decide)) v3).far (p:=⟨w.heap.size + 1,4,none⟩) (m2.ne_ kp (by decide)) v4) (((((m4.far (p:=⟨w.heap.size + 1,0,none⟩) (m4.ne_ kp (by decide)) v0).far (p:=⟨w.heap.size + 1,1,none⟩) (m4.ne_ kp (by decide)) v1).far (p:=⟨w.heap.size + 1,2,none⟩) (m4.ne_ kp (by decide)) v2).far (p:=⟨w.heap.size + 1,3,none⟩) (m4.ne_ kp (by decide)) v3).far (p:=⟨w.heap.size + 1,4,none⟩) (m4.ne_ kp (by decide)) v4) (((((m5.far (p:=⟨w.heap.size + 1,0,none⟩) (m5.ne_ kp (by decide)) v0).far (p:=⟨w.heap.size + 1,1,none⟩) (m5.ne_ kp (by decide)) v1).far (p:=⟨w.heap.size + 1,2,none⟩) (m5.ne_ kp (by decide)) v2).far (p:=⟨w.heap.size + 1,3,none⟩) (m5.ne_ kp (by decide)) v3).far (p:=⟨w.heap.size + 1,4,none⟩) (m5.ne_ kp (by decide)) v4)))
 have hq0:FrQ qp KF [tm,tk,qm] base w w12:=(((Fr.of_below [] [] hl11 hbase).q qp (by simp)).mono (by simp) (by simp)).trans hf12
 have hq1:=(((((hq0.set_new (nS _) hbase 0 (X Y 2)).set_new (nS _) hbase 1 (X Y 0)).set_new (nS _) hbase 2 (X Y fbe)).set_new (nS _) hbase 3 (G A9 n9 c9)).set_new (nS _) hbase 4 (G none 0 0))
 have hpl:=(((((kp.set_ 0 (X Y 2)).set_ 1 (X Y 0)).set_ 2 (X Y fbe)).set_ 3 (G A9 n9 c9)).set_ 4 (G none 0 0))
 have hfr:=((((((Fr.refl [116] [] base w12).set_ kp (by simp) (nT hbase (nS _)) 0 (X Y 2)).set_ (kp.set_ 0 (X Y 2)) (by simp) (nT hbase (nS _)) 1 (X Y 0)).set_ ((kp.set_ 0 (X Y 2)).set_ 1 (X Y 0)) (by simp) (nT hbase (nS _)) 2 (X Y fbe)).set_ (((kp.set_ 0 (X Y 2)).set_ 1 (X Y 0)).set_ 2 (X Y fbe)) (by simp) (nT hbase (nS _)) 3 (G A9 n9 c9)).set_ ((((kp.set_ 0 (X Y 2)).set_ 1 (X Y 0)).set_ 2 (X Y fbe)).set_ 3 (G A9 n9 c9)) (by simp) (nT hbase (nS _)) 4 (G none 0 0))
 have HF:Hid (_∧_∧_):=⟨hpl,(match hfl with|⟨l',ha,hb⟩=>(⟨l',ha,hb.fr hfr (by decide) (by decide) (by decide) (by decide) (by simp) (by simp) (by simp)⟩:∃l',QSet il (keyT ⟨s2,d2,p2,sp2,dp2⟩) now l'∧FlowAt _ base tp tm tk qp qm most idle (mput fm ⟨s2,d2,p2,sp2,dp2⟩ ⟨⟨s2,d2,p2,sp2,dp2⟩,fbe,fgen,now⟩) l')),hq1⟩
 clear hq0 hq1 hpl hfr hfl hf12 kp m1 m2 m4 m5 g0 s0 s1 s2' s3 s4 z0 z1 z2 z3 z4 h1 C2 e0 k1 k2 k4 k5 hb11 hl11 d0 HE CK K10
 go_wp2_with fail
 refine bodyPost_ret (results_cell_row rfl _ _ (w.heap.size + 1) 116 #[X Y 2,X Y 0,X Y fbe,G A9 n9 c9,G none 0 0] (0,0) _ rfl HF.out.1 underlying116 rfl infoPlan) rfl ?_
 exact⟨⟨A9,n9,c9,rfl⟩,HF.out.2.1,HF.out.2.2⟩
def beV (b:Be):Value:=aG #[X Y b.id,X Z b.addr,X Y b.weight]
theorem cmpid_any (x y:Be)(w:World):Calls Pg 223 #[beV x,beV y] w fun e w'=>e=rT (X Y (cmpZ x.id y.id))∧Below w.heap.size w w':=by
 have hb2:=((bR w.heap.size w).alloc (nR _) (cL #[X Y x.id,X Z x.addr,X Y x.weight] 34)).alloc (by simp) (cL #[X Y y.id,X Z y.addr,X Y y.weight] 34)
 obtain⟨i1,a1,w1⟩:=x
 obtain⟨i2,a2,w2⟩:=y
 unfold beV
 dsimp only at *
 go_enter func223,ntmps223
 go_wp2_with fail
 refine(cmpi_s i1 i2 _).mono ?_
 rintro e w3 ⟨rfl,rfl⟩
 go_wp2
 go_ret
 exact⟨rfl,hb2⟩
theorem eqid_any (x y:Be)(w:World):Calls Pg 225 #[beV x,beV y] w fun e w'=>e=rT (bL (x.id==y.id))∧Below w.heap.size w w':=by
 have hb2:=((bR w.heap.size w).alloc (nR _) (cL #[X Y x.id,X Z x.addr,X Y x.weight] 34)).alloc (by simp) (cL #[X Y y.id,X Z y.addr,X Y y.weight] 34)
 obtain⟨i1,a1,w1⟩:=x
 obtain⟨i2,a2,w2⟩:=y
 unfold beV
 dsimp only at *
 go_enter func225,ntmps225
 go_wp2
 go_ret
 exact⟨rfl,hb2⟩
def Row2 (w:World)(base g c:Nat)(x y:Be):Prop:=w.ownsRow base 34 3 (G (some ⟨g,0,none⟩) 2 c) 2 (bks [x,y])
theorem Row2.cells {w:World}{base g c:Nat}{x y:Be}(h:Row2 w base g c x y):w.cell? ⟨g,0,none⟩=some (X Y x.id)∧w.cell? ⟨g,1,none⟩=some (X Z x.addr)∧w.cell? ⟨g,2,none⟩=some (X Y x.weight)∧w.cell? ⟨g,3,none⟩=some (X Y y.id)∧w.cell? ⟨g,4,none⟩=some (X Z y.addr)∧w.cell? ⟨g,5,none⟩=some (X Y y.weight):=
 ⟨h.cellAt 0 (by omega),h.cellAt 1 (by omega),h.cellAt 2 (by omega),h.cellAt 3 (by omega),h.cellAt 4 (by omega),h.cellAt 5 (by omega)⟩
theorem Row2.swap {w:World}{base g c:Nat}{x y:Be}(h:Row2 w base g c x y):Row2 ((((((w.setCell ⟨g,0,none⟩ (X Y y.id)).setCell ⟨g,1,none⟩ (X Z y.addr)).setCell ⟨g,2,none⟩ (X Y y.weight)).setCell ⟨g,3,none⟩ (X Y x.id)).setCell ⟨g,4,none⟩ (X Z x.addr)).setCell ⟨g,5,none⟩ (X Y x.weight)) base g c y x:=
 own_set3 (own_set3 h 0 y) 1 x
theorem Row2.swap' {w:World}{base g c:Nat}{x y:Be}(h:Row2 w base g c x y):Row2 ((((((w.setCell ⟨g,3,none⟩ (X Y x.id)).setCell ⟨g,4,none⟩ (X Z x.addr)).setCell ⟨g,5,none⟩ (X Y x.weight)).setCell ⟨g,0,none⟩ (X Y y.id)).setCell ⟨g,1,none⟩ (X Z y.addr)).setCell ⟨g,2,none⟩ (X Y y.weight)) base g c y x:=
 own_set3 (own_set3 h 1 x) 0 y
theorem Row2.lo {w:World}{base g c:Nat}{x y:Be}(h:Row2 w base g c x y):base≤g:=by
 rcases h.2 with⟨h',_⟩|⟨g',cap',cur,h',hb,_⟩
 ·injection h' with h1;cases h1
 ·injection h' with h1;injection h1 with h1;injection h1 with h1;subst h1;exact hb
theorem reverse2 (base g c:Nat)(x y:Be)(w:World)(h:Row2 w base g c x y):
  Calls Pg 221 #[G (some ⟨g,0,none⟩) 2 c] w fun e w'=>e=rT (tU #[])∧Row2 w' base g c y x∧Below base w w':=by
 obtain⟨c0,c1,c2,c3,c4,c5⟩:=h.cells
 have f0:=h.frozenAt 0
 have f1:=h.frozenAt 1
 have f2:=h.frozenAt 2
 have f3:=h.frozenAt 3
 have f4:=h.frozenAt 4
 have f5:=h.frozenAt 5
 have H:=jH (aI h h.lo)
 clear h
 go_enter func221,ntmps221
 go_wp2
 refine wp_loop_rounds 2 ?_
 rw[rounds_succ]
 go_wp2_with fail
 go_region
 have HR:Hid (Row2 ((((((w.setCell ⟨g,0,none⟩ (X Y y.id)).setCell ⟨g,1,none⟩ (X Z y.addr)).setCell ⟨g,2,none⟩ (X Y y.weight)).setCell ⟨g,3,none⟩ (X Y x.id)).setCell ⟨g,4,none⟩ (X Z x.addr)).setCell ⟨g,5,none⟩ (X Y x.weight)).drew base g c y x∧Below base w ((((((w.setCell ⟨g,0,none⟩ (X Y y.id)).setCell ⟨g,1,none⟩ (X Z y.addr)).setCell ⟨g,2,none⟩ (X Y y.weight)).setCell ⟨g,3,none⟩ (X Y x.id)).setCell ⟨g,4,none⟩ (X Z x.addr)).setCell ⟨g,5,none⟩ (X Y x.weight)).drew):=
  ⟨(Row2.swap H.out.1).drew,(((((((bR base w).setCell (p:=⟨g,0,none⟩) H.out.2 _).setCell (p:=⟨g,1,none⟩) H.out.2 _).setCell (p:=⟨g,2,none⟩) H.out.2 _).setCell (p:=⟨g,3,none⟩) H.out.2 _).setCell (p:=⟨g,4,none⟩) H.out.2 _).setCell (p:=⟨g,5,none⟩) H.out.2 _).drew⟩
 generalize (World.drew ((((((w.setCell ⟨g,0,none⟩ (X Y y.id)).setCell ⟨g,1,none⟩ (X Z y.addr)).setCell ⟨g,2,none⟩ (X Y y.weight)).setCell ⟨g,3,none⟩ (X Y x.id)).setCell ⟨g,4,none⟩ (X Z x.addr)).setCell ⟨g,5,none⟩ (X Y x.weight)))=w2 at HR⊢
 clear c0 c1 c2 c3 c4 c5 f0 f1 f2 f3 f4 f5
 go_wp2
 rw[rounds_succ]
 go_wp2
 go_end0
 exact⟨rfl,HR.out⟩
theorem drewN_own {w:World}{base n size:Nat}{e:TypeId}{v:Value}{xs:List Value}(h:w.ownsRow base e size v n xs)(k:Nat):(w.drewN k).ownsRow base e size v n xs:=h
theorem reverse1 (A:Option Addr)(c:Nat)(w:World):
  Calls Pg 221 #[G A 1 c] w fun e w'=>e=rT (tU #[])∧w'=w:=by
 go_enter func221,ntmps221
 go_wp2
 refine wp_loop_rounds 1 ?_
 rw[rounds_succ]
 go_wp2
 go_end0
 exact⟨rfl,rfl⟩
theorem insb1 (A:Option Addr)(c:Nat)(fv:Value)(w:World):
  Calls Pg 419 #[G A 1 c,X Y 0,X Y 1,fv] w fun e w'=>e=rT (tU #[])∧w'=w:=by
 go_enter func419,ntmps419
 go_wp2
 refine wp_loop_rounds 1 ?_
 rw[rounds_succ]
 go_wp2
 go_end0
 exact⟨rfl,rfl⟩
theorem stable1 (A:Option Addr)(c:Nat)(fv:Value)(w:World):
  Calls Pg 337 #[G A 1 c,X Y 1,fv] w fun e w'=>e=rT (tU #[])∧w'=w:=by
 go_enter func337,ntmps337
 go_wp2
 refine wp_loop_rounds 1 ?_
 rw[rounds_succ]
 go_wp2_with (go_at_call 419;refine(insb1 _ _ _ _).mono ?_;rintro e w' ⟨rfl,rfl⟩)
 refine wp_loop_rounds 1 ?_
 rw[rounds_succ]
 go_wp2
 go_end0
 exact⟨rfl,rfl⟩
theorem stabf1 (A:Option Addr)(c:Nat)(fv:Value)(w:World):
  Calls Pg 222 #[G A 1 c,fv] w fun e w'=>e=rT (tU #[])∧w'=w:=by
 go_enter func222,ntmps222
 go_wp2_with (go_at_call 337;refine(stable1 _ _ _ _).mono ?_;rintro e w' ⟨rfl,rfl⟩)
 go_end0
 exact⟨rfl,rfl⟩
theorem compact1 (A:Option Addr)(c:Nat)(fv:Value)(w:World):
  Calls Pg 224 #[G A 1 c,fv] w fun e w'=>e=rT (G A 1 c)∧w'=w:=by
 go_enter func224,ntmps224
 go_wp2
 go_ret
 exact⟨rfl,rfl⟩
theorem insb2 (base g c:Nat)(x y:Be)(hlt:x.id < y.id)(w:World)(h:Row2 w base g c y x)(hbase:base≤w.heap.size):
  Calls Pg 419 #[G (some ⟨g,0,none⟩) 2 c,X Y 0,X Y 2,.func (.func 223) #[] #[]] w fun e w'=>e=rT (tU #[])∧Row2 w' base g c x y∧Below base w w':=by
 have CC:=jH (fun W=>(cmpid_any x y W))
 have hz:cmpZ x.id y.id=-1:=by unfold cmpZ;rw[if_pos hlt]
 rw[hz] at CC
 have hd:Row2 w.drew base g c y x:=h.drew
 have d0:=hd.cells
 obtain⟨c0,c1,c2,c3,c4,c5⟩:=h.cells
 have f0:=h.frozenAt 0
 have hw1:IntKind.i64.wrap ((1:Int) - 1)=0:=by decide
 have hw0:IntKind.i64.wrap (0:Int)=0:=by decide
 have hi0:(0:Int)≤0:=by decide
 have hi2:(0:Int) < 2:=by decide
 have hi1:(1:Int) < 2:=by decide
 have H:=jH (aI h h.lo)
 unfold beV at CC
 clear h hz hlt
 go_enter func419,ntmps419
 go_wp2
 refine wp_loop_rounds 2 ?_
 rw[rounds_succ]
 go_wp2_with fail
 refine wp_loop_rounds 2 ?_
 rw[rounds_succ]
 go_wp2_with fail
 go_region_held3 (fun wS=>wS.cell? ⟨g,0,none⟩=some (X Y y.id)∧wS.cell? ⟨g,1,none⟩=some (X Z y.addr)∧wS.cell? ⟨g,2,none⟩=some (X Y y.weight)∧wS.cell? ⟨g,3,none⟩=some (X Y x.id)∧wS.cell? ⟨g,4,none⟩=some (X Z x.addr)∧wS.cell? ⟨g,5,none⟩=some (X Y x.weight)) (first|with_reducible exact d0|with_reducible exact e0|fail)
  (first
   |(go_at_call 223;(with_reducible refine(CC.out _).mono ?_);rintro e w3 ⟨rfl,hb3⟩;have R3:Row2 w3 base g c y x:=own_below (World.ownsRow.drew H.out.1) hb3;have e0:=R3.cells))
 obtain⟨z0,z1,z2,z3,z4,z5⟩:=e0
 have f0:=R3.frozenAt 0
 have f1:=R3.frozenAt 1
 have f2:=R3.frozenAt 2
 have f3:=R3.frozenAt 3
 have f4:=R3.frozenAt 4
 have f5:=R3.frozenAt 5
 have HB3:Hid (Row2 w3 base g c y x∧Below base w w3):=⟨R3,((bR base w).drew).trans (hb3.mono hbase)⟩
 clear hb3 R3 d0 hd c0 c1 c2 c3 c4 c5 CC
 go_wp2_with fail
 go_region
 have HR:(fun Vv:World=>Hid (Row2 Vv base g c x y∧Below base w Vv)) (World.drew ((((((w3.setCell ⟨g,3,none⟩ (X Y y.id)).setCell ⟨g,4,none⟩ (X Z y.addr)).setCell ⟨g,5,none⟩ (X Y y.weight)).setCell ⟨g,0,none⟩ (X Y x.id)).setCell ⟨g,1,none⟩ (X Z x.addr)).setCell ⟨g,2,none⟩ (X Y x.weight))):=
  ⟨(Row2.swap' HB3.out.1).drew,(((((((HB3.out.2).setCell (p:=⟨g,3,none⟩) H.out.2 _).setCell (p:=⟨g,4,none⟩) H.out.2 _).setCell (p:=⟨g,5,none⟩) H.out.2 _).setCell (p:=⟨g,0,none⟩) H.out.2 _).setCell (p:=⟨g,1,none⟩) H.out.2 _).setCell (p:=⟨g,2,none⟩) H.out.2 _).drew⟩
 generalize (World.drew ((((((w3.setCell ⟨g,3,none⟩ (X Y y.id)).setCell ⟨g,4,none⟩ (X Z y.addr)).setCell ⟨g,5,none⟩ (X Y y.weight)).setCell ⟨g,0,none⟩ (X Y x.id)).setCell ⟨g,1,none⟩ (X Z x.addr)).setCell ⟨g,2,none⟩ (X Y x.weight)))=w4 at HR⊢
 clear z0 z1 z2 z3 z4 z5 f0 f1 f2 f3 f4 f5
 go_wp2
 rw[rounds_succ]
 go_wp2_with fail
 go_quiet (fail)
 go_wp2_with fail
 rw[rounds_succ]
 go_wp2
 go_end0
 exact⟨rfl,drewN_own HR.out.1 _,HR.out.2.trans ⟨rfl,rfl,rfl,nR _,fun _ _=>rfl⟩⟩
theorem stable2 (base g c:Nat)(x y:Be)(hlt:x.id < y.id)(w:World)(h:Row2 w base g c y x)(hbase:base≤w.heap.size):
  Calls Pg 337 #[G (some ⟨g,0,none⟩) 2 c,X Y 2,.func (.func 223) #[] #[]] w fun e w'=>e=rT (tU #[])∧Row2 w' base g c x y∧Below base w w':=by
 have CI:=jH (insb2 base g c x y hlt w h hbase)
 clear h hlt
 go_enter func337,ntmps337
 go_wp2
 refine wp_loop_rounds 1 ?_
 rw[rounds_succ]
 go_wp2_with fail
 refine CI.out.mono ?_
 rintro e w1 ⟨rfl,h1,h2⟩
 have HR:=jH (aI h1 h2)
 clear h1 h2
 go_wp2
 refine wp_loop_rounds 1 ?_
 rw[rounds_succ]
 go_wp2
 go_end0
 exact⟨rfl,HR.out⟩
theorem stabf2 (base g c:Nat)(x y:Be)(hlt:x.id < y.id)(w:World)(h:Row2 w base g c y x)(hbase:base≤w.heap.size):
  Calls Pg 222 #[G (some ⟨g,0,none⟩) 2 c,.func (.func 223) #[] #[]] w fun e w'=>e=rT (tU #[])∧Row2 w' base g c x y∧Below base w w':=by
 have CI:=jH (stable2 base g c x y hlt w h hbase)
 clear h hlt
 go_enter func222,ntmps222
 go_wp2_with fail
 refine CI.out.mono ?_
 rintro e w1 ⟨rfl,h1,h2⟩
 have HR:=jH (aI h1 h2)
 clear h1 h2
 go_wp2
 go_end0
 exact⟨rfl,HR.out⟩
theorem compact2 (base g c:Nat)(x y:Be)(hlt:x.id < y.id)(w:World)(h:Row2 w base g c x y)(hbase:base≤w.heap.size):
  Calls Pg 224 #[G (some ⟨g,0,none⟩) 2 c,.func (.func 225) #[] #[]] w fun e w'=>e=rT (G (some ⟨g,0,none⟩) 2 c)∧Row2 w' base g c x y∧Below base w w':=by
 have CC:=jH (fun W=>(eqid_any y x W))
 have hz:(y.id==x.id)=false:=by rw[beq_eq_false_iff_ne];omega
 rw[hz] at CC
 have hd:Row2 w.drew base g c x y:=h.drew
 have d0:=hd.cells
 obtain⟨c0,c1,c2,c3,c4,c5⟩:=h.cells
 have hw1:IntKind.i64.wrap ((1:Int) - 1)=0:=by decide
 have hw0:IntKind.i64.wrap (0:Int)=0:=by decide
 have hi0:(0:Int)≤0:=by decide
 have hi2:(0:Int) < 2:=by decide
 have hi1:(1:Int) < 2:=by decide
 have H:=jH (aI h h.lo)
 unfold beV at CC
 clear h hz hlt
 go_enter func224,ntmps224
 go_wp2
 refine wp_loop_rounds 2 ?_
 rw[rounds_succ]
 go_wp2_with fail
 go_region_held3 (fun wS=>wS.cell? ⟨g,0,none⟩=some (X Y x.id)∧wS.cell? ⟨g,1,none⟩=some (X Z x.addr)∧wS.cell? ⟨g,2,none⟩=some (X Y x.weight)∧wS.cell? ⟨g,3,none⟩=some (X Y y.id)∧wS.cell? ⟨g,4,none⟩=some (X Z y.addr)∧wS.cell? ⟨g,5,none⟩=some (X Y y.weight)) (first|with_reducible exact d0|with_reducible exact e0|fail)
  (first
   |(go_at_call 225;(with_reducible refine(CC.out _).mono ?_);rintro e w3 ⟨rfl,hb3⟩;have R3:Row2 w3 base g c x y:=own_below (World.ownsRow.drew H.out.1) hb3;have e0:=R3.cells))
 have HB3:Hid (Row2 w3 base g c x y∧Below base w w3):=⟨R3,((bR base w).drew).trans (hb3.mono hbase)⟩
 clear hb3 R3 d0 hd c0 c1 c2 c3 c4 c5 CC e0
 go_wp2_with fail
 rw[rounds_succ]
 go_wp2
 go_ret
 exact⟨rfl,HB3.out⟩
theorem gsort2 (A:Option Addr)(c B:Nat)(x y:Be)(hlt:x.id < y.id)(w:World)(hr:Reads w B 3 A 2 (bks [x,y]))(hB:B≤w.heap.size)(hc:2≤c)(hnil:A=none→c=0):
  Calls Pg 118 #[G A 2 c] w fun e w'=>∃A' c',e=rT (G A' 2 c')∧w'.ownsRow w.heap.size 34 3 (G A' 2 c') 2 (bks [x,y])∧Below w.heap.size w w':=by
 have CC:=jH (clonebe_any A 2 c B [x,y] w hr hB (by omega) hnil)
 have hi:(2:Int)≤(c:Int):=by omega
 clear hr
 go_enter func118,ntmps118
 go_wp2_with fail
 refine CC.out.mono ?_
 rintro e w1 ⟨A1,c1,rfl,hown1,hb1⟩
 obtain⟨g,rfl⟩:∃g,A1=some ⟨g,0,none⟩:=by
  rcases hown1.2 with⟨h',h0⟩|⟨g',cap',cur,h',_⟩
  ·exact absurd h0 (by omega)
  ·injection h' with h1
   exact⟨g',h1⟩
 have C2:=jH (reverse2 w.heap.size g c1 x y w1 hown1)
 have HB:=jH hb1
 have hs1:=hb1.size
 clear hown1 hb1 CC
 go_wp2_with fail
 refine C2.out.mono ?_
 rintro e w2 ⟨rfl,hr2,hb2⟩
 have hs2:=hb2.size
 have C3:=jH (stabf2 w.heap.size g c1 x y hlt w2 hr2 (by omega))
 have HB2:Hid (Below w.heap.size w w2):=HB.out.trans hb2
 clear hr2 hb2 C2 HB
 go_wp2_with fail
 refine C3.out.mono ?_
 rintro e w3 ⟨rfl,hr3,hb3⟩
 have hs3:=hb3.size
 have C4:=jH (compact2 w.heap.size g c1 x y hlt w3 hr3 (by omega))
 have HB3:Hid (Below w.heap.size w w3):=HB2.out.trans hb3
 clear hr3 hb3 C3 HB2
 go_wp2_with fail
 refine C4.out.mono ?_
 rintro e w4 ⟨rfl,hr4,hb4⟩
 have HB4:Hid (w4.ownsRow w.heap.size 34 3 (G (some ⟨g,0,none⟩) 2 c1) 2 (bks [x,y])∧Below w.heap.size w w4):=⟨hr4,HB3.out.trans hb4⟩
 clear hr4 hb4 C4 HB3
 go_wp2
 go_ret
 exact⟨_,_,rfl,HB4.out⟩
theorem gsort1 (A:Option Addr)(c B:Nat)(x:Be)(w:World)(hr:Reads w B 3 A 1 (bks [x]))(hB:B≤w.heap.size)(hc:1≤c)(hnil:A=none→c=0):
  Calls Pg 118 #[G A 1 c] w fun e w'=>∃A' c',e=rT (G A' 1 c')∧w'.ownsRow w.heap.size 34 3 (G A' 1 c') 1 (bks [x])∧Below w.heap.size w w':=by
 have CC:=jH (clonebe_any A 1 c B [x] w hr hB (by omega) hnil)
 have hi:(1:Int)≤(c:Int):=by omega
 clear hr
 go_enter func118,ntmps118
 go_wp2_with fail
 refine CC.out.mono ?_
 rintro e w1 ⟨A1,c1,rfl,hown1,hb1⟩
 have HB:=jH (aI hown1 hb1)
 clear hown1 hb1 CC
 go_wp2_with (first
  |(go_at_call 221;refine(reverse1 _ _ _).mono ?_;rintro e w' ⟨rfl,rfl⟩)
  |(go_at_call 222;refine(stabf1 _ _ _ _).mono ?_;rintro e w' ⟨rfl,rfl⟩)
  |(go_at_call 224;refine(compact1 _ _ _ _).mono ?_;rintro e w' ⟨rfl,rfl⟩))
 go_ret
 exact⟨_,_,rfl,HB.out⟩
end
section
open Go.RowKit Go.Maps
structure BP where
 bp:Nat
 d:Nat
 ss:Nat
 tp:Nat
 chp:Nat
 dp:Nat
 lg:Nat
 sp:Nat
 sd:Nat
 sf:Nat
 mn:Nat
 ms:Nat
 f1:Nat
 f2:Nat
 tm:Nat
 tk:Nat
 qp:Nat
 qm:Nat
 dm:Nat
 qp2:Nat
 qm2:Nat
def BP.maps (p:BP):List Nat:=[p.mn,p.ms,p.sd,p.sf,p.tm,p.tk,p.qm,p.dm,p.qm2]
def KB:List TypeId:=KW++KI++[69,269]
structure BalAt (w:World)(base:Nat)(p:BP)(slots fl idle seg quota gen now ops s:Nat)(L:List Nat)(bl:List Be)(fms fm:List (Tu×Fl))(il:List It)(made:Int):Prop where
 lob:base≤p.bp
 loc:base≤p.chp
 hi:base≤w.heap.size
 blk:∃A c,Blk w p.bp 69 (balC slots fl idle seg quota p.d p.ss p.tp p.chp p.dp gen (G A bl.length c) now)∧w.ownsRow base 34 3 (G A bl.length c) bl.length (bks bl)
 sto:∃gs bls,StoreAt w base p.ss p.lg p.sp p.sd p.sf p.d p.mn p.ms seg quota ops p.f1 p.f2 s L gs bls fms∧bls.length≤16
 fl:FlowAt w base p.tp p.tm p.tk p.qp p.qm fl idle fm il
 ch:Ch w p.chp slots bl (tableF bl slots) made
 dr:Dr0 w base p.dp p.dm p.qp2 p.qm2
 qne:p.qp≠p.qp2
 maps:p.maps.Nodup
 may:MayBs bl.length bl
 ok:BesOk bl
 mayn:mayN slots=true
section
variable {w w':World}{base ss lg sp sd sf d mn ms size Q ops f1 f2 s:Nat}{L:List Nat}{gen:Nat}{bl:List Be}{fm:List (Tu×Fl)}
theorem StoreAt.fr {base':Nat}{K:List TypeId}{M:List Nat}(h:StoreAt w base ss lg sp sd sf d mn ms size Q ops f1 f2 s L gen bl fm)(hf:Fr K M base' w w')(h1:175∉K)(h2:192∉K)(h3:34∉K)(h4:111∉K)(h5:5∉K)(h6:102∉K)(h7:104∉K)(h8:265∉K)(h9:3∉K)(m1:sd∉M)(m2:sf∉M)(m3:mn∉M)(m4:ms∉M):StoreAt w' base ss lg sp sd sf d mn ms size Q ops f1 f2 s L gen bl fm:=
 {h with sto:=h.sto.fr hf h1,st:=h.st.fr hf h2 h3 m1 m2,dk:=h.dk.fr hf h4 h5 h6 h7 m3 m4,lg:=h.lg.fr hf h8 h9}
end
theorem BalAt.made {w w':World}{base:Nat}{p:BP}{slots fl idle seg quota gen now ops s:Nat}{L:List Nat}{bl:List Be}{fms fm:List (Tu×Fl)}{il:List It}{made:Int}(h:BalAt w base p slots fl idle seg quota gen now ops s L bl fms fm il made)(hb:Below w.heap.size w w'):BalAt w' base p slots fl idle seg quota gen now ops s L bl fms fm il made:=by
 obtain⟨A,c,k1,k2⟩:=h.blk
 obtain⟨gs,bls,k3,k4⟩:=h.sto
 exact{h with hi:=nT h.hi hb.size,blk:=⟨A,c,k1.below hb k1.lt,own_below k2 hb⟩,sto:=⟨gs,bls,k3.made hb,k4⟩,fl:=h.fl.fr (Fr.of_below [] [] hb h.hi) (by simp) (by simp) (by simp) (by simp) (by simp) (by simp) (by simp),ch:=h.ch.below hb,dr:=h.dr.made hb}
end
section
open Go.RowKit Go.Maps
variable {w w':World}{base:Nat}{p:BP}{slots fl idle seg quota gen now ops s:Nat}{L:List Nat}{bl:List Be}{fms fm:List (Tu×Fl)}{il:List It}{made:Int}
theorem BP.apart {p:BP}(h:p.maps.Nodup):p.tm∉[p.mn,p.sf]∧p.tk∉[p.mn,p.sf]∧p.qm∉[p.mn,p.sf]∧p.dm∉[p.mn,p.sf]∧p.qm2∉[p.mn,p.sf]∧p.sd∉[p.tm,p.tk,p.qm]∧p.sf∉[p.tm,p.tk,p.qm]∧p.mn∉[p.tm,p.tk,p.qm]∧p.ms∉[p.tm,p.tk,p.qm]∧p.dm∉[p.tm,p.tk,p.qm]∧p.qm2∉[p.tm,p.tk,p.qm]:=by
 simp only[BP.maps,List.nodup_cons,List.mem_cons,List.not_mem_nil,or_false,not_or] at h⊢
 obtain⟨⟨a1,a2,a3,a4,a5,a6,a7,a8⟩,⟨b1,b2,b3,b4,b5,b6,b7⟩,⟨c1,c2,c3,c4,c5,c6⟩,⟨d1,d2,d3,d4,d5⟩,⟨e1,e2,e3,e4⟩,⟨g1,g2,g3⟩,⟨i1,i2⟩,j1,-⟩:=h
 repeat' apply aI
 all_goals first
  |assumption
  |(refine fun e=>?_;have e:=e.symm;contradiction)
theorem BalAt.stored {ops' s':Nat}{L':List Nat}{fms':List (Tu×Fl)}{gs:Nat}{bls:List Be}(h:BalAt w base p slots fl idle seg quota gen now ops s L bl fms fm il made)(hs:StoreAt w' base p.ss p.lg p.sp p.sd p.sf p.d p.mn p.ms seg quota ops' p.f1 p.f2 s' L' gs bls fms')(hbl:bls.length≤16)(hf:Fr KW [p.mn,p.sf] base w w'):BalAt w' base p slots fl idle seg quota gen now ops' s' L' bl fms' fm il made:=by
 obtain⟨A,c,k1,k2⟩:=h.blk
 obtain⟨m1,m2,m3,m4,m5,-⟩:=BP.apart h.maps
 exact{h with hi:=nT h.hi hf.size,blk:=⟨A,c,hf.blk _ _ _ k1 (by decide),hf.own k2 (by decide)⟩,sto:=⟨gs,bls,hs,hbl⟩,fl:=h.fl.fr hf (by decide) (by decide) (by decide) (by decide) m3 m1 m2,ch:=h.ch.fr hf (by decide) (by decide) (by decide),dr:=h.dr.fr hf (by decide) (by decide) m5 m4}
theorem BalAt.flowed {fm':List (Tu×Fl)}{il':List It}(h:BalAt w base p slots fl idle seg quota gen now ops s L bl fms fm il made)(hs:FlowAt w' base p.tp p.tm p.tk p.qp p.qm fl idle fm' il')(hf:FrQ p.qp KI [p.tm,p.tk,p.qm] base w w'):BalAt w' base p slots fl idle seg quota gen now ops s L bl fms fm' il' made:=by
 obtain⟨A,c,k1,k2⟩:=h.blk
 obtain⟨gs,bls,k3,k4⟩:=h.sto
 obtain⟨-,-,-,-,-,m1,m2,m3,m4,m5,m6⟩:=BP.apart h.maps
 exact{h with hi:=nT h.hi hf.size,blk:=⟨A,c,hf.blk _ _ _ k1 (by decide),hf.own k2 (by decide)⟩,sto:=⟨gs,bls,k3.fr hf.toFr (by decide) (by decide) (by decide) (by decide) (by decide) (by decide) (by decide) (by decide) (by decide) m1 m2 m3 m4,k4⟩,fl:=hs,ch:=h.ch.fr hf.toFr (by decide) (by decide) (by decide),dr:=h.dr.frq hf (fun e=>h.qne e.symm) (by decide) m6 m5}
end
section
open Go.RowKit Go.Maps
variable {w:World}{base:Nat}{p:BP}{slots fl idle seg quota gen now ops s:Nat}{L:List Nat}{bl:List Be}{fms fm:List (Tu×Fl)}{il:List It}{made:Int}
theorem bal_del (h:BalAt w base p slots fl idle seg quota gen now ops s L bl fms fm il made)(k:Tu)(hk:TuOk k)(hmay:mayTu k=true)(hops:ops≤900000000000)(hfit:L.length=0∨L.length + 29≤seg)(hQ:L.length + 55≤quota)(hL:29 + L.length≤1048576):
  Calls Pg 42 #[PT (some ⟨p.bp,0,none⟩),.agg (recD k)] w fun e w'=>e=rT (tU #[])∧BalAt w' base p slots fl idle seg quota gen now (ops + 1) s (L++frameB 2 3 (tupB k)) bl (mdel fms k) fm il made∧Fr KW [p.mn,p.sf] base w w':=by
 obtain⟨A,c,k1,k2⟩:=h.blk
 obtain⟨gs,bls,k3,k4⟩:=h.sto
 refine(bwrite_any base p.bp slots fl idle seg quota p.d p.ss p.tp p.chp p.dp gen now (G A bl.length c) [p.mn,p.sf] (fun _ w'=>StoreAt w' base p.ss p.lg p.sp p.sd p.sf p.d p.mn p.ms seg quota (ops + 1) p.f1 p.f2 s (L++frameB 2 3 (tupB k)) gs bls (mdel fms k)) _ _ _ _ _ _ _ _ _ _ _ _ _ _ w k1 h.hi (fun W hW=>stodel_ok base p.ss p.lg p.sp p.sd p.sf p.d p.mn p.ms seg quota ops p.f1 p.f2 s L gs bls fms W (k3.made hW) k hk hmay (by omega) hops hfit hQ hL)).mono ?_
 rintro e w' ⟨rfl,⟨W,hW,hQ'⟩,hF⟩
 exact⟨rfl,h.stored hQ' k4 hF,hF⟩
theorem bal_put (h:BalAt w base p slots fl idle seg quota gen now ops s L bl fms fm il made)(f:Fl)(hf:FlOk f)(hlen:fms.length < 256)(hops:ops≤900000000000)(hfit:L.length=0∨L.length + 43≤seg)(hQ:L.length + 69≤quota)(hL:43 + L.length≤1048576):
  Calls Pg 42 #[PT (some ⟨p.bp,0,none⟩),.agg (recC 1 f 0 (G none 0 0))] w fun e w'=>e=rT (tU #[])∧BalAt w' base p slots fl idle seg quota gen now (ops + 1) s (L++frameB 1 3 (putB f)) bl (mput fms f.k f) fm il made∧Fr KW [p.mn,p.sf] base w w':=by
 obtain⟨A,c,k1,k2⟩:=h.blk
 obtain⟨gs,bls,k3,k4⟩:=h.sto
 refine(bwrite_any base p.bp slots fl idle seg quota p.d p.ss p.tp p.chp p.dp gen now (G A bl.length c) [p.mn,p.sf] (fun _ w'=>StoreAt w' base p.ss p.lg p.sp p.sd p.sf p.d p.mn p.ms seg quota (ops + 1) p.f1 p.f2 s (L++frameB 1 3 (putB f)) gs bls (mput fms f.k f)) _ _ _ _ _ _ _ _ _ _ _ _ _ _ w k1 h.hi (fun W hW=>stoput_ok base p.ss p.lg p.sp p.sd p.sf p.d p.mn p.ms seg quota ops p.f1 p.f2 s L gs bls fms W (k3.made hW) f hf hlen (by omega) hops hfit hQ hL)).mono ?_
 rintro e w' ⟨rfl,⟨W,hW,hQ'⟩,hF⟩
 exact⟨rfl,h.stored hQ' k4 hF,hF⟩
end
section
open Go.RowKit Go.Maps
theorem bstate_ok (base b0 bp slots fl idle seg quota d ss tp chp dp gen now:Nat)(A:Option Addr)(c:Nat)(bl:List Be)(dm qp2 qm2 tm tk qp most:Nat)(fm:List (Tu×Fl))(w:World)
  (hb:Blk w bp 69 (balC slots fl idle seg quota d ss tp chp dp gen (G A bl.length c) now))(ho:w.ownsRow b0 34 3 (G A bl.length c) bl.length (bks bl))(hd:Dr0 w base dp dm qp2 qm2)(hx:Blk w tp 150 #[X Y most,X Y idle,.map (some tm),.map (some tk),PT (some ⟨qp,0,none⟩)])(hmf:MapIs w tupV TuOk flV tm fm)(hbl:bl.length≤1000)(hfm:fm.length≤1000000):
  Calls Pg 9 #[PT (some ⟨bp,0,none⟩)] w fun e w'=>∃(A':Option Addr) (c':Nat) (v:Value) (fs:List Fl),e=rT (aG #[X Y gen,G A' bl.length c',G none 0 0,v])∧w'.ownsRow w.heap.size 34 3 (G A' bl.length c') bl.length (bks bl)∧fs.Perm (fm.map (·.2))∧w'.ownsRow w.heap.size 47 8 v fs.length (flvs fs)∧Below w.heap.size w w':=by
 have hb1:=(bR w.heap.size w).alloc (nR _) (cL #[X Y 0,G none 0 0,G none 0 0,G none 0 0] 44)
 have hr:=Blk.new w 44 #[X Y 0,G none 0 0,G none 0 0,G none 0 0]
 have hz:(w.alloc (cL #[X Y 0,G none 0 0,G none 0 0,G none 0 0] 44)).heap.size=w.heap.size + 1:=by simp
 have hbb:=hb.below hb1 hb.lt
 have ho1:=own_below ho hb1
 have hd1:=hd.made hb1
 have hx1:=hx.below hb1 hx.lt
 have hm1:=hmf.below hb1 hmf.lt
 have f18:=hb.cell 18
 simp only[balC,ga,gz,gN] at f18
 have g18:=hbb.cell 18
 simp only[balC,ga,gz,gN] at g18
 obtain⟨r,hrr⟩:∃r,r=w.heap.size:=⟨_,rfl⟩
 have HRR:=jH hrr
 rw[←hrr] at hr hz hb1
 clear hb ho hd hx hmf
 go_enter func9,ntmps9
 go_wp2_with fail
 rw[←hrr]
 generalize w.alloc (cL #[X Y 0,G none 0 0,G none 0 0,G none 0 0] 44)=w1 at *
 clear hrr
 have C1:=jH (clonebe_any A bl.length c w1.drew.heap.size bl w1.drew (Reads.of_own ho1).drew (nR _) (by omega) (fun e=>own_nilz ho1 e))
 have c0:w1.drew.cell? ⟨bp,10,none⟩=some (PT (some ⟨tp,0,none⟩))∧w1.drew.cell? ⟨bp,12,none⟩=some (PT (some ⟨dp,0,none⟩))∧w1.drew.cell? ⟨bp,13,none⟩=some (X Y gen)∧w1.drew.cell? ⟨bp,14,none⟩=some (G A bl.length c):=⟨by {have:=hbb.drew.cell 10;simpa [balC] using this},by {have:=hbb.drew.cell 12;simpa [balC] using this},by {have:=hbb.drew.cell 13;simpa [balC] using this},by {have:=hbb.drew.cell 14;simpa [balC] using this}⟩
 have H:=jH (aI hbb (aI hr (aI hb1 (aI hz (aI hd1 (aI hx1 hm1))))))
 clear hbb hr hb1 hz ho1 hd1 hx1 hm1 f18
 go_wp2_with fail
 go_region_held3 (fun wS=>wS.cell? ⟨bp,10,none⟩=some (PT (some ⟨tp,0,none⟩))∧wS.cell? ⟨bp,12,none⟩=some (PT (some ⟨dp,0,none⟩))∧wS.cell? ⟨bp,13,none⟩=some (X Y gen)∧wS.cell? ⟨bp,14,none⟩=some (G A bl.length c)) (first|with_reducible exact c0|with_reducible exact e0|with_reducible exact g0|with_reducible exact h0|with_reducible exact h1 _ _ _ _|fail)
  (first
   |(go_at_call 21;(with_reducible refine C1.out.mono ?_);rintro e w2 ⟨A1,c1,rfl,hown1,hb2⟩;have k2:=H.out.1.drew.below hb2 H.out.1.lt;have e0:w2.cell? ⟨bp,10,none⟩=some (PT (some ⟨tp,0,none⟩))∧w2.cell? ⟨bp,12,none⟩=some (PT (some ⟨dp,0,none⟩))∧w2.cell? ⟨bp,13,none⟩=some (X Y gen)∧w2.cell? ⟨bp,14,none⟩=some (G A bl.length c):=⟨by {have:=k2.cell 10;simpa [balC] using this},by {have:=k2.cell 12;simpa [balC] using this},by {have:=k2.cell 13;simpa [balC] using this},by {have:=k2.cell 14;simpa [balC] using this}⟩;have hd2:=H.out.2.2.2.2.1.made ((bR w1.heap.size w1).drew.trans hb2);have C2:=drall0 base dp dm qp2 qm2 w2 hd2)
   |(go_at_call 22;(with_reducible refine C2.mono ?_);rintro e w3 ⟨rfl,hb3⟩;have k3:=k2.below hb3 k2.lt;have g0:w3.cell? ⟨bp,10,none⟩=some (PT (some ⟨tp,0,none⟩))∧w3.cell? ⟨bp,12,none⟩=some (PT (some ⟨dp,0,none⟩))∧w3.cell? ⟨bp,13,none⟩=some (X Y gen)∧w3.cell? ⟨bp,14,none⟩=some (G A bl.length c):=⟨by {have:=k3.cell 10;simpa [balC] using this},by {have:=k3.cell 12;simpa [balC] using this},by {have:=k3.cell 13;simpa [balC] using this},by {have:=k3.cell 14;simpa [balC] using this}⟩;have hb13:=((bR w1.heap.size w1).drew.trans hb2).trans (hb3.mono hb2.size);have C3:=flall_any tp tm most idle tk qp fm hfm w3 (H.out.2.2.2.2.2.1.below hb13 H.out.2.2.2.2.2.1.lt) (H.out.2.2.2.2.2.2.below hb13 H.out.2.2.2.2.2.2.lt))
   |(go_at_call 23;(with_reducible refine C3.mono ?_);rintro e w4 ⟨v,fs,rfl,hp4,hown4,hb4⟩;obtain⟨A9,k9,rfl⟩:=own_slice hown4;have k4:=k3.below hb4 k3.lt;have h0:w4.cell? ⟨bp,10,none⟩=some (PT (some ⟨tp,0,none⟩))∧w4.cell? ⟨bp,12,none⟩=some (PT (some ⟨dp,0,none⟩))∧w4.cell? ⟨bp,13,none⟩=some (X Y gen)∧w4.cell? ⟨bp,14,none⟩=some (G A bl.length c):=⟨by {have:=k4.cell 10;simpa [balC] using this},by {have:=k4.cell 12;simpa [balC] using this},by {have:=k4.cell 13;simpa [balC] using this},by {have:=k4.cell 14;simpa [balC] using this}⟩;have hb14:=hb13.trans (hb4.mono hb13.size);have n2:=H.out.2.1.below hb14 H.out.2.1.lt;have s0:w4.cell? ⟨r,0,none⟩=some (X Y 0):=by {have:=n2.cell 0;simpa using this};have s1:w4.cell? ⟨r,1,none⟩=some (G none 0 0):=by {have:=n2.cell 1;simpa using this};have s2:w4.cell? ⟨r,2,none⟩=some (G none 0 0):=by {have:=n2.cell 2;simpa using this};have s3:w4.cell? ⟨r,3,none⟩=some (G none 0 0):=by {have:=n2.cell 3;simpa using this};have z0:=n2.frozen 0;have z1:=n2.frozen 1;have z2:=n2.frozen 2;have z3:=n2.frozen 3;have hn:=k4.ne_ n2 (by decide);have h1:∀v0 v1 v2 v3,((((w4.setCell ⟨r,0,none⟩ v0).setCell ⟨r,1,none⟩ v1).setCell ⟨r,2,none⟩ v2).setCell ⟨r,3,none⟩ v3).cell? ⟨bp,10,none⟩=some (PT (some ⟨tp,0,none⟩))∧((((w4.setCell ⟨r,0,none⟩ v0).setCell ⟨r,1,none⟩ v1).setCell ⟨r,2,none⟩ v2).setCell ⟨r,3,none⟩ v3).cell? ⟨bp,12,none⟩=some (PT (some ⟨dp,0,none⟩))∧((((w4.setCell ⟨r,0,none⟩ v0).setCell ⟨r,1,none⟩ v1).setCell ⟨r,2,none⟩ v2).setCell ⟨r,3,none⟩ v3).cell? ⟨bp,13,none⟩=some (X Y gen)∧((((w4.setCell ⟨r,0,none⟩ v0).setCell ⟨r,1,none⟩ v1).setCell ⟨r,2,none⟩ v2).setCell ⟨r,3,none⟩ v3).cell? ⟨bp,14,none⟩=some (G A bl.length c):=fun v0 v1 v2 v3=>⟨by {have:=((((k4.far (p:=⟨r,0,none⟩) hn v0).far (p:=⟨r,1,none⟩) hn v1).far (p:=⟨r,2,none⟩) hn v2).far (p:=⟨r,3,none⟩) hn v3).cell 10;simpa [balC] using this},by {have:=((((k4.far (p:=⟨r,0,none⟩) hn v0).far (p:=⟨r,1,none⟩) hn v1).far (p:=⟨r,2,none⟩) hn v2).far (p:=⟨r,3,none⟩) hn v3).cell 12;simpa [balC] using this},by {have:=((((k4.far (p:=⟨r,0,none⟩) hn v0).far (p:=⟨r,1,none⟩) hn v1).far (p:=⟨r,2,none⟩) hn v2).far (p:=⟨r,3,none⟩) hn v3).cell 13;simpa [balC] using this},by {have:=((((k4.far (p:=⟨r,0,none⟩) hn v0).far (p:=⟨r,1,none⟩) hn v1).far (p:=⟨r,2,none⟩) hn v2).far (p:=⟨r,3,none⟩) hn v3).cell 14;simpa [balC] using this}⟩))
 have hsz2:=hb2.size
 have hsz3:=hb3.size
 have hr0:=n2.set_ 0 (X Y gen)
 have hr1:=hr0.set_ 1 (G A1 bl.length c1)
 have hr2:=hr1.set_ 2 (G none 0 0)
 have hr3:=hr2.set_ 3 (G A9 fs.length k9)
 have hss:w1.drew.heap.size=w1.heap.size:=rfl
 have oB:=own_set_far (own_set_far (own_set_far (own_set_far (own_below (own_below hown1 hb3) hb4) n2 (by decide) 0 (X Y gen)) hr0 (by decide) 1 (G A1 bl.length c1)) hr1 (by decide) 2 (G none 0 0)) hr2 (by decide) 3 (G A9 fs.length k9)
 have oF:=own_set_far (own_set_far (own_set_far (own_set_far hown4 n2 (by decide) 0 (X Y gen)) hr0 (by decide) 1 (G A1 bl.length c1)) hr1 (by decide) 2 (G none 0 0)) hr2 (by decide) 3 (G A9 fs.length k9)
 have hle:r≤w1.heap.size:=by have:=H.out.2.2.2.1;omega
 have hbF:=(((((H.out.2.2.1).trans (hb14.mono hle)).setCell (p:=⟨r,0,none⟩) (nR _) (X Y gen)).setCell (p:=⟨r,1,none⟩) (nR _) (G A1 bl.length c1)).setCell (p:=⟨r,2,none⟩) (nR _) (G none 0 0)).setCell (p:=⟨r,3,none⟩) (nR _) (G A9 fs.length k9)
 have HF:=jH (aI hr3 (aI (own_base oB (base':=w.heap.size) (by have:=HRR.out;omega)) (aI (own_base oF (base':=w.heap.size) (by have:=HRR.out;omega)) (aI hp4 hbF))))
 clear hr0 hr1 hr2 hr3 oB oF hbF hown1 hown4 hb2 hb3 hb4 hb13 hb14 n2 k2 k3 k4 c0 e0 g0 h0 h1 s0 s1 s2 s3 z0 z1 z2 z3 hn hd2 C2 C3 C1
 go_wp2_with fail
 refine bodyPost_ret (results_cell_row rfl _ _ r 44 #[X Y gen,G A1 bl.length c1,G none 0 0,G A9 fs.length k9] (0,0) _ rfl HF.out.1 underlying44 rfl infoSt) rfl ?_
 exact⟨A1,c1,_,fs,rfl,HF.out.2.1,HF.out.2.2.2.1,HF.out.2.2.1,(HF.out.2.2.2.2.mono (Nat.le_of_eq HRR.out.symm))⟩
end
section
open Go.RowKit Go.Maps
variable {w:World}{base:Nat}{p:BP}{slots fl idle seg quota gen now ops s:Nat}{L:List Nat}{bl:List Be}{fms fm:List (Tu×Fl)}{il:List It}{made:Int}
theorem bal_choose (h:BalAt w base p slots fl idle seg quota gen now ops s L bl fms fm il made)(hmd:0≤made∧made≤1000000):
  Calls Pg 92 #[PT (some ⟨p.bp,0,none⟩)] w fun e w'=>e=rT (tU #[])∧BalAt w' base p slots fl idle seg quota gen now ops s L bl fms fm il (made + 1)∧Fr [269] [] base w w':=by
 obtain⟨A,c,k1,k2⟩:=h.blk
 obtain⟨gs,bls,k3,k4⟩:=h.sto
 refine(bchoose_ok base base p.bp slots fl idle seg quota p.d p.ss p.tp p.chp p.dp gen now A c bl bl (tableF bl slots) made p.dm p.qp2 p.qm2 w k1 k2 h.ch h.dr h.mayn h.ok h.may hmd).mono ?_
 rintro e w' ⟨rfl,hc,hbut⟩
 obtain⟨cs,hk⟩:=h.ch.blk
 have hf:=hbut.fr hk h.loc
 exact⟨rfl,{h with hi:=nT h.hi hf.size,blk:=⟨A,c,hf.blk _ _ _ k1 (by decide),hf.own k2 (by decide)⟩,sto:=⟨gs,bls,k3.fr hf (by decide) (by decide) (by decide) (by decide) (by decide) (by decide) (by decide) (by decide) (by decide) (by simp) (by simp) (by simp) (by simp),k4⟩,fl:=h.fl.fr hf (by decide) (by decide) (by decide) (by decide) (by simp) (by simp) (by simp),ch:=hc,dr:=h.dr.fr hf (by decide) (by decide) (by simp) (by simp)},hf⟩
theorem bal_state (h:BalAt w base p slots fl idle seg quota gen now ops s L bl fms fm il made):
  Calls Pg 9 #[PT (some ⟨p.bp,0,none⟩)] w fun e w'=>∃(A':Option Addr) (c':Nat) (v:Value) (fs:List Fl),e=rT (aG #[X Y gen,G A' bl.length c',G none 0 0,v])∧w'.ownsRow w.heap.size 34 3 (G A' bl.length c') bl.length (bks bl)∧fs.Perm (fm.map (·.2))∧w'.ownsRow w.heap.size 47 8 v fs.length (flvs fs)∧Below w.heap.size w w':=by
 obtain⟨A,c,k1,k2⟩:=h.blk
 exact bstate_ok base base p.bp slots fl idle seg quota p.d p.ss p.tp p.chp p.dp gen now A c bl p.dm p.qp2 p.qm2 p.tm p.tk p.qp fl fm w k1 k2 h.dr h.fl.tab.blk h.fl.tab.mf (by have:=h.may.1;omega) (by have:=h.fl.few;omega)
end
end Go.Proofs.YtgjnoccflmjheaaGreatDoor
