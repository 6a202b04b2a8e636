import Derived.Lib.AppendZerosOnto
import Derived.Shelf.Strings.OnBuilder
import Derived.Shelf.Strconv.Atoi
import Derived.Shelf.Strconv.Itoa4
import Derived.Shelf.LaysM
import Derived.Shelf.Strings.Cut
import Derived.Shelf.Strings.Split
import Derived.Test.YtgjnoccflmjheaaGreatDoorQ03
namespace Go.Proofs.YtgjnoccflmjheaaGreatDoor
set_option linter.unusedVariables false
set_option linter.unusedSimpArgs false
set_option maxHeartbeats 8000000
set_option maxRecDepth 100000
open Value renaming int→X,slice→G,pointer→PT,bool→bL,agg→aG,tuple→tU
open Obj renaming cells→cL
open Ending renaming returned→rT
open Go.Proofs.Tryz
open Go.Proofs.Tryz renaming prog→Pg
open RowKit.Below renaming refl→bR
open IntKind renaming i64→Y,u32→Z
open List renaming getElem?_toArray→ga,getElem?_cons_zero→gz,getElem?_cons_succ→gN
open Lib renaming hid→jH
open Nat renaming le_refl→nR,le_trans→nT,le_succ→nS
open And renaming intro→aI
section
open Go.RowKit Go.Maps
theorem infoOut:(Pg.info? 28).map (·.size)=some 4:=by kernel_rfl
theorem balS_of {w:World}{bp slots fl idle seg quota d ss tp chp dp gen now:Nat}{bs:Value}{t:TypeId}(hb:Blk w bp t (balC slots fl idle seg quota d ss tp chp dp gen bs now)):w.cell? ⟨bp,0,none⟩=some (X Z 168364297)∧w.cell? ⟨bp,1,none⟩=some (X Y slots)∧w.cell? ⟨bp,2,none⟩=some (X Y fl)∧w.cell? ⟨bp,3,none⟩=some (X Y idle)∧w.cell? ⟨bp,4,none⟩=some (X Y 1500)∧w.cell? ⟨bp,5,none⟩=some (X Y seg)∧w.cell? ⟨bp,6,none⟩=some (X Y quota)∧w.cell? ⟨bp,7,none⟩=some (X Y 3)∧w.cell? ⟨bp,10,none⟩=some (PT (some ⟨tp,0,none⟩))∧w.cell? ⟨bp,11,none⟩=some (PT (some ⟨chp,0,none⟩))∧w.cell? ⟨bp,13,none⟩=some (X Y gen)∧w.cell? ⟨bp,15,none⟩=some (X Y now):=
 ⟨by have:=hb.cell 0;simpa [balC] using this,by have:=hb.cell 1;simpa [balC] using this,by have:=hb.cell 2;simpa [balC] using this,by have:=hb.cell 3;simpa [balC] using this,by have:=hb.cell 4;simpa [balC] using this,by have:=hb.cell 5;simpa [balC] using this,by have:=hb.cell 6;simpa [balC] using this,by have:=hb.cell 7;simpa [balC] using this,by have:=hb.cell 10;simpa [balC] using this,by have:=hb.cell 11;simpa [balC] using this,by have:=hb.cell 13;simpa [balC] using this,by have:=hb.cell 15;simpa [balC] using this⟩
def KP:List TypeId:=KB++[175,34,265,3,150,140]
theorem BalAt.fr {w w':World}{base:Nat}{p:BP}{slots fl idle seg quota gen now ops s:Nat}{L:List Nat}{bl:List Be}{fms fm:List (Tu×Fl)}{il:List It}{made:Int}{K:List TypeId}(h:BalAt w base p slots fl idle seg quota gen now ops s L bl fms fm il made)(hf:Fr K [] base w w')(hK:∀t∈K,t∉KP):BalAt w' base p slots fl idle seg quota gen now ops s L bl fms fm il made:=by
 obtain⟨A,c,k1,k2⟩:=h.blk
 obtain⟨gs,bls,k3,k4⟩:=h.sto
 have kk:∀t∈KP,t∉K:=fun t h1 h2=>hK t h2 h1
 exact{h with hi:=nT h.hi hf.size,blk:=⟨A,c,hf.blk _ _ _ k1 (kk _ (by decide)),hf.own k2 (kk _ (by decide))⟩,sto:=⟨gs,bls,k3.fr hf (kk _ (by decide)) (kk _ (by decide)) (kk _ (by decide)) (kk _ (by decide)) (kk _ (by decide)) (kk _ (by decide)) (kk _ (by decide)) (kk _ (by decide)) (kk _ (by decide)) (by simp) (by simp) (by simp) (by simp),k4⟩,fl:=h.fl.fr hf (kk _ (by decide)) (kk _ (by decide)) (kk _ (by decide)) (kk _ (by decide)) (by simp) (by simp) (by simp),ch:=h.ch.fr hf (kk _ (by decide)) (kk _ (by decide)) (kk _ (by decide)),dr:=h.dr.fr hf (kk _ (by decide)) (kk _ (by decide)) (by simp) (by simp)}
theorem Fr.set_new {K:List TypeId}{M:List Nat}{base:Nat}{a w:World}(h:Fr K M base a w){g:Nat}(hg:a.heap.size≤g)(hb:base≤a.heap.size)(i:Nat)(u:Value):Fr K M base a (w.setCell ⟨g,i,none⟩ u):=by
 refine⟨h.below.setCell (p:=⟨g,i,none⟩) (nT hb hg) u,fun g' t cs h0 h1=>(h.blk g' t cs h0 h1).far (fun e=>?_) u,fun b es c h0 h1=>?_⟩
 ·have h2:g' < a.heap.size:=h0.lt
  have h3:g'=g:=e
  omega
 ·have h2:b < a.heap.size:=(Array.getElem?_eq_some_iff.1 h0).1
  rw[Below.heap_setCell _ _ _ _ (fun e=>by have h3:b=g:=e;omega)]
  exact h.map b es c h0 h1
theorem bpacket_one {w:World}{base:Nat}{p:BP}{slots fl idle seg quota gen now ops s:Nat}{L:List Nat}{bl:List Be}{fms fm:List (Tu×Fl)}{il:List It}{made:Int}(h:BalAt w base p slots fl idle seg quota gen now ops s L bl fms fm il made)(fm':List (Tu×Fl))(k:Tu)(bid:Nat)(f:Fl)(A:Option Addr)(n c:Nat)(hf:FlOk f)(hlen:fms.length < 256)(hops:ops≤900000000000)(hfit:L.length=0∨L.length + 43≤seg)(hQ:L.length + 69≤quota)(hL:43 + L.length≤1048576)
  (CP:∀W,Below w.heap.size w W→Calls Pg 41 #[aG #[X Z 168364297,X Y slots,X Y fl,X Y idle,X Y 1500,X Y seg,X Y quota,X Y 3],PT (some ⟨p.tp,0,none⟩),PT (some ⟨p.chp,0,none⟩),X Y gen,X Y now,G A n c] W fun e w'=>(∃A' n' c' g,e=rT (aG #[X Y 2,X Y 0,X Y bid,G A' n' c',G (some ⟨g,0,none⟩) 1 1])∧Blk w' g 119 (recC 1 f 0 (G none 0 0)))∧(∃l',QSet il (keyT k) now l'∧FlowAt w' base p.tp p.tm p.tk p.qp p.qm fl idle fm' l')∧FrQ p.qp KF [p.tm,p.tk,p.qm] base W w'):
  Calls Pg 18 #[PT (some ⟨p.bp,0,none⟩),G A n c] w fun e w'=>(∃A' n' c',e=rT (aG #[X Y 2,X Y 0,X Y bid,G A' n' c']))∧(∃l',QSet il (keyT k) now l'∧BalAt w' base p slots fl idle seg quota gen now (ops + 1) s (L++frameB 1 3 (putB f)) bl (mput fms f.k f) fm' l' made)∧Fr KB p.maps base w w':=by
 obtain⟨A0,c0,k1,k2⟩:=h.blk
 obtain⟨h0,hh0⟩:∃h0,h0=w.heap.size:=⟨_,rfl⟩
 have hb1:=(bR w.heap.size w).alloc (nR _) (cL #[X Y 0,X Y 0,X Y 0,G none 0 0] 28)
 have x1:=Blk.new w 28 #[X Y 0,X Y 0,X Y 0,G none 0 0]
 rw[←hh0] at x1
 have hbase:=h.hi
 have g1:=h.made hb1
 have b1:=k1.below hb1 k1.lt
 have f1:Fr [] [] base w (w.alloc (cL #[X Y 0,X Y 0,X Y 0,G none 0 0] 28)):=Fr.of_below [] [] hb1 hbase
 have C1:=fun W hW=>CP W (hb1.trans hW)
 have hz1:(w.alloc (cL #[X Y 0,X Y 0,X Y 0,G none 0 0] 28)).heap.size=w.heap.size + 1:=by simp
 clear CP k2
 have hbs:=jH hbase
 go_enter func18,ntmps18
 go_wp2_with fail
 rw[←hh0] at hb1 C1 hbase hz1⊢
 generalize w.alloc (cL #[X Y 0,X Y 0,X Y 0,G none 0 0] 28)=w1 at *
 have hle:h0≤w1.heap.size:=by omega
 have hbB:Below w1.heap.size w1 (w1.alloc (cL #[X Y 0,X Y 0,X Y 0,G none 0 0,G none 0 0] 116)).drew:=((bR _ _).alloc (nR _) _).drew
 have CA:=jH (C1 w1.drew ((bR _ _).drew.mono hle))
 have CB:=jH (C1 (w1.alloc (cL #[X Y 0,X Y 0,X Y 0,G none 0 0,G none 0 0] 116)).drew (hbB.mono hle))
 have c0':=balS_of b1.drew
 have bB:=b1.below hbB b1.lt
 have a0:=balS_of bB
 have nA:Blk (w1.alloc (cL #[X Y 0,X Y 0,X Y 0,G none 0 0,G none 0 0] 116)).drew w1.heap.size 116 #[X Y 0,X Y 0,X Y 0,G none 0 0,G none 0 0]:=(Blk.new w1 _ _).drew
 have HH:=jH (aI g1 (aI f1 (aI x1 (aI hle (aI hh0 hbase)))))
 have HB:=jH hbB
 have B1:=jH b1
 have B2:=jH bB
 clear g1 f1 hb1 h k1 hz1 hbB C1 b1 bB hle hbase x1 hh0
 go_region_held3 (fun wS=>wS.cell? ⟨p.bp,0,none⟩=some (X Z 168364297)∧wS.cell? ⟨p.bp,1,none⟩=some (X Y slots)∧wS.cell? ⟨p.bp,2,none⟩=some (X Y fl)∧wS.cell? ⟨p.bp,3,none⟩=some (X Y idle)∧wS.cell? ⟨p.bp,4,none⟩=some (X Y 1500)∧wS.cell? ⟨p.bp,5,none⟩=some (X Y seg)∧wS.cell? ⟨p.bp,6,none⟩=some (X Y quota)∧wS.cell? ⟨p.bp,7,none⟩=some (X Y 3)∧wS.cell? ⟨p.bp,10,none⟩=some (PT (some ⟨p.tp,0,none⟩))∧wS.cell? ⟨p.bp,11,none⟩=some (PT (some ⟨p.chp,0,none⟩))∧wS.cell? ⟨p.bp,13,none⟩=some (X Y gen)∧wS.cell? ⟨p.bp,15,none⟩=some (X Y now)) (first|with_reducible exact c0'|with_reducible exact a0|with_reducible exact e0|with_reducible exact h1 _|with_reducible exact h2 _ _ _ _ _|fail)
  (first
   |(go_at_call 41;(with_reducible refine CA.out.mono ?_);rintro e w2 ⟨⟨A9,n9,c9,g,rfl,hrec⟩,⟨l',hq,hfl⟩,hfq⟩;have k1:=hfq.blk _ _ _ B1.out.drew (by decide);have e0:=balS_of k1;have h1:=fun o=>balS_of (k1.alloc o))
   |(go_at_call 41;(with_reducible refine CB.out.mono ?_);rintro e w2 ⟨⟨A9,n9,c9,g,rfl,hrec⟩,⟨l',hq,hfl⟩,hfq⟩;have k1:=hfq.blk _ _ _ B2.out (by decide);have e0:=balS_of k1;have n2:=hfq.blk _ _ _ nA (by decide);have s0:=n2.cell 0;have s1:=n2.cell 1;have s2:=n2.cell 2;have s3:=n2.cell 3;have s4:=n2.cell 4;have z0:=n2.frozen 0;have z1:=n2.frozen 1;have z2:=n2.frozen 2;have z3:=n2.frozen 3;have z4:=n2.frozen 4;(simp only[ga,gz,gN] at s0 s1 s2 s3 s4);have hn:=k1.ne_ n2 (by decide);have h2:=fun v0 v1 v2 v3 v4=>balS_of (((((k1.far (p:=⟨w1.heap.size,0,none⟩) hn v0).far (p:=⟨w1.heap.size,1,none⟩) hn v1).far (p:=⟨w1.heap.size,2,none⟩) hn v2).far (p:=⟨w1.heap.size,3,none⟩) hn v3).far (p:=⟨w1.heap.size,4,none⟩) hn v4)))
 ·have HF:(fun Vv:World=>Hid (Blk Vv w2.heap.size 116 #[X Y 2,X Y 0,X Y bid,G A9 n9 c9,G (some ⟨g,0,none⟩) 1 1]∧Blk Vv g 119 (recC 1 f 0 (G none 0 0))∧BalAt Vv base p slots fl idle seg quota gen now ops s L bl fms fm' l' made∧Blk Vv h0 28 #[X Y 0,X Y 0,X Y 0,G none 0 0]∧Fr KB p.maps base w Vv∧QSet il (keyT k) now l'∧h0=w.heap.size)) (w2.alloc (cL #[X Y 2,X Y 0,X Y bid,G A9 n9 c9,G (some ⟨g,0,none⟩) 1 1] 116)):=by
   obtain⟨g1,f1,x1,hle,hh0,hbase⟩:=HH.out
   have hb2:Below w2.heap.size w2 (w2.alloc (cL #[X Y 2,X Y 0,X Y bid,G A9 n9 c9,G (some ⟨g,0,none⟩) 1 1] 116)):=(bR _ _).alloc (nR _) _
   have hd1:Below w1.heap.size w1 w1.drew:=(bR _ _).drew
   have hbw:base≤w1.drew.heap.size:=nT hbase hle
   have hbw2:base≤w2.heap.size:=nT hbw hfq.size
   have m2:BalAt w2 base p slots fl idle seg quota gen now ops s L bl fms fm' l' made:=(g1.made hd1).flowed hfl (hfq.mono (fun t ht=>List.mem_append_left _ ht) (fun _ hb=>hb))
   refine⟨Blk.new_ rfl,hrec.alloc _,m2.made hb2,(hfq.blk _ _ _ x1.drew (by decide)).alloc _,?_,hq,hh0⟩
   exact(((Fr.mono f1 (by simp) (by simp))).trans ((Fr.mono (Fr.of_below [] [] hd1 (nT hbase hle)) (by simp) (by simp)))).trans (((Fr.mono hfq.toFr (fun t ht=>List.mem_append_left _ (List.mem_append_right _ (List.mem_append_left _ ht))) (fun b hb=>by simp only[BP.maps,List.mem_cons,List.not_mem_nil,or_false] at hb⊢;rcases hb with rfl|rfl|rfl<;>simp))).trans (Fr.mono (Fr.of_below [] [] hb2 hbw2) (by simp) (by simp)))
  generalize (w2.alloc (cL #[X Y 2,X Y 0,X Y bid,G A9 n9 c9,G (some ⟨g,0,none⟩) 1 1] 116))=wF at HF⊢
  generalize w2.heap.size=q at HF⊢
  clear k1 e0 h1 CA CB c0' a0 nA HH HB B1 B2 hfq hfl hq hrec
  have p4:=HF.out.1.cell 4
  have r0:=HF.out.2.1.cell 0
  have r1:=HF.out.2.1.cell 1
  have r2:=HF.out.2.1.cell 2
  have r3:=HF.out.2.1.cell 3
  have r4:=HF.out.2.1.cell 4
  have r5:=HF.out.2.1.cell 5
  have r6:=HF.out.2.1.cell 6
  have r7:=HF.out.2.1.cell 7
  have r8:=HF.out.2.1.cell 8
  have r9:=HF.out.2.1.cell 9
  have r10:=HF.out.2.1.cell 10
  have r11:=HF.out.2.1.cell 11
  have r12:=HF.out.2.1.cell 12
  have r13:=HF.out.2.1.cell 13
  simp only[recC,ga,gz,gN] at p4 r0 r1 r2 r3 r4 r5 r6 r7 r8 r9 r10 r11 r12 r13
  go_wp2_with fail
  refine wp_loop_rounds 2 ?_
  rw[rounds_succ]
  go_wp2_with fail
  have HG:(fun Vv:World=>Hid (Blk Vv q 116 #[X Y 2,X Y 0,X Y bid,G A9 n9 c9,G (some ⟨g,0,none⟩) 1 1]∧BalAt Vv base p slots fl idle seg quota gen now ops s L bl fms fm' l' made∧Blk Vv h0 28 #[X Y 0,X Y 0,X Y 0,G none 0 0]∧Fr KB p.maps base w Vv∧QSet il (keyT k) now l'∧h0=w.heap.size)) (wF.alloc (cL #[X Y 1,X Z f.k.src,X Z f.k.dst,X Y f.k.proto,X Y f.k.sport,X Y f.k.dport,X Y f.be,X Y f.gen,X Y f.seen,X Y 0,G none 0 0,X Y 0,X Y 0,X Y 0] 119)):=by
   obtain⟨t1,t2,t3,t4,t5,t6,t7⟩:=HF.out
   have hb:Below wF.heap.size wF (wF.alloc (cL #[X Y 1,X Z f.k.src,X Z f.k.dst,X Y f.k.proto,X Y f.k.sport,X Y f.k.dport,X Y f.be,X Y f.gen,X Y f.seen,X Y 0,G none 0 0,X Y 0,X Y 0,X Y 0] 119)):=(bR _ _).alloc (nR _) _
   exact⟨t1.alloc _,t3.made hb,t4.alloc _,t5.made hb t3.hi,t6,t7⟩
  have CW:=bal_put HG.out.2.1 f hf hlen hops hfit hQ hL
  unfold recC at CW
  have HC:=jH CW
  clear CW
  generalize wF.alloc (cL #[X Y 1,X Z f.k.src,X Z f.k.dst,X Y f.k.proto,X Y f.k.sport,X Y f.k.dport,X Y f.be,X Y f.gen,X Y f.seen,X Y 0,G none 0 0,X Y 0,X Y 0,X Y 0] 119)=wG at HG HC⊢
  clear p4 r0 r1 r2 r3 r4 r5 r6 r7 r8 r9 r10 r11 r12 r13 HF
  refine HC.out.mono ?_
  rintro e w5 ⟨rfl,hba,hfw⟩
  have HE:Hid (Blk w5 q 116 #[X Y 2,X Y 0,X Y bid,G A9 n9 c9,G (some ⟨g,0,none⟩) 1 1]∧BalAt w5 base p slots fl idle seg quota gen now (ops + 1) s (L++frameB 1 3 (putB f)) bl (mput fms f.k f) fm' l' made∧Blk w5 h0 28 #[X Y 0,X Y 0,X Y 0,G none 0 0]∧Fr KB p.maps base w w5∧QSet il (keyT k) now l'∧h0=w.heap.size):=by
   obtain⟨t1,t3,t4,t5,t6,t7⟩:=HG.out
   exact⟨hfw.blk _ _ _ t1 (by decide),hba,hfw.blk _ _ _ t4 (by decide),t5.trans (hfw.mono (fun t ht=>List.mem_append_left _ (List.mem_append_left _ ht)) (fun b hb=>by simp only[BP.maps,List.mem_cons,List.not_mem_nil,or_false] at hb⊢;rcases hb with rfl|rfl<;>simp)),t6,t7⟩
  clear HG HC hba hfw
  obtain⟨p0,p1,p2,p3⟩:=HE.out.1.c4
  obtain⟨o0,o1,o2,o3⟩:=HE.out.2.2.1.c4
  obtain⟨z0,z1,z2,z3⟩:=HE.out.2.2.1.f4
  go_wp2_with fail
  rw[rounds_succ]
  go_wp2_with fail
  have ho:=((((HE.out.2.2.1.set_ 0 (X Y 2)).set_ 1 (X Y 0)).set_ 2 (X Y bid)).set_ 3 (G A9 n9 c9))
  have hg1:w.heap.size≤h0:=Nat.le_of_eq HE.out.2.2.2.2.2.symm
  have hb1:base≤w.heap.size:=hbs.out
  have hbh:base≤h0:=nT hb1 hg1
  have hfr:=(((((Fr.refl [28] [] base w5).set_ HE.out.2.2.1 (by simp) hbh 0 (X Y 2)).set_ (HE.out.2.2.1.set_ 0 (X Y 2)) (by simp) hbh 1 (X Y 0)).set_ ((HE.out.2.2.1.set_ 0 (X Y 2)).set_ 1 (X Y 0)) (by simp) hbh 2 (X Y bid)).set_ (((HE.out.2.2.1.set_ 0 (X Y 2)).set_ 1 (X Y 0)).set_ 2 (X Y bid)) (by simp) hbh 3 (G A9 n9 c9))
  refine bodyPost_ret (results_cell_row rfl _ _ h0 28 #[X Y 2,X Y 0,X Y bid,G A9 n9 c9] (0,0) _ rfl ho underlying28 rfl infoOut) rfl ?_
  exact⟨⟨A9,n9,c9,rfl⟩,⟨l',HE.out.2.2.2.2.1,HE.out.2.1.fr hfr (by decide)⟩,((((HE.out.2.2.2.1.set_new hg1 hb1 0 (X Y 2)).set_new hg1 hb1 1 (X Y 0)).set_new hg1 hb1 2 (X Y bid)).set_new hg1 hb1 3 (G A9 n9 c9))⟩
 ·have HF:(fun Vv:World=>Hid (Blk Vv w1.heap.size 116 #[X Y 2,X Y 0,X Y bid,G A9 n9 c9,G (some ⟨g,0,none⟩) 1 1]∧Blk Vv g 119 (recC 1 f 0 (G none 0 0))∧BalAt Vv base p slots fl idle seg quota gen now ops s L bl fms fm' l' made∧Blk Vv h0 28 #[X Y 0,X Y 0,X Y 0,G none 0 0]∧Fr KB p.maps base w Vv∧QSet il (keyT k) now l'∧h0=w.heap.size)) (((((w2.setCell ⟨w1.heap.size,0,none⟩ (X Y 2)).setCell ⟨w1.heap.size,1,none⟩ (X Y 0)).setCell ⟨w1.heap.size,2,none⟩ (X Y bid)).setCell ⟨w1.heap.size,3,none⟩ (G A9 n9 c9)).setCell ⟨w1.heap.size,4,none⟩ (G (some ⟨g,0,none⟩) 1 1)):=by
   obtain⟨g1,f1,x1,hle,hh0,hbase⟩:=HH.out
   have hbq:base≤w1.heap.size:=nT hbase hle
   have x2:=hfq.blk _ _ _ (x1.below HB.out x1.lt) (by decide)
   have hfr:=((((((Fr.refl [116] [] base w2).set_ n2 (by simp) hbq 0 (X Y 2)).set_ (n2.set_ 0 (X Y 2)) (by simp) hbq 1 (X Y 0)).set_ ((n2.set_ 0 (X Y 2)).set_ 1 (X Y 0)) (by simp) hbq 2 (X Y bid)).set_ (((n2.set_ 0 (X Y 2)).set_ 1 (X Y 0)).set_ 2 (X Y bid)) (by simp) hbq 3 (G A9 n9 c9)).set_ ((((n2.set_ 0 (X Y 2)).set_ 1 (X Y 0)).set_ 2 (X Y bid)).set_ 3 (G A9 n9 c9)) (by simp) hbq 4 (G (some ⟨g,0,none⟩) 1 1))
   have m2:BalAt w2 base p slots fl idle seg quota gen now ops s L bl fms fm' l' made:=(g1.made HB.out).flowed hfl (hfq.mono (fun t ht=>List.mem_append_left _ ht) (fun _ hb=>hb))
   refine⟨(((((n2.set_ 0 (X Y 2)).set_ 1 (X Y 0)).set_ 2 (X Y bid)).set_ 3 (G A9 n9 c9)).set_ 4 (G (some ⟨g,0,none⟩) 1 1)),(((((hrec.far (p:=⟨w1.heap.size,0,none⟩) (hrec.ne_ n2 (by decide)) _).far (p:=⟨w1.heap.size,1,none⟩) (hrec.ne_ n2 (by decide)) _).far (p:=⟨w1.heap.size,2,none⟩) (hrec.ne_ n2 (by decide)) _).far (p:=⟨w1.heap.size,3,none⟩) (hrec.ne_ n2 (by decide)) _).far (p:=⟨w1.heap.size,4,none⟩) (hrec.ne_ n2 (by decide)) _),m2.fr hfr (by decide),(((((x2.far (p:=⟨w1.heap.size,0,none⟩) (x2.ne_ n2 (by decide)) _).far (p:=⟨w1.heap.size,1,none⟩) (x2.ne_ n2 (by decide)) _).far (p:=⟨w1.heap.size,2,none⟩) (x2.ne_ n2 (by decide)) _).far (p:=⟨w1.heap.size,3,none⟩) (x2.ne_ n2 (by decide)) _).far (p:=⟨w1.heap.size,4,none⟩) (x2.ne_ n2 (by decide)) _),?_,hq,hh0⟩
   have hw2:Fr KB p.maps base w w2:=(((Fr.mono f1 (by simp) (by simp))).trans ((Fr.mono (Fr.of_below [] [] HB.out hbq) (by simp) (by simp)))).trans ((Fr.mono hfq.toFr (fun t ht=>List.mem_append_left _ (List.mem_append_right _ (List.mem_append_left _ ht))) (fun b hb=>by simp only[BP.maps,List.mem_cons,List.not_mem_nil,or_false] at hb⊢;rcases hb with rfl|rfl|rfl<;>simp)))
   have hg0:w.heap.size≤w1.heap.size:=by rw[←hh0];exact hle
   have hbase0:base≤w.heap.size:=by rw[←hh0];exact hbase
   exact(((((hw2.set_new hg0 hbase0 0 (X Y 2)).set_new hg0 hbase0 1 (X Y 0)).set_new hg0 hbase0 2 (X Y bid)).set_new hg0 hbase0 3 (G A9 n9 c9)).set_new hg0 hbase0 4 (G (some ⟨g,0,none⟩) 1 1))
  generalize (((((w2.setCell ⟨w1.heap.size,0,none⟩ (X Y 2)).setCell ⟨w1.heap.size,1,none⟩ (X Y 0)).setCell ⟨w1.heap.size,2,none⟩ (X Y bid)).setCell ⟨w1.heap.size,3,none⟩ (G A9 n9 c9)).setCell ⟨w1.heap.size,4,none⟩ (G (some ⟨g,0,none⟩) 1 1))=wF at HF⊢
  generalize w1.heap.size=q at HF⊢
  clear k1 e0 h2 CA CB c0' a0 nA HH HB B1 B2 hfq hfl hq n2 s0 s1 s2 s3 s4 z0 z1 z2 z3 z4 hn hrec
  have p4:=HF.out.1.cell 4
  have r0:=HF.out.2.1.cell 0
  have r1:=HF.out.2.1.cell 1
  have r2:=HF.out.2.1.cell 2
  have r3:=HF.out.2.1.cell 3
  have r4:=HF.out.2.1.cell 4
  have r5:=HF.out.2.1.cell 5
  have r6:=HF.out.2.1.cell 6
  have r7:=HF.out.2.1.cell 7
  have r8:=HF.out.2.1.cell 8
  have r9:=HF.out.2.1.cell 9
  have r10:=HF.out.2.1.cell 10
  have r11:=HF.out.2.1.cell 11
  have r12:=HF.out.2.1.cell 12
  have r13:=HF.out.2.1.cell 13
  simp only[recC,ga,gz,gN] at p4 r0 r1 r2 r3 r4 r5 r6 r7 r8 r9 r10 r11 r12 r13
  go_wp2_with fail
  refine wp_loop_rounds 2 ?_
  rw[rounds_succ]
  go_wp2_with fail
  have HG:(fun Vv:World=>Hid (Blk Vv q 116 #[X Y 2,X Y 0,X Y bid,G A9 n9 c9,G (some ⟨g,0,none⟩) 1 1]∧BalAt Vv base p slots fl idle seg quota gen now ops s L bl fms fm' l' made∧Blk Vv h0 28 #[X Y 0,X Y 0,X Y 0,G none 0 0]∧Fr KB p.maps base w Vv∧QSet il (keyT k) now l'∧h0=w.heap.size)) (wF.alloc (cL #[X Y 1,X Z f.k.src,X Z f.k.dst,X Y f.k.proto,X Y f.k.sport,X Y f.k.dport,X Y f.be,X Y f.gen,X Y f.seen,X Y 0,G none 0 0,X Y 0,X Y 0,X Y 0] 119)):=by
   obtain⟨t1,t2,t3,t4,t5,t6,t7⟩:=HF.out
   have hb:Below wF.heap.size wF (wF.alloc (cL #[X Y 1,X Z f.k.src,X Z f.k.dst,X Y f.k.proto,X Y f.k.sport,X Y f.k.dport,X Y f.be,X Y f.gen,X Y f.seen,X Y 0,G none 0 0,X Y 0,X Y 0,X Y 0] 119)):=(bR _ _).alloc (nR _) _
   exact⟨t1.alloc _,t3.made hb,t4.alloc _,t5.made hb t3.hi,t6,t7⟩
  have CW:=bal_put HG.out.2.1 f hf hlen hops hfit hQ hL
  unfold recC at CW
  have HC:=jH CW
  clear CW
  generalize wF.alloc (cL #[X Y 1,X Z f.k.src,X Z f.k.dst,X Y f.k.proto,X Y f.k.sport,X Y f.k.dport,X Y f.be,X Y f.gen,X Y f.seen,X Y 0,G none 0 0,X Y 0,X Y 0,X Y 0] 119)=wG at HG HC⊢
  clear p4 r0 r1 r2 r3 r4 r5 r6 r7 r8 r9 r10 r11 r12 r13 HF
  refine HC.out.mono ?_
  rintro e w5 ⟨rfl,hba,hfw⟩
  have HE:Hid (Blk w5 q 116 #[X Y 2,X Y 0,X Y bid,G A9 n9 c9,G (some ⟨g,0,none⟩) 1 1]∧BalAt w5 base p slots fl idle seg quota gen now (ops + 1) s (L++frameB 1 3 (putB f)) bl (mput fms f.k f) fm' l' made∧Blk w5 h0 28 #[X Y 0,X Y 0,X Y 0,G none 0 0]∧Fr KB p.maps base w w5∧QSet il (keyT k) now l'∧h0=w.heap.size):=by
   obtain⟨t1,t3,t4,t5,t6,t7⟩:=HG.out
   exact⟨hfw.blk _ _ _ t1 (by decide),hba,hfw.blk _ _ _ t4 (by decide),t5.trans (hfw.mono (fun t ht=>List.mem_append_left _ (List.mem_append_left _ ht)) (fun b hb=>by simp only[BP.maps,List.mem_cons,List.not_mem_nil,or_false] at hb⊢;rcases hb with rfl|rfl<;>simp)),t6,t7⟩
  clear HG HC hba hfw
  obtain⟨p0,p1,p2,p3⟩:=HE.out.1.c4
  obtain⟨o0,o1,o2,o3⟩:=HE.out.2.2.1.c4
  obtain⟨z0,z1,z2,z3⟩:=HE.out.2.2.1.f4
  go_wp2_with fail
  rw[rounds_succ]
  go_wp2_with fail
  have ho:=((((HE.out.2.2.1.set_ 0 (X Y 2)).set_ 1 (X Y 0)).set_ 2 (X Y bid)).set_ 3 (G A9 n9 c9))
  have hg1:w.heap.size≤h0:=Nat.le_of_eq HE.out.2.2.2.2.2.symm
  have hb1:base≤w.heap.size:=hbs.out
  have hbh:base≤h0:=nT hb1 hg1
  have hfr:=(((((Fr.refl [28] [] base w5).set_ HE.out.2.2.1 (by simp) hbh 0 (X Y 2)).set_ (HE.out.2.2.1.set_ 0 (X Y 2)) (by simp) hbh 1 (X Y 0)).set_ ((HE.out.2.2.1.set_ 0 (X Y 2)).set_ 1 (X Y 0)) (by simp) hbh 2 (X Y bid)).set_ (((HE.out.2.2.1.set_ 0 (X Y 2)).set_ 1 (X Y 0)).set_ 2 (X Y bid)) (by simp) hbh 3 (G A9 n9 c9))
  refine bodyPost_ret (results_cell_row rfl _ _ h0 28 #[X Y 2,X Y 0,X Y bid,G A9 n9 c9] (0,0) _ rfl ho underlying28 rfl infoOut) rfl ?_
  exact⟨⟨A9,n9,c9,rfl⟩,⟨l',HE.out.2.2.2.2.1,HE.out.2.1.fr hfr (by decide)⟩,((((HE.out.2.2.2.1.set_new hg1 hb1 0 (X Y 2)).set_new hg1 hb1 1 (X Y 0)).set_new hg1 hb1 2 (X Y bid)).set_new hg1 hb1 3 (G A9 n9 c9))⟩
theorem bpacket_none {w:World}{base:Nat}{p:BP}{slots fl idle seg quota gen now ops s:Nat}{L:List Nat}{bl:List Be}{fms fm:List (Tu×Fl)}{il:List It}{made:Int}(h:BalAt w base p slots fl idle seg quota gen now ops s L bl fms fm il made)(fm':List (Tu×Fl))(k:Tu)(bid:Nat)(A:Option Addr)(n c:Nat)
  (CP:∀W,Below w.heap.size w W→Calls Pg 41 #[aG #[X Z 168364297,X Y slots,X Y fl,X Y idle,X Y 1500,X Y seg,X Y quota,X Y 3],PT (some ⟨p.tp,0,none⟩),PT (some ⟨p.chp,0,none⟩),X Y gen,X Y now,G A n c] W fun e w'=>(∃A' n' c',e=rT (aG #[X Y 2,X Y 0,X Y bid,G A' n' c',G none 0 0]))∧(∃l',QSet il (keyT k) now l'∧FlowAt w' base p.tp p.tm p.tk p.qp p.qm fl idle fm' l')∧FrQ p.qp KF [p.tm,p.tk,p.qm] base W w'):
  Calls Pg 18 #[PT (some ⟨p.bp,0,none⟩),G A n c] w fun e w'=>(∃A' n' c',e=rT (aG #[X Y 2,X Y 0,X Y bid,G A' n' c']))∧(∃l',QSet il (keyT k) now l'∧BalAt w' base p slots fl idle seg quota gen now ops s L bl fms fm' l' made)∧Fr KB p.maps base w w':=by
 obtain⟨A0,c0,k1,k2⟩:=h.blk
 obtain⟨h0,hh0⟩:∃h0,h0=w.heap.size:=⟨_,rfl⟩
 have hb1:=(bR w.heap.size w).alloc (nR _) (cL #[X Y 0,X Y 0,X Y 0,G none 0 0] 28)
 have x1:=Blk.new w 28 #[X Y 0,X Y 0,X Y 0,G none 0 0]
 rw[←hh0] at x1
 have hbase:=h.hi
 have g1:=h.made hb1
 have b1:=k1.below hb1 k1.lt
 have f1:Fr [] [] base w (w.alloc (cL #[X Y 0,X Y 0,X Y 0,G none 0 0] 28)):=Fr.of_below [] [] hb1 hbase
 have C1:=fun W hW=>CP W (hb1.trans hW)
 have hz1:(w.alloc (cL #[X Y 0,X Y 0,X Y 0,G none 0 0] 28)).heap.size=w.heap.size + 1:=by simp
 clear CP k2
 have hbs:=jH hbase
 go_enter func18,ntmps18
 go_wp2_with fail
 rw[←hh0] at hb1 C1 hbase hz1⊢
 generalize w.alloc (cL #[X Y 0,X Y 0,X Y 0,G none 0 0] 28)=w1 at *
 have hle:h0≤w1.heap.size:=by omega
 have hbB:Below w1.heap.size w1 (w1.alloc (cL #[X Y 0,X Y 0,X Y 0,G none 0 0,G none 0 0] 116)).drew:=((bR _ _).alloc (nR _) _).drew
 have CA:=jH (C1 w1.drew ((bR _ _).drew.mono hle))
 have CB:=jH (C1 (w1.alloc (cL #[X Y 0,X Y 0,X Y 0,G none 0 0,G none 0 0] 116)).drew (hbB.mono hle))
 have c0':=balS_of b1.drew
 have bB:=b1.below hbB b1.lt
 have a0:=balS_of bB
 have nA:Blk (w1.alloc (cL #[X Y 0,X Y 0,X Y 0,G none 0 0,G none 0 0] 116)).drew w1.heap.size 116 #[X Y 0,X Y 0,X Y 0,G none 0 0,G none 0 0]:=(Blk.new w1 _ _).drew
 have HH:=jH (aI g1 (aI f1 (aI x1 (aI hle (aI hh0 hbase)))))
 have HB:=jH hbB
 have B1:=jH b1
 have B2:=jH bB
 clear g1 f1 hb1 h k1 hz1 hbB C1 b1 bB hle hbase x1 hh0
 go_region_held3 (fun wS=>wS.cell? ⟨p.bp,0,none⟩=some (X Z 168364297)∧wS.cell? ⟨p.bp,1,none⟩=some (X Y slots)∧wS.cell? ⟨p.bp,2,none⟩=some (X Y fl)∧wS.cell? ⟨p.bp,3,none⟩=some (X Y idle)∧wS.cell? ⟨p.bp,4,none⟩=some (X Y 1500)∧wS.cell? ⟨p.bp,5,none⟩=some (X Y seg)∧wS.cell? ⟨p.bp,6,none⟩=some (X Y quota)∧wS.cell? ⟨p.bp,7,none⟩=some (X Y 3)∧wS.cell? ⟨p.bp,10,none⟩=some (PT (some ⟨p.tp,0,none⟩))∧wS.cell? ⟨p.bp,11,none⟩=some (PT (some ⟨p.chp,0,none⟩))∧wS.cell? ⟨p.bp,13,none⟩=some (X Y gen)∧wS.cell? ⟨p.bp,15,none⟩=some (X Y now)) (first|with_reducible exact c0'|with_reducible exact a0|with_reducible exact e0|with_reducible exact h1 _|with_reducible exact h2 _ _ _ _ _|fail)
  (first
   |(go_at_call 41;(with_reducible refine CA.out.mono ?_);rintro e w2 ⟨⟨A9,n9,c9,rfl⟩,⟨l',hq,hfl⟩,hfq⟩;have k1:=hfq.blk _ _ _ B1.out.drew (by decide);have e0:=balS_of k1;have h1:=fun o=>balS_of (k1.alloc o))
   |(go_at_call 41;(with_reducible refine CB.out.mono ?_);rintro e w2 ⟨⟨A9,n9,c9,rfl⟩,⟨l',hq,hfl⟩,hfq⟩;have k1:=hfq.blk _ _ _ B2.out (by decide);have e0:=balS_of k1;have n2:=hfq.blk _ _ _ nA (by decide);have s0:=n2.cell 0;have s1:=n2.cell 1;have s2:=n2.cell 2;have s3:=n2.cell 3;have s4:=n2.cell 4;have z0:=n2.frozen 0;have z1:=n2.frozen 1;have z2:=n2.frozen 2;have z3:=n2.frozen 3;have z4:=n2.frozen 4;(simp only[ga,gz,gN] at s0 s1 s2 s3 s4);have hn:=k1.ne_ n2 (by decide);have h2:=fun v0 v1 v2 v3 v4=>balS_of (((((k1.far (p:=⟨w1.heap.size,0,none⟩) hn v0).far (p:=⟨w1.heap.size,1,none⟩) hn v1).far (p:=⟨w1.heap.size,2,none⟩) hn v2).far (p:=⟨w1.heap.size,3,none⟩) hn v3).far (p:=⟨w1.heap.size,4,none⟩) hn v4)))
 ·have HF:(fun Vv:World=>Hid (Blk Vv w2.heap.size 116 #[X Y 2,X Y 0,X Y bid,G A9 n9 c9,G none 0 0]∧BalAt Vv base p slots fl idle seg quota gen now ops s L bl fms fm' l' made∧Blk Vv h0 28 #[X Y 0,X Y 0,X Y 0,G none 0 0]∧Fr KB p.maps base w Vv∧QSet il (keyT k) now l'∧h0=w.heap.size)) (w2.alloc (cL #[X Y 2,X Y 0,X Y bid,G A9 n9 c9,G none 0 0] 116)):=by
   obtain⟨g1,f1,x1,hle,hh0,hbase⟩:=HH.out
   have hb2:Below w2.heap.size w2 (w2.alloc (cL #[X Y 2,X Y 0,X Y bid,G A9 n9 c9,G none 0 0] 116)):=(bR _ _).alloc (nR _) _
   have hd1:Below w1.heap.size w1 w1.drew:=(bR _ _).drew
   have hbw:base≤w1.drew.heap.size:=nT hbase hle
   have hbw2:base≤w2.heap.size:=nT hbw hfq.size
   have m2:BalAt w2 base p slots fl idle seg quota gen now ops s L bl fms fm' l' made:=(g1.made hd1).flowed hfl (hfq.mono (fun t ht=>List.mem_append_left _ ht) (fun _ hb=>hb))
   refine⟨Blk.new_ rfl,m2.made hb2,(hfq.blk _ _ _ x1.drew (by decide)).alloc _,?_,hq,hh0⟩
   exact(((Fr.mono f1 (by simp) (by simp))).trans ((Fr.mono (Fr.of_below [] [] hd1 (nT hbase hle)) (by simp) (by simp)))).trans (((Fr.mono hfq.toFr (fun t ht=>List.mem_append_left _ (List.mem_append_right _ (List.mem_append_left _ ht))) (fun b hb=>by simp only[BP.maps,List.mem_cons,List.not_mem_nil,or_false] at hb⊢;rcases hb with rfl|rfl|rfl<;>simp))).trans (Fr.mono (Fr.of_below [] [] hb2 hbw2) (by simp) (by simp)))
  generalize (w2.alloc (cL #[X Y 2,X Y 0,X Y bid,G A9 n9 c9,G none 0 0] 116))=wF at HF⊢
  generalize w2.heap.size=q at HF⊢
  clear k1 e0 h1 CA CB c0' a0 nA HH HB B1 B2 hfq hfl hq
  have p4:=HF.out.1.cell 4
  simp only[ga,gz,gN] at p4
  go_wp2_with fail
  refine wp_loop_rounds 1 ?_
  rw[rounds_succ]
  have HE:Hid (Blk wF q 116 #[X Y 2,X Y 0,X Y bid,G A9 n9 c9,G none 0 0]∧BalAt wF base p slots fl idle seg quota gen now ops s L bl fms fm' l' made∧Blk wF h0 28 #[X Y 0,X Y 0,X Y 0,G none 0 0]∧Fr KB p.maps base w wF∧QSet il (keyT k) now l'∧h0=w.heap.size):=HF
  clear HF p4
  obtain⟨w5,hw5⟩:∃w5,w5=wF:=⟨_,rfl⟩
  rw[←hw5] at HE⊢
  clear hw5
  obtain⟨p0,p1,p2,p3⟩:=HE.out.1.c4
  obtain⟨o0,o1,o2,o3⟩:=HE.out.2.2.1.c4
  obtain⟨z0,z1,z2,z3⟩:=HE.out.2.2.1.f4
  go_wp2_with fail
  have ho:=((((HE.out.2.2.1.set_ 0 (X Y 2)).set_ 1 (X Y 0)).set_ 2 (X Y bid)).set_ 3 (G A9 n9 c9))
  have hg1:w.heap.size≤h0:=Nat.le_of_eq HE.out.2.2.2.2.2.symm
  have hb1:base≤w.heap.size:=hbs.out
  have hbh:base≤h0:=nT hb1 hg1
  have hfr:=(((((Fr.refl [28] [] base w5).set_ HE.out.2.2.1 (by simp) hbh 0 (X Y 2)).set_ (HE.out.2.2.1.set_ 0 (X Y 2)) (by simp) hbh 1 (X Y 0)).set_ ((HE.out.2.2.1.set_ 0 (X Y 2)).set_ 1 (X Y 0)) (by simp) hbh 2 (X Y bid)).set_ (((HE.out.2.2.1.set_ 0 (X Y 2)).set_ 1 (X Y 0)).set_ 2 (X Y bid)) (by simp) hbh 3 (G A9 n9 c9))
  refine bodyPost_ret (results_cell_row rfl _ _ h0 28 #[X Y 2,X Y 0,X Y bid,G A9 n9 c9] (0,0) _ rfl ho underlying28 rfl infoOut) rfl ?_
  exact⟨⟨A9,n9,c9,rfl⟩,⟨l',HE.out.2.2.2.2.1,HE.out.2.1.fr hfr (by decide)⟩,((((HE.out.2.2.2.1.set_new hg1 hb1 0 (X Y 2)).set_new hg1 hb1 1 (X Y 0)).set_new hg1 hb1 2 (X Y bid)).set_new hg1 hb1 3 (G A9 n9 c9))⟩
 ·have HF:(fun Vv:World=>Hid (Blk Vv w1.heap.size 116 #[X Y 2,X Y 0,X Y bid,G A9 n9 c9,G none 0 0]∧BalAt Vv base p slots fl idle seg quota gen now ops s L bl fms fm' l' made∧Blk Vv h0 28 #[X Y 0,X Y 0,X Y 0,G none 0 0]∧Fr KB p.maps base w Vv∧QSet il (keyT k) now l'∧h0=w.heap.size)) (((((w2.setCell ⟨w1.heap.size,0,none⟩ (X Y 2)).setCell ⟨w1.heap.size,1,none⟩ (X Y 0)).setCell ⟨w1.heap.size,2,none⟩ (X Y bid)).setCell ⟨w1.heap.size,3,none⟩ (G A9 n9 c9)).setCell ⟨w1.heap.size,4,none⟩ (G none 0 0)):=by
   obtain⟨g1,f1,x1,hle,hh0,hbase⟩:=HH.out
   have hbq:base≤w1.heap.size:=nT hbase hle
   have x2:=hfq.blk _ _ _ (x1.below HB.out x1.lt) (by decide)
   have hfr:=((((((Fr.refl [116] [] base w2).set_ n2 (by simp) hbq 0 (X Y 2)).set_ (n2.set_ 0 (X Y 2)) (by simp) hbq 1 (X Y 0)).set_ ((n2.set_ 0 (X Y 2)).set_ 1 (X Y 0)) (by simp) hbq 2 (X Y bid)).set_ (((n2.set_ 0 (X Y 2)).set_ 1 (X Y 0)).set_ 2 (X Y bid)) (by simp) hbq 3 (G A9 n9 c9)).set_ ((((n2.set_ 0 (X Y 2)).set_ 1 (X Y 0)).set_ 2 (X Y bid)).set_ 3 (G A9 n9 c9)) (by simp) hbq 4 (G none 0 0))
   have m2:BalAt w2 base p slots fl idle seg quota gen now ops s L bl fms fm' l' made:=(g1.made HB.out).flowed hfl (hfq.mono (fun t ht=>List.mem_append_left _ ht) (fun _ hb=>hb))
   refine⟨(((((n2.set_ 0 (X Y 2)).set_ 1 (X Y 0)).set_ 2 (X Y bid)).set_ 3 (G A9 n9 c9)).set_ 4 (G none 0 0)),m2.fr hfr (by decide),(((((x2.far (p:=⟨w1.heap.size,0,none⟩) (x2.ne_ n2 (by decide)) _).far (p:=⟨w1.heap.size,1,none⟩) (x2.ne_ n2 (by decide)) _).far (p:=⟨w1.heap.size,2,none⟩) (x2.ne_ n2 (by decide)) _).far (p:=⟨w1.heap.size,3,none⟩) (x2.ne_ n2 (by decide)) _).far (p:=⟨w1.heap.size,4,none⟩) (x2.ne_ n2 (by decide)) _),?_,hq,hh0⟩
   have hw2:Fr KB p.maps base w w2:=(((Fr.mono f1 (by simp) (by simp))).trans ((Fr.mono (Fr.of_below [] [] HB.out hbq) (by simp) (by simp)))).trans ((Fr.mono hfq.toFr (fun t ht=>List.mem_append_left _ (List.mem_append_right _ (List.mem_append_left _ ht))) (fun b hb=>by simp only[BP.maps,List.mem_cons,List.not_mem_nil,or_false] at hb⊢;rcases hb with rfl|rfl|rfl<;>simp)))
   have hg0:w.heap.size≤w1.heap.size:=by rw[←hh0];exact hle
   have hbase0:base≤w.heap.size:=by rw[←hh0];exact hbase
   exact(((((hw2.set_new hg0 hbase0 0 (X Y 2)).set_new hg0 hbase0 1 (X Y 0)).set_new hg0 hbase0 2 (X Y bid)).set_new hg0 hbase0 3 (G A9 n9 c9)).set_new hg0 hbase0 4 (G none 0 0))
  generalize (((((w2.setCell ⟨w1.heap.size,0,none⟩ (X Y 2)).setCell ⟨w1.heap.size,1,none⟩ (X Y 0)).setCell ⟨w1.heap.size,2,none⟩ (X Y bid)).setCell ⟨w1.heap.size,3,none⟩ (G A9 n9 c9)).setCell ⟨w1.heap.size,4,none⟩ (G none 0 0))=wF at HF⊢
  generalize w1.heap.size=q at HF⊢
  clear k1 e0 h2 CA CB c0' a0 nA HH HB B1 B2 hfq hfl hq n2 s0 s1 s2 s3 s4 z0 z1 z2 z3 z4 hn
  have p4:=HF.out.1.cell 4
  simp only[ga,gz,gN] at p4
  go_wp2_with fail
  refine wp_loop_rounds 1 ?_
  rw[rounds_succ]
  have HE:Hid (Blk wF q 116 #[X Y 2,X Y 0,X Y bid,G A9 n9 c9,G none 0 0]∧BalAt wF base p slots fl idle seg quota gen now ops s L bl fms fm' l' made∧Blk wF h0 28 #[X Y 0,X Y 0,X Y 0,G none 0 0]∧Fr KB p.maps base w wF∧QSet il (keyT k) now l'∧h0=w.heap.size):=HF
  clear HF p4
  obtain⟨w5,hw5⟩:∃w5,w5=wF:=⟨_,rfl⟩
  rw[←hw5] at HE⊢
  clear hw5
  obtain⟨p0,p1,p2,p3⟩:=HE.out.1.c4
  obtain⟨o0,o1,o2,o3⟩:=HE.out.2.2.1.c4
  obtain⟨z0,z1,z2,z3⟩:=HE.out.2.2.1.f4
  go_wp2_with fail
  have ho:=((((HE.out.2.2.1.set_ 0 (X Y 2)).set_ 1 (X Y 0)).set_ 2 (X Y bid)).set_ 3 (G A9 n9 c9))
  have hg1:w.heap.size≤h0:=Nat.le_of_eq HE.out.2.2.2.2.2.symm
  have hb1:base≤w.heap.size:=hbs.out
  have hbh:base≤h0:=nT hb1 hg1
  have hfr:=(((((Fr.refl [28] [] base w5).set_ HE.out.2.2.1 (by simp) hbh 0 (X Y 2)).set_ (HE.out.2.2.1.set_ 0 (X Y 2)) (by simp) hbh 1 (X Y 0)).set_ ((HE.out.2.2.1.set_ 0 (X Y 2)).set_ 1 (X Y 0)) (by simp) hbh 2 (X Y bid)).set_ (((HE.out.2.2.1.set_ 0 (X Y 2)).set_ 1 (X Y 0)).set_ 2 (X Y bid)) (by simp) hbh 3 (G A9 n9 c9))
  refine bodyPost_ret (results_cell_row rfl _ _ h0 28 #[X Y 2,X Y 0,X Y bid,G A9 n9 c9] (0,0) _ rfl ho underlying28 rfl infoOut) rfl ?_
  exact⟨⟨A9,n9,c9,rfl⟩,⟨l',HE.out.2.2.2.2.1,HE.out.2.1.fr hfr (by decide)⟩,((((HE.out.2.2.2.1.set_new hg1 hb1 0 (X Y 2)).set_new hg1 hb1 1 (X Y 0)).set_new hg1 hb1 2 (X Y bid)).set_new hg1 hb1 3 (G A9 n9 c9))⟩
theorem kw_kb:∀t∈KW,t∈KB:=fun t ht=>List.mem_append_left _ (List.mem_append_left _ ht)
theorem BP.in2 {p:BP}:∀b∈[p.mn,p.sf],b∈p.maps:=fun b hb=>by simp only[BP.maps,List.mem_cons,List.not_mem_nil,or_false] at hb⊢;rcases hb with rfl|rfl<;>simp
theorem BP.in3 {p:BP}:∀b∈[p.tm,p.tk,p.qm],b∈p.maps:=fun b hb=>by simp only[BP.maps,List.mem_cons,List.not_mem_nil,or_false] at hb⊢;rcases hb with rfl|rfl|rfl<;>simp
theorem bal_set {w:World}{base:Nat}{p:BP}{slots fl idle seg quota gen now ops s:Nat}{L:List Nat}{bl:List Be}{fms fm:List (Tu×Fl)}{il:List It}{made:Int}(h:BalAt w base p slots fl idle seg quota gen now ops s L bl fms fm il made)(A:Option Addr)(n c:Nat)(l:List Be)(hgen:gen + 1≤1000000)(hok:BesOk l)(hmay:MayBs l.length l)(hmd:0≤made∧made≤1000000)(hops:ops≤900000000000)(hfit:L.length=0∨L.length + (21 + l.length * 7)≤seg)(hQ:L.length + (47 + l.length * 7)≤quota)(hL:21 + l.length * 7 + L.length≤1048576)
  (CS:Calls Pg 118 #[G A n c] w fun e w'=>∃A' c',e=rT (G A' l.length c')∧w'.ownsRow w.heap.size 34 3 (G A' l.length c') l.length (bks l)∧Below w.heap.size w w'):
  Calls Pg 44 #[PT (some ⟨p.bp,0,none⟩),G A n c] w fun e w'=>e=rT (X Y 0)∧BalAt w' base p slots fl idle seg quota (gen + 1) now (ops + 1) s (L++frameB 3 3 (genB (gen + 1) l)) l fms fm il (made + 1)∧Fr KB p.maps base w w':=by
 have HH:=jH h
 have HS:=jH CS
 have h16:l.length≤16:=hmay.1
 clear h CS
 go_enter func44,ntmps44
 go_wp2_with fail
 refine HS.out.mono ?_
 rintro e w1 ⟨A1,c1,rfl,hown1,hb1⟩
 have G1:Hid (BalAt w1 base p slots fl idle seg quota gen now ops s L bl fms fm il made∧w1.ownsRow w.heap.size 34 3 (G A1 l.length c1) l.length (bks l)∧Below w.heap.size w w1):=⟨HH.out.made hb1,hown1,hb1⟩
 clear hown1 hb1 HS
 have CM:=jH (gmay_any A1 l.length c1 w1.heap.size l w1 (Reads.of_own G1.out.2.1) (nR _) hok (by omega) (own_capp G1.out.2.1).1)
 go_wp2_with fail
 refine CM.out.mono ?_
 rintro e w2 ⟨⟨b,rfl,hb⟩,hb2⟩
 obtain rfl:=hb.2 hmay
 have G2:Hid (BalAt w2 base p slots fl idle seg quota gen now ops s L bl fms fm il made∧w2.ownsRow w.heap.size 34 3 (G A1 l.length c1) l.length (bks l)∧Below w.heap.size w w2):=⟨G1.out.1.made hb2,own_below G1.out.2.1 hb2,G1.out.2.2.trans (hb2.mono G1.out.2.2.size)⟩
 clear hb hb2 CM G1
 have c12:w2.cell? ⟨p.bp,12,none⟩=some (PT (some ⟨p.dp,0,none⟩)):=by
  obtain⟨A',c',k1,k2⟩:=G2.out.1.blk
  have:=k1.cell 12
  simpa [balC] using this
 have CD:=jH (drall0 base p.dp p.dm p.qp2 p.qm2 w2 G2.out.1.dr)
 go_wp2_with fail
 refine CD.out.mono ?_
 rintro e w3 ⟨rfl,hb3⟩
 have G3:Hid (BalAt w3 base p slots fl idle seg quota gen now ops s L bl fms fm il made∧w3.ownsRow w.heap.size 34 3 (G A1 l.length c1) l.length (bks l)∧Below w.heap.size w w3):=⟨G2.out.1.made hb3,own_below G2.out.2.1 hb3,G2.out.2.2.trans (hb3.mono G2.out.2.2.size)⟩
 clear hb3 CD G2 c12
 go_wp2_with fail
 refine wp_loop_rounds 1 ?_
 rw[rounds_succ]
 go_wp2_with fail
 obtain⟨A0,c0,k1,k2⟩:=G3.out.1.blk
 obtain⟨gs,bls,k3,k4⟩:=G3.out.1.sto
 have CN:=jH (bnext_ok base p.bp slots fl idle seg quota p.d p.ss p.tp p.chp p.dp gen now (G A0 bl.length c0) [p.mn,p.sf] (fun _ w'=>StoreAt w' base p.ss p.lg p.sp p.sd p.sf p.d p.mn p.ms seg quota (ops + 1) p.f1 p.f2 s (L++frameB 3 3 (genB (gen + 1) l)) (gen + 1) l fms) A1 l.length c1 w3 k1 G3.out.1.hi G3.out.1.lob hgen (fun W hW=>stogen_ok base p.ss p.lg p.sp p.sd p.sf p.d p.mn p.ms seg quota ops p.f1 p.f2 s L gs bls fms W (k3.fr hW (by decide) (by decide) (by decide) (by decide) (by decide) (by decide) (by decide) (by decide) (by decide) (by simp) (by simp) (by simp) (by simp)) (gen + 1) hgen A1 c1 w.heap.size l (hW.own G3.out.2.1 (by decide)) hok hmay (by omega) hops hfit hQ hL))
 clear k1 k2 k3 k4
 refine CN.out.mono ?_
 rintro e w4 ⟨rfl,⟨W,hW,hsto⟩,hblk,hF⟩
 have G4:Hid (StoreAt w4 base p.ss p.lg p.sp p.sd p.sf p.d p.mn p.ms seg quota (ops + 1) p.f1 p.f2 s (L++frameB 3 3 (genB (gen + 1) l)) (gen + 1) l fms∧Blk w4 p.bp 69 (balC slots fl idle seg quota p.d p.ss p.tp p.chp p.dp (gen + 1) (G A1 l.length c1) now)∧w4.ownsRow w.heap.size 34 3 (G A1 l.length c1) l.length (bks l)∧FlowAt w4 base p.tp p.tm p.tk p.qp p.qm fl idle fm il∧Ch w4 p.chp slots bl (tableF bl slots) made∧Dr0 w4 base p.dp p.dm p.qp2 p.qm2∧Fr (KW++[69]) [p.mn,p.sf] base w w4):=by
  obtain⟨g1,g2,g3⟩:=G3.out
  obtain⟨m1,m2,m3,m4,m5,-⟩:=BP.apart g1.maps
  exact⟨hsto,hblk,hF.own g2 (by decide),g1.fl.fr hF (by decide) (by decide) (by decide) (by decide) m3 m1 m2,g1.ch.fr hF (by decide) (by decide) (by decide),g1.dr.fr hF (by decide) (by decide) m5 m4,(Fr.of_below _ _ g3 HH.out.hi).trans hF⟩
 clear hsto hblk hF hW CN G3
 have CC:=jH (bchoose_ok base w.heap.size p.bp slots fl idle seg quota p.d p.ss p.tp p.chp p.dp (gen + 1) now A1 c1 l bl (tableF bl slots) made p.dm p.qp2 p.qm2 w4 G4.out.2.1 G4.out.2.2.1 G4.out.2.2.2.2.1 G4.out.2.2.2.2.2.1 HH.out.mayn hok hmay hmd)
 go_wp2_with fail
 refine CC.out.mono ?_
 rintro e w5 ⟨rfl,hch,hbut⟩
 have G5:Hid (BalAt w5 base p slots fl idle seg quota (gen + 1) now (ops + 1) s (L++frameB 3 3 (genB (gen + 1) l)) l fms fm il (made + 1)∧Fr KB p.maps base w w5):=by
  obtain⟨g1,g2,g3,g4,g5,g6,g7⟩:=G4.out
  obtain⟨cs,hk⟩:=g5.blk
  have hf:=hbut.fr hk HH.out.loc
  have hhi:=HH.out.hi
  exact⟨{HH.out with hi:=nT (nT hhi g7.size) hf.size,blk:=⟨A1,c1,hf.blk _ _ _ g2 (by decide),own_base (hf.own g3 (by decide)) hhi⟩,sto:=⟨gen + 1,l,g1.fr hf (by decide) (by decide) (by decide) (by decide) (by decide) (by decide) (by decide) (by decide) (by decide) (by simp) (by simp) (by simp) (by simp),h16⟩,fl:=g4.fr hf (by decide) (by decide) (by decide) (by decide) (by simp) (by simp) (by simp),ch:=hch,dr:=g6.fr hf (by decide) (by decide) (by simp) (by simp),may:=hmay,ok:=hok},
   (g7.mono (fun t ht=>by simp only[List.mem_append,List.mem_singleton] at ht;rcases ht with ht|rfl;exact kw_kb t ht;exact by decide) BP.in2).trans (hf.mono (fun t ht=>by simp only[List.mem_singleton] at ht;subst ht;decide) (fun b hb=>by simp at hb))⟩
 clear hch hbut CC G4
 go_wp2
 go_ret
 exact⟨rfl,G5.out⟩
theorem BalAt.timed {w:World}{base:Nat}{p:BP}{slots fl idle seg quota gen now ops s:Nat}{L:List Nat}{bl:List Be}{fms fm:List (Tu×Fl)}{il:List It}{made:Int}(h:BalAt w base p slots fl idle seg quota gen now ops s L bl fms fm il made)(now':Nat):BalAt (w.setCell ⟨p.bp,15,none⟩ (X Y now')) base p slots fl idle seg quota gen now' ops s L bl fms fm il made∧Fr [69] [] base w (w.setCell ⟨p.bp,15,none⟩ (X Y now')):=by
 obtain⟨A,c,k1,k2⟩:=h.blk
 obtain⟨gs,bls,k3,k4⟩:=h.sto
 have hf:Fr [69] [] base w (w.setCell ⟨p.bp,15,none⟩ (X Y now')):=(Fr.refl _ _ base w).set_ k1 (by simp) h.lob 15 _
 have hb2:Blk (w.setCell ⟨p.bp,15,none⟩ (X Y now')) p.bp 69 (balC slots fl idle seg quota p.d p.ss p.tp p.chp p.dp gen (G A bl.length c) now'):=k1.set_ 15 _
 exact⟨{h with hi:=nT h.hi hf.size,blk:=⟨A,c,hb2,hf.own k2 (by decide)⟩,sto:=⟨gs,bls,k3.fr hf (by decide) (by decide) (by decide) (by decide) (by decide) (by decide) (by decide) (by decide) (by decide) (by simp) (by simp) (by simp) (by simp),k4⟩,fl:=h.fl.fr hf (by decide) (by decide) (by decide) (by decide) (by simp) (by simp) (by simp),ch:=h.ch.fr hf (by decide) (by decide) (by decide),dr:=h.dr.fr hf (by decide) (by decide) (by simp) (by simp)},hf⟩
theorem own_cellz {w:World}{base size n c g j:Nat}{e:TypeId}{xs:List Value}{u:Value}(h:w.ownsRow base e size (G (some ⟨g,0,none⟩) n c) n xs)(hu:xs[j]? =some u):w.cell? ⟨g,j,none⟩=some u:=by
 rcases h.2 with⟨h1,_⟩|⟨g',cap,cur,h1,h2,h3,h4,h5,h6,h7⟩
 ·cases h1
 ·injection h1 with h1 _ h1c
  injection h1 with h1
  injection h1 with h1
  subst h1
  have hb:Blk w g e cur:=h3
  rw[hb.cell j]
  rw[←h7,List.getElem?_take] at hu
  split at hu
  ·simpa using hu
  ·cases hu
theorem own_fl {w:World}{base c j:Nat}{A:Option Addr}{fs:List Fl}{f:Fl}(h:w.ownsRow base 47 8 (G A fs.length c) fs.length (flvs fs))(hf:fs[j]? =some f):∃g,A=some ⟨g,0,none⟩∧∀i u,(flE f)[i]? =some u→w.cell? ⟨g,j * 8 + i,none⟩=some u:=by
 have hj:=(List.getElem?_eq_some_iff.1 hf).1
 rcases h.2 with⟨h1,_⟩|⟨g',cap,cur,h1,h2,h3,h4,h5,h6,h7⟩
 ·injection h1 with h1 h2
  omega
 ·injection h1 with h1
  subst h1
  refine⟨g',rfl,fun i u hu=>own_cellz h ?_⟩
  have hi:i < 8:=by have:=(List.getElem?_eq_some_iff.1 hu).1;rw[flE_len] at this;exact this
  rw[flvs_get fs (j * 8 + i) (by omega)]
  have e1:(j * 8 + i) / 8=j:=by omega
  have e2:(j * 8 + i) % 8=i:=by omega
  rw[e1,e2]
  have e3:fs[j]! =f:=by rw[List.getElem!_eq_getElem?_getD,hf];rfl
  rw[e3,List.getElem!_eq_getElem?_getD,hu]
  rfl
theorem bal_tick {w:World}{base:Nat}{p:BP}{slots fl idle seg quota gen now ops s:Nat}{L:List Nat}{bl:List Be}{fms fm:List (Tu×Fl)}{il:List It}{made:Int}(h:BalAt w base p slots fl idle seg quota gen now ops s L bl fms fm il made)(k:Nat)(hk:k≤1000000)(ht:now + k≤1099511627776)(hidle:idle≤1099511627776)(hmd:0≤made∧made≤1000000)
  (hfew:∀ks l',DueR (((now + k:Nat):Int) - (idle:Int)) il ks l'→ks.length≤1)(hops:ops≤900000000000)(hfit:L.length=0∨L.length + 29≤seg)(hQ:L.length + 55≤quota)(hL:29 + L.length≤1048576):
  Calls Pg 43 #[PT (some ⟨p.bp,0,none⟩),X Y k] w fun e w'=>e=rT (X Y 0)∧(∃(fs:List Fl) (l':List It),DueR (((now + k:Nat):Int) - (idle:Int)) il (fs.map fun f=>keyT f.k) l'∧fs.length≤1∧(∀f∈fs,mget fm f.k=some f)∧BalAt w' base p slots fl idle seg quota gen (now + k) (ops + fs.length) s (L++fs.flatMap fun f=>frameB 2 3 (tupB f.k)) bl (dels fms (fs.map Fl.k)) (dels fm (fs.map Fl.k)) l' (made + 1))∧Fr KB p.maps base w w':=by
 have HH:=jH h
 obtain⟨A0,c0,k1,k2⟩:=h.blk
 have c10:w.cell? ⟨p.bp,10,none⟩=some (PT (some ⟨p.tp,0,none⟩)):=by have:=k1.cell 10;simpa [balC] using this
 have c15:w.cell? ⟨p.bp,15,none⟩=some (X Y now):=by have:=k1.cell 15;simpa [balC] using this
 have z15:=k1.frozen 15
 have CA:=jH (bahead_ok p.bp slots fl idle seg quota p.d p.ss p.tp p.chp p.dp gen now (G A0 bl.length c0) k hk ht w k1)
 have GT:=jH (h.timed (now + k))
 obtain⟨nw,hnw⟩:∃nw,nw=now + k:=⟨_,rfl⟩
 rw[←hnw] at ht CA GT hfew⊢
 clear hnw hk
 clear h k1 k2
 go_enter func43,ntmps43
 go_wp2_with fail
 refine CA.out.mono ?_
 rintro e w1 ⟨rfl,rfl⟩
 clear CA
 go_wp2_with fail
 generalize w1.setCell ⟨p.bp,15,none⟩ (X Y nw)=w2 at GT⊢
 have CI:=jH (flidle_ok base p.tp p.tm p.tk p.qp p.qm fl idle nw fm il ht hidle w2 GT.out.1.fl)
 refine CI.out.mono ?_
 rintro e w3 ⟨⟨v,fs,l',rfl,hown,hdue,hall,hfl⟩,hfq⟩
 have hl1:=hfew _ _ hdue
 rw[List.length_map] at hl1
 obtain⟨A3,n3,rfl⟩:=own_slice hown
 have G3:Hid (BalAt w3 base p slots fl idle seg quota gen nw ops s L bl fms (dels fm (fs.map Fl.k)) l' made∧w3.ownsRow base 47 8 (G A3 fs.length n3) fs.length (flvs fs)∧Fr KB p.maps base w1 w3∧DueR ((nw:Int) - (idle:Int)) il (fs.map fun f=>keyT f.k) l'∧(∀f∈fs,mget fm f.k=some f)):=
  ⟨GT.out.1.flowed hfl hfq,hown,(GT.out.2.mono (fun t ht=>by simp only[List.mem_singleton] at ht;subst ht;decide) (fun b hb=>by simp at hb)).trans (Fr.mono hfq.toFr (fun t ht=>List.mem_append_left _ (List.mem_append_right _ ht)) BP.in3),hdue,hall⟩
 clear hown hdue hall hfl hfq CI GT hfew
 rcases fs with _|⟨f,_|⟨f2,fs⟩⟩
 ·go_wp2_with fail
  refine wp_loop_rounds 1 ?_
  rw[rounds_succ]
  have GE:Hid (BalAt w3 base p slots fl idle seg quota gen nw (ops + ([]:List Fl).length) s (L++([]:List Fl).flatMap fun f=>frameB 2 3 (tupB f.k)) bl (dels fms (([]:List Fl).map Fl.k)) (dels fm (([]:List Fl).map Fl.k)) l' made∧Fr KB p.maps base w1 w3∧DueR ((nw:Int) - (idle:Int)) il (([]:List Fl).map fun f=>keyT f.k) l'∧(∀f∈([]:List Fl),mget fm f.k=some f)):=by
   obtain⟨g1,g2,g3,g4,g5⟩:=G3.out
   refine⟨?_,g3,g4,g5⟩
   rw[List.flatMap_nil,List.append_nil]
   exact g1
  clear G3
  have hL1:([]:List Fl).length≤1:=by simp
  obtain⟨w5,hw5⟩:∃w5,w5=w3:=⟨_,rfl⟩
  rw[←hw5] at GE⊢
  clear hw5
  have c12:w5.cell? ⟨p.bp,12,none⟩=some (PT (some ⟨p.dp,0,none⟩)):=by
   obtain⟨A',c',k1,k2⟩:=GE.out.1.blk
   have:=k1.cell 12
   simpa [balC] using this
  go_wp2_with fail
  have CD:=jH (drdue0 base p.dp p.dm p.qp2 p.qm2 (nw:Int) w5 GE.out.1.dr)
  refine CD.out.mono ?_
  rintro e w6 ⟨rfl,rfl⟩
  clear CD c12
  go_wp2_with fail
  refine wp_loop_rounds 1 ?_
  rw[rounds_succ]
  go_wp2_with fail
  have CC:=jH (bal_choose GE.out.1 hmd)
  refine CC.out.mono ?_
  rintro e w7 ⟨rfl,hba7,hf7⟩
  have GZ:Hid ((∃(fs:List Fl) (l':List It),DueR ((nw:Int) - (idle:Int)) il (fs.map fun f=>keyT f.k) l'∧fs.length≤1∧(∀f∈fs,mget fm f.k=some f)∧BalAt w7 base p slots fl idle seg quota gen nw (ops + fs.length) s (L++fs.flatMap fun f=>frameB 2 3 (tupB f.k)) bl (dels fms (fs.map Fl.k)) (dels fm (fs.map Fl.k)) l' (made + 1))∧Fr KB p.maps base w1 w7):=
   ⟨⟨([]:List Fl),l',GE.out.2.2.1,hL1,GE.out.2.2.2,hba7⟩,GE.out.2.1.trans (hf7.mono (fun t ht=>by simp only[List.mem_singleton] at ht;subst ht;decide) (fun b hb=>by simp at hb))⟩
  clear CC hba7 hf7 GE
  go_wp2
  go_ret
  exact⟨rfl,GZ.out⟩
 ·go_wp2_with fail
  refine wp_loop_rounds 2 ?_
  rw[rounds_succ]
  obtain⟨b3,hA3,hc3⟩:=own_fl (f:=f) (j:=0) G3.out.2.1 rfl
  subst hA3
  have r0:=hc3 0 _ rfl
  have r1:=hc3 1 _ rfl
  have r2:=hc3 2 _ rfl
  have r3:=hc3 3 _ rfl
  have r4:=hc3 4 _ rfl
  have r5:=hc3 5 _ rfl
  have r6:=hc3 6 _ rfl
  have r7:=hc3 7 _ rfl
  simp only[Nat.zero_mul,Nat.zero_add] at r0 r1 r2 r3 r4 r5 r6 r7
  clear hc3
  go_wp2_with fail
  have hb3:Below w3.heap.size w3 (w3.alloc (cL #[X Z f.k.src,X Z f.k.dst,X Y f.k.proto,X Y f.k.sport,X Y f.k.dport,X Y f.be,X Y f.gen,X Y f.seen] 47)):=(bR _ _).alloc (nR _) _
  have hfm:=HH.out.fl.ok (f.k,f) (mget_some (G3.out.2.2.2.2 f (by simp)))
  have CW:=jH (bal_del (G3.out.1.made hb3) f.k hfm.2.k hfm.2.may hops hfit hQ hL)
  have GF:Hid (Fr KB p.maps base w1 (w3.alloc (cL #[X Z f.k.src,X Z f.k.dst,X Y f.k.proto,X Y f.k.sport,X Y f.k.dport,X Y f.be,X Y f.gen,X Y f.seen] 47))∧DueR ((nw:Int) - (idle:Int)) il ([f].map fun f=>keyT f.k) l'∧(∀f'∈[f],mget fm f'.k=some f')):=⟨G3.out.2.2.1.made hb3 G3.out.1.hi,G3.out.2.2.2.1,G3.out.2.2.2.2⟩
  generalize w3.alloc (cL #[X Z f.k.src,X Z f.k.dst,X Y f.k.proto,X Y f.k.sport,X Y f.k.dport,X Y f.be,X Y f.gen,X Y f.seen] 47)=w4 at CW GF⊢
  clear hb3 r0 r1 r2 r3 r4 r5 r6 r7 G3
  refine CW.out.mono ?_
  rintro e w5 ⟨rfl,hba,hfw⟩
  have GE:Hid (BalAt w5 base p slots fl idle seg quota gen nw (ops + [f].length) s (L++[f].flatMap fun f=>frameB 2 3 (tupB f.k)) bl (dels fms ([f].map Fl.k)) (dels fm ([f].map Fl.k)) l' made∧Fr KB p.maps base w1 w5∧DueR ((nw:Int) - (idle:Int)) il ([f].map fun f=>keyT f.k) l'∧(∀f'∈[f],mget fm f'.k=some f')):=by
   refine⟨?_,GF.out.1.trans (hfw.mono kw_kb BP.in2),GF.out.2⟩
   rw[List.flatMap_cons,List.flatMap_nil,List.append_nil]
   exact hba
  clear hba hfw CW GF
  have hL1:[f].length≤1:=by simp
  have c12:w5.cell? ⟨p.bp,12,none⟩=some (PT (some ⟨p.dp,0,none⟩)):=by
   obtain⟨A',c',k1,k2⟩:=GE.out.1.blk
   have:=k1.cell 12
   simpa [balC] using this
  go_wp2_with fail
  rw[rounds_succ]
  go_wp2_with fail
  have CD:=jH (drdue0 base p.dp p.dm p.qp2 p.qm2 (nw:Int) w5 GE.out.1.dr)
  refine CD.out.mono ?_
  rintro e w6 ⟨rfl,rfl⟩
  clear CD c12
  go_wp2_with fail
  refine wp_loop_rounds 1 ?_
  rw[rounds_succ]
  go_wp2_with fail
  have CC:=jH (bal_choose GE.out.1 hmd)
  refine CC.out.mono ?_
  rintro e w7 ⟨rfl,hba7,hf7⟩
  have GZ:Hid ((∃(fs:List Fl) (l':List It),DueR ((nw:Int) - (idle:Int)) il (fs.map fun f=>keyT f.k) l'∧fs.length≤1∧(∀f∈fs,mget fm f.k=some f)∧BalAt w7 base p slots fl idle seg quota gen nw (ops + fs.length) s (L++fs.flatMap fun f=>frameB 2 3 (tupB f.k)) bl (dels fms (fs.map Fl.k)) (dels fm (fs.map Fl.k)) l' (made + 1))∧Fr KB p.maps base w1 w7):=
   ⟨⟨[f],l',GE.out.2.2.1,hL1,GE.out.2.2.2,hba7⟩,GE.out.2.1.trans (hf7.mono (fun t ht=>by simp only[List.mem_singleton] at ht;subst ht;decide) (fun b hb=>by simp at hb))⟩
  clear CC hba7 hf7 GE
  go_wp2
  go_ret
  exact⟨rfl,GZ.out⟩
 ·simp at hl1
theorem bother_tick (bp:Nat)(k:Int)(P:World→Prop)(w:World)(CT:∀W,Below w.heap.size w W→Calls Pg 43 #[PT (some ⟨bp,0,none⟩),X Y k] W fun e w'=>e=rT (X Y 0)∧P w'):
  Calls Pg 19 #[PT (some ⟨bp,0,none⟩),aG #[X Y 2,G none 0 0,X Y k,X Y 0,X Y 0,G none 0 0,G none 0 0]] w fun e w'=>e=rT (X Y 0)∧P w':=by
 have hx:=Blk.new w 37 #[X Y 2,G none 0 0,X Y k,X Y 0,X Y 0,G none 0 0,G none 0 0]
 obtain⟨x0,x1,x2,x3,x4,x5,x6⟩:=hx.c7
 have HC:=jH (CT _ ((bR w.heap.size w).alloc (nR _) (cL #[X Y 2,G none 0 0,X Y k,X Y 0,X Y 0,G none 0 0,G none 0 0] 37)))
 clear CT hx
 go_enter func19,ntmps19
 go_wp2_with fail
 refine HC.out.mono ?_
 rintro e w1 ⟨rfl,hP⟩
 have HP:=jH hP
 clear hP HC x0 x1 x2 x3 x4 x5 x6
 go_wp2
 go_ret
 exact⟨rfl,HP.out⟩
theorem bother_set (bp:Nat)(bs:Value)(P:World→Prop)(w:World)(CT:∀W,Below w.heap.size w W→Calls Pg 44 #[PT (some ⟨bp,0,none⟩),bs] W fun e w'=>e=rT (X Y 0)∧P w'):
  Calls Pg 19 #[PT (some ⟨bp,0,none⟩),aG #[X Y 3,G none 0 0,X Y 0,X Y 0,X Y 0,bs,G none 0 0]] w fun e w'=>e=rT (X Y 0)∧P w':=by
 have hx:=Blk.new w 37 #[X Y 3,G none 0 0,X Y 0,X Y 0,X Y 0,bs,G none 0 0]
 obtain⟨x0,x1,x2,x3,x4,x5,x6⟩:=hx.c7
 have HC:=jH (CT _ ((bR w.heap.size w).alloc (nR _) (cL #[X Y 3,G none 0 0,X Y 0,X Y 0,X Y 0,bs,G none 0 0] 37)))
 clear CT hx
 go_enter func19,ntmps19
 go_wp2_with fail
 refine HC.out.mono ?_
 rintro e w1 ⟨rfl,hP⟩
 have HP:=jH hP
 clear hP HC x0 x1 x2 x3 x4 x5 x6
 go_wp2
 go_ret
 exact⟨rfl,HP.out⟩
theorem bother_sync (bp ss:Nat)(P:World→Prop)(w:World){t:TypeId}{slots fl idle seg quota d tp chp dp gen now:Nat}{bs:Value}(hb:Blk w bp t (balC slots fl idle seg quota d ss tp chp dp gen bs now))(CT:∀W,Below w.heap.size w W→Calls Pg 47 #[PT (some ⟨ss,0,none⟩)] W fun e w'=>e=rT (X Y 0)∧P w'):
  Calls Pg 19 #[PT (some ⟨bp,0,none⟩),aG #[X Y 6,G none 0 0,X Y 0,X Y 0,X Y 0,G none 0 0,G none 0 0]] w fun e w'=>e=rT (X Y 0)∧P w':=by
 have hx:=Blk.new w 37 #[X Y 6,G none 0 0,X Y 0,X Y 0,X Y 0,G none 0 0,G none 0 0]
 obtain⟨x0,x1,x2,x3,x4,x5,x6⟩:=hx.c7
 have hb1:=hb.alloc (cL #[X Y 6,G none 0 0,X Y 0,X Y 0,X Y 0,G none 0 0,G none 0 0] 37)
 have c9:(w.alloc (cL #[X Y 6,G none 0 0,X Y 0,X Y 0,X Y 0,G none 0 0,G none 0 0] 37)).cell? ⟨bp,9,none⟩=some (PT (some ⟨ss,0,none⟩)):=by have:=hb1.cell 9;simpa [balC] using this
 have c17:(w.alloc (cL #[X Y 6,G none 0 0,X Y 0,X Y 0,X Y 0,G none 0 0,G none 0 0] 37)).cell? ⟨bp,17,none⟩=some (bL false):=by have:=hb1.cell 17;simpa [balC] using this
 have HC:=jH (CT _ ((bR w.heap.size w).alloc (nR _) (cL #[X Y 6,G none 0 0,X Y 0,X Y 0,X Y 0,G none 0 0,G none 0 0] 37)))
 clear CT hx hb hb1
 go_enter func19,ntmps19
 go_wp2_with fail
 refine HC.out.mono ?_
 rintro e w1 ⟨rfl,hP⟩
 have HP:=jH hP
 clear hP HC x0 x1 x2 x3 x4 x5 x6 c9 c17
 go_wp2
 go_ret
 exact⟨rfl,HP.out⟩
theorem bdo_tick (base bp:Nat)(k:Int)(P:World→Prop)(K:List TypeId)(M:List Nat)(w:World){t:TypeId}{slots fl idle seg quota d ss tp chp dp gen now:Nat}{bs':Value}(hb:Blk w bp t (balC slots fl idle seg quota d ss tp chp dp gen bs' now))(hbase:base≤w.heap.size)(hK:28∉K)(hP:∀a b,P a→Fr [28] [] base a b→P b)
  (CT:∀W,Below w.heap.size w W→Calls Pg 19 #[PT (some ⟨bp,0,none⟩),aG #[X Y 2,G none 0 0,X Y k,X Y 0,X Y 0,G none 0 0,G none 0 0]] W fun e w'=>e=rT (X Y 0)∧P w'∧Fr K M base W w'):
  Calls Pg 7 #[PT (some ⟨bp,0,none⟩),aG #[X Y 2,G none 0 0,X Y k,X Y 0,X Y 0,G none 0 0,G none 0 0]] w fun e w'=>e=rT (tU #[aG #[X Y 0,X Y 0,X Y 0,G none 0 0],X Y 0])∧P w'∧Fr K M base w w':=by
 have hx:=(Blk.new w 37 #[X Y 2,G none 0 0,X Y k,X Y 0,X Y 0,G none 0 0,G none 0 0]).alloc (cL #[X Y 0,X Y 0,X Y 0,G none 0 0] 28)
 obtain⟨x0,x1,x2,x3,x4,x5,x6⟩:=hx.c7
 have ho:=Blk.new (w.alloc (cL #[X Y 2,G none 0 0,X Y k,X Y 0,X Y 0,G none 0 0,G none 0 0] 37)) 28 #[X Y 0,X Y 0,X Y 0,G none 0 0]
 have hb1:=(hb.alloc (cL #[X Y 2,G none 0 0,X Y k,X Y 0,X Y 0,G none 0 0,G none 0 0] 37)).alloc (cL #[X Y 0,X Y 0,X Y 0,G none 0 0] 28)
 have c18:((w.alloc (cL #[X Y 2,G none 0 0,X Y k,X Y 0,X Y 0,G none 0 0,G none 0 0] 37)).alloc (cL #[X Y 0,X Y 0,X Y 0,G none 0 0] 28)).cell? ⟨bp,18,none⟩=some (bL false):=by have:=hb1.cell 18;simpa [balC] using this
 have hbl:Below w.heap.size w ((w.alloc (cL #[X Y 2,G none 0 0,X Y k,X Y 0,X Y 0,G none 0 0,G none 0 0] 37)).alloc (cL #[X Y 0,X Y 0,X Y 0,G none 0 0] 28)):=((bR w.heap.size w).alloc (nR _) _).alloc (by simp) _
 have hz:(w.alloc (cL #[X Y 2,G none 0 0,X Y k,X Y 0,X Y 0,G none 0 0,G none 0 0] 37)).heap.size=w.heap.size + 1:=by simp
 rw[hz] at ho
 have HC:=jH (CT _ hbl)
 have H:=jH (aI ho hbl)
 clear CT hx hb hb1 ho hbl
 go_enter func7,ntmps7
 go_wp2_with fail
 generalize ((w.alloc (cL #[X Y 2,G none 0 0,X Y k,X Y 0,X Y 0,G none 0 0,G none 0 0] 37)).alloc (cL #[X Y 0,X Y 0,X Y 0,G none 0 0] 28))=w0 at *
 refine HC.out.mono ?_
 rintro e w1 ⟨rfl,hP_,hF⟩
 have HF:Hid (Blk w1 (w.heap.size + 1) 28 #[X Y 0,X Y 0,X Y 0,G none 0 0]∧P w1∧Fr K M base w w1):=⟨hF.blk _ _ _ H.out.1 hK,hP_,(Fr.of_below K M H.out.2 hbase).trans hF⟩
 clear hF hP_ HC H x0 x1 x2 x3 x4 x5 x6 c18
 obtain⟨o0,o1,o2,o3⟩:=HF.out.1.c4
 obtain⟨z0,z1,z2,z3⟩:=HF.out.1.f4
 go_wp2_with fail
 have hbq:base≤w.heap.size + 1:=nT hbase (nS _)
 have hfr:=(((((Fr.refl [28] [] base w1).set_ HF.out.1 (by simp) hbq 0 (X Y 0)).set_ (HF.out.1.set_ 0 (X Y 0)) (by simp) hbq 1 (X Y 0)).set_ ((HF.out.1.set_ 0 (X Y 0)).set_ 1 (X Y 0)) (by simp) hbq 2 (X Y 0)).set_ (((HF.out.1.set_ 0 (X Y 0)).set_ 1 (X Y 0)).set_ 2 (X Y 0)) (by simp) hbq 3 (G none 0 0))
 refine bodyPost_ret (results_row_tmp rfl _ _ (w.heap.size + 1) 28 #[X Y 0,X Y 0,X Y 0,G none 0 0] (0,0) _ rfl ((((HF.out.1.set_ 0 (X Y 0)).set_ 1 (X Y 0)).set_ 2 (X Y 0)).set_ 3 (G none 0 0)) underlying28 rfl infoOut) rfl ?_
 exact⟨rfl,hP _ _ HF.out.2.1 hfr,((((HF.out.2.2.set_new (nS _) hbase 0 (X Y 0)).set_new (nS _) hbase 1 (X Y 0)).set_new (nS _) hbase 2 (X Y 0)).set_new (nS _) hbase 3 (G none 0 0))⟩
theorem bdo_set (base bp:Nat)(bs:Value)(P:World→Prop)(K:List TypeId)(M:List Nat)(w:World){t:TypeId}{slots fl idle seg quota d ss tp chp dp gen now:Nat}{bs':Value}(hb:Blk w bp t (balC slots fl idle seg quota d ss tp chp dp gen bs' now))(hbase:base≤w.heap.size)(hK:28∉K)(hP:∀a b,P a→Fr [28] [] base a b→P b)
  (CT:∀W,Below w.heap.size w W→Calls Pg 19 #[PT (some ⟨bp,0,none⟩),aG #[X Y 3,G none 0 0,X Y 0,X Y 0,X Y 0,bs,G none 0 0]] W fun e w'=>e=rT (X Y 0)∧P w'∧Fr K M base W w'):
  Calls Pg 7 #[PT (some ⟨bp,0,none⟩),aG #[X Y 3,G none 0 0,X Y 0,X Y 0,X Y 0,bs,G none 0 0]] w fun e w'=>e=rT (tU #[aG #[X Y 0,X Y 0,X Y 0,G none 0 0],X Y 0])∧P w'∧Fr K M base w w':=by
 have hx:=(Blk.new w 37 #[X Y 3,G none 0 0,X Y 0,X Y 0,X Y 0,bs,G none 0 0]).alloc (cL #[X Y 0,X Y 0,X Y 0,G none 0 0] 28)
 obtain⟨x0,x1,x2,x3,x4,x5,x6⟩:=hx.c7
 have ho:=Blk.new (w.alloc (cL #[X Y 3,G none 0 0,X Y 0,X Y 0,X Y 0,bs,G none 0 0] 37)) 28 #[X Y 0,X Y 0,X Y 0,G none 0 0]
 have hb1:=(hb.alloc (cL #[X Y 3,G none 0 0,X Y 0,X Y 0,X Y 0,bs,G none 0 0] 37)).alloc (cL #[X Y 0,X Y 0,X Y 0,G none 0 0] 28)
 have c18:((w.alloc (cL #[X Y 3,G none 0 0,X Y 0,X Y 0,X Y 0,bs,G none 0 0] 37)).alloc (cL #[X Y 0,X Y 0,X Y 0,G none 0 0] 28)).cell? ⟨bp,18,none⟩=some (bL false):=by have:=hb1.cell 18;simpa [balC] using this
 have hbl:Below w.heap.size w ((w.alloc (cL #[X Y 3,G none 0 0,X Y 0,X Y 0,X Y 0,bs,G none 0 0] 37)).alloc (cL #[X Y 0,X Y 0,X Y 0,G none 0 0] 28)):=((bR w.heap.size w).alloc (nR _) _).alloc (by simp) _
 have hz:(w.alloc (cL #[X Y 3,G none 0 0,X Y 0,X Y 0,X Y 0,bs,G none 0 0] 37)).heap.size=w.heap.size + 1:=by simp
 rw[hz] at ho
 have HC:=jH (CT _ hbl)
 have H:=jH (aI ho hbl)
 clear CT hx hb hb1 ho hbl
 go_enter func7,ntmps7
 go_wp2_with fail
 generalize ((w.alloc (cL #[X Y 3,G none 0 0,X Y 0,X Y 0,X Y 0,bs,G none 0 0] 37)).alloc (cL #[X Y 0,X Y 0,X Y 0,G none 0 0] 28))=w0 at *
 refine HC.out.mono ?_
 rintro e w1 ⟨rfl,hP_,hF⟩
 have HF:Hid (Blk w1 (w.heap.size + 1) 28 #[X Y 0,X Y 0,X Y 0,G none 0 0]∧P w1∧Fr K M base w w1):=⟨hF.blk _ _ _ H.out.1 hK,hP_,(Fr.of_below K M H.out.2 hbase).trans hF⟩
 clear hF hP_ HC H x0 x1 x2 x3 x4 x5 x6 c18
 obtain⟨o0,o1,o2,o3⟩:=HF.out.1.c4
 obtain⟨z0,z1,z2,z3⟩:=HF.out.1.f4
 go_wp2_with fail
 have hbq:base≤w.heap.size + 1:=nT hbase (nS _)
 have hfr:=(((((Fr.refl [28] [] base w1).set_ HF.out.1 (by simp) hbq 0 (X Y 0)).set_ (HF.out.1.set_ 0 (X Y 0)) (by simp) hbq 1 (X Y 0)).set_ ((HF.out.1.set_ 0 (X Y 0)).set_ 1 (X Y 0)) (by simp) hbq 2 (X Y 0)).set_ (((HF.out.1.set_ 0 (X Y 0)).set_ 1 (X Y 0)).set_ 2 (X Y 0)) (by simp) hbq 3 (G none 0 0))
 refine bodyPost_ret (results_row_tmp rfl _ _ (w.heap.size + 1) 28 #[X Y 0,X Y 0,X Y 0,G none 0 0] (0,0) _ rfl ((((HF.out.1.set_ 0 (X Y 0)).set_ 1 (X Y 0)).set_ 2 (X Y 0)).set_ 3 (G none 0 0)) underlying28 rfl infoOut) rfl ?_
 exact⟨rfl,hP _ _ HF.out.2.1 hfr,((((HF.out.2.2.set_new (nS _) hbase 0 (X Y 0)).set_new (nS _) hbase 1 (X Y 0)).set_new (nS _) hbase 2 (X Y 0)).set_new (nS _) hbase 3 (G none 0 0))⟩
theorem bdo_sync (base bp:Nat)(P:World→Prop)(K:List TypeId)(M:List Nat)(w:World){t:TypeId}{slots fl idle seg quota d ss tp chp dp gen now:Nat}{bs':Value}(hb:Blk w bp t (balC slots fl idle seg quota d ss tp chp dp gen bs' now))(hbase:base≤w.heap.size)(hK:28∉K)(hP:∀a b,P a→Fr [28] [] base a b→P b)
  (CT:∀W,Below w.heap.size w W→Calls Pg 19 #[PT (some ⟨bp,0,none⟩),aG #[X Y 6,G none 0 0,X Y 0,X Y 0,X Y 0,G none 0 0,G none 0 0]] W fun e w'=>e=rT (X Y 0)∧P w'∧Fr K M base W w'):
  Calls Pg 7 #[PT (some ⟨bp,0,none⟩),aG #[X Y 6,G none 0 0,X Y 0,X Y 0,X Y 0,G none 0 0,G none 0 0]] w fun e w'=>e=rT (tU #[aG #[X Y 0,X Y 0,X Y 0,G none 0 0],X Y 0])∧P w'∧Fr K M base w w':=by
 have hx:=(Blk.new w 37 #[X Y 6,G none 0 0,X Y 0,X Y 0,X Y 0,G none 0 0,G none 0 0]).alloc (cL #[X Y 0,X Y 0,X Y 0,G none 0 0] 28)
 obtain⟨x0,x1,x2,x3,x4,x5,x6⟩:=hx.c7
 have ho:=Blk.new (w.alloc (cL #[X Y 6,G none 0 0,X Y 0,X Y 0,X Y 0,G none 0 0,G none 0 0] 37)) 28 #[X Y 0,X Y 0,X Y 0,G none 0 0]
 have hb1:=(hb.alloc (cL #[X Y 6,G none 0 0,X Y 0,X Y 0,X Y 0,G none 0 0,G none 0 0] 37)).alloc (cL #[X Y 0,X Y 0,X Y 0,G none 0 0] 28)
 have c18:((w.alloc (cL #[X Y 6,G none 0 0,X Y 0,X Y 0,X Y 0,G none 0 0,G none 0 0] 37)).alloc (cL #[X Y 0,X Y 0,X Y 0,G none 0 0] 28)).cell? ⟨bp,18,none⟩=some (bL false):=by have:=hb1.cell 18;simpa [balC] using this
 have hbl:Below w.heap.size w ((w.alloc (cL #[X Y 6,G none 0 0,X Y 0,X Y 0,X Y 0,G none 0 0,G none 0 0] 37)).alloc (cL #[X Y 0,X Y 0,X Y 0,G none 0 0] 28)):=((bR w.heap.size w).alloc (nR _) _).alloc (by simp) _
 have hz:(w.alloc (cL #[X Y 6,G none 0 0,X Y 0,X Y 0,X Y 0,G none 0 0,G none 0 0] 37)).heap.size=w.heap.size + 1:=by simp
 rw[hz] at ho
 have HC:=jH (CT _ hbl)
 have H:=jH (aI ho hbl)
 clear CT hx hb hb1 ho hbl
 go_enter func7,ntmps7
 go_wp2_with fail
 generalize ((w.alloc (cL #[X Y 6,G none 0 0,X Y 0,X Y 0,X Y 0,G none 0 0,G none 0 0] 37)).alloc (cL #[X Y 0,X Y 0,X Y 0,G none 0 0] 28))=w0 at *
 refine HC.out.mono ?_
 rintro e w1 ⟨rfl,hP_,hF⟩
 have HF:Hid (Blk w1 (w.heap.size + 1) 28 #[X Y 0,X Y 0,X Y 0,G none 0 0]∧P w1∧Fr K M base w w1):=⟨hF.blk _ _ _ H.out.1 hK,hP_,(Fr.of_below K M H.out.2 hbase).trans hF⟩
 clear hF hP_ HC H x0 x1 x2 x3 x4 x5 x6 c18
 obtain⟨o0,o1,o2,o3⟩:=HF.out.1.c4
 obtain⟨z0,z1,z2,z3⟩:=HF.out.1.f4
 go_wp2_with fail
 have hbq:base≤w.heap.size + 1:=nT hbase (nS _)
 have hfr:=(((((Fr.refl [28] [] base w1).set_ HF.out.1 (by simp) hbq 0 (X Y 0)).set_ (HF.out.1.set_ 0 (X Y 0)) (by simp) hbq 1 (X Y 0)).set_ ((HF.out.1.set_ 0 (X Y 0)).set_ 1 (X Y 0)) (by simp) hbq 2 (X Y 0)).set_ (((HF.out.1.set_ 0 (X Y 0)).set_ 1 (X Y 0)).set_ 2 (X Y 0)) (by simp) hbq 3 (G none 0 0))
 refine bodyPost_ret (results_row_tmp rfl _ _ (w.heap.size + 1) 28 #[X Y 0,X Y 0,X Y 0,G none 0 0] (0,0) _ rfl ((((HF.out.1.set_ 0 (X Y 0)).set_ 1 (X Y 0)).set_ 2 (X Y 0)).set_ 3 (G none 0 0)) underlying28 rfl infoOut) rfl ?_
 exact⟨rfl,hP _ _ HF.out.2.1 hfr,((((HF.out.2.2.set_new (nS _) hbase 0 (X Y 0)).set_new (nS _) hbase 1 (X Y 0)).set_new (nS _) hbase 2 (X Y 0)).set_new (nS _) hbase 3 (G none 0 0))⟩
theorem bdo_packet (base bp:Nat)(da:Value)(bid:Nat)(P:World→Prop)(K:List TypeId)(M:List Nat)(w:World){t:TypeId}{slots fl idle seg quota d ss tp chp dp gen now:Nat}{bs':Value}(hb:Blk w bp t (balC slots fl idle seg quota d ss tp chp dp gen bs' now))(hbase:base≤w.heap.size)(hK:28∉K)(hP:∀a b,P a→Fr [28] [] base a b→P b)
  (CT:∀W,Below w.heap.size w W→Calls Pg 18 #[PT (some ⟨bp,0,none⟩),da] W fun e w'=>(∃A' n' c',e=rT (aG #[X Y 2,X Y 0,X Y bid,G A' n' c']))∧P w'∧Fr K M base W w'):
  Calls Pg 7 #[PT (some ⟨bp,0,none⟩),aG #[X Y 1,da,X Y 0,X Y 0,X Y 0,G none 0 0,G none 0 0]] w fun e w'=>(∃A' n' c',e=rT (tU #[aG #[X Y 2,X Y 0,X Y bid,G A' n' c'],X Y 0]))∧P w'∧Fr K M base w w':=by
 have hx:=(Blk.new w 37 #[X Y 1,da,X Y 0,X Y 0,X Y 0,G none 0 0,G none 0 0]).alloc (cL #[X Y 0,X Y 0,X Y 0,G none 0 0] 28)
 obtain⟨x0,x1,x2,x3,x4,x5,x6⟩:=hx.c7
 have ho:=Blk.new (w.alloc (cL #[X Y 1,da,X Y 0,X Y 0,X Y 0,G none 0 0,G none 0 0] 37)) 28 #[X Y 0,X Y 0,X Y 0,G none 0 0]
 have hb1:=(hb.alloc (cL #[X Y 1,da,X Y 0,X Y 0,X Y 0,G none 0 0,G none 0 0] 37)).alloc (cL #[X Y 0,X Y 0,X Y 0,G none 0 0] 28)
 have c18:((w.alloc (cL #[X Y 1,da,X Y 0,X Y 0,X Y 0,G none 0 0,G none 0 0] 37)).alloc (cL #[X Y 0,X Y 0,X Y 0,G none 0 0] 28)).cell? ⟨bp,18,none⟩=some (bL false):=by have:=hb1.cell 18;simpa [balC] using this
 have hbl:Below w.heap.size w ((w.alloc (cL #[X Y 1,da,X Y 0,X Y 0,X Y 0,G none 0 0,G none 0 0] 37)).alloc (cL #[X Y 0,X Y 0,X Y 0,G none 0 0] 28)):=((bR w.heap.size w).alloc (nR _) _).alloc (by simp) _
 have hz:(w.alloc (cL #[X Y 1,da,X Y 0,X Y 0,X Y 0,G none 0 0,G none 0 0] 37)).heap.size=w.heap.size + 1:=by simp
 rw[hz] at ho
 have HC:=jH (CT _ hbl)
 have H:=jH (aI ho hbl)
 clear CT hx hb hb1 ho hbl
 go_enter func7,ntmps7
 go_wp2_with fail
 generalize ((w.alloc (cL #[X Y 1,da,X Y 0,X Y 0,X Y 0,G none 0 0,G none 0 0] 37)).alloc (cL #[X Y 0,X Y 0,X Y 0,G none 0 0] 28))=w0 at *
 refine HC.out.mono ?_
 rintro e w1 ⟨⟨A9,n9,c9,rfl⟩,hP_,hF⟩
 have HF:Hid (Blk w1 (w.heap.size + 1) 28 #[X Y 0,X Y 0,X Y 0,G none 0 0]∧P w1∧Fr K M base w w1):=⟨hF.blk _ _ _ H.out.1 hK,hP_,(Fr.of_below K M H.out.2 hbase).trans hF⟩
 clear hF hP_ HC H x0 x1 x2 x3 x4 x5 x6 c18
 obtain⟨o0,o1,o2,o3⟩:=HF.out.1.c4
 obtain⟨z0,z1,z2,z3⟩:=HF.out.1.f4
 go_wp2_with fail
 have hbq:base≤w.heap.size + 1:=nT hbase (nS _)
 have hfr:=(((((Fr.refl [28] [] base w1).set_ HF.out.1 (by simp) hbq 0 (X Y 2)).set_ (HF.out.1.set_ 0 (X Y 2)) (by simp) hbq 1 (X Y 0)).set_ ((HF.out.1.set_ 0 (X Y 2)).set_ 1 (X Y 0)) (by simp) hbq 2 (X Y bid)).set_ (((HF.out.1.set_ 0 (X Y 2)).set_ 1 (X Y 0)).set_ 2 (X Y bid)) (by simp) hbq 3 (G A9 n9 c9))
 refine bodyPost_ret (results_row_tmp rfl _ _ (w.heap.size + 1) 28 #[X Y 2,X Y 0,X Y bid,G A9 n9 c9] (0,0) _ rfl ((((HF.out.1.set_ 0 (X Y 2)).set_ 1 (X Y 0)).set_ 2 (X Y bid)).set_ 3 (G A9 n9 c9)) underlying28 rfl infoOut) rfl ?_
 exact⟨⟨A9,n9,c9,rfl⟩,hP _ _ HF.out.2.1 hfr,((((HF.out.2.2.set_new (nS _) hbase 0 (X Y 2)).set_new (nS _) hbase 1 (X Y 0)).set_new (nS _) hbase 2 (X Y bid)).set_new (nS _) hbase 3 (G A9 n9 c9))⟩
end
section
open Go.RowKit Go.Maps
section
variable {w:World}{base base':Nat}
theorem HpAt.low {qp qm n c:Nat}{A:Option Addr}{l:List It}(h:HpAt w base qp qm A n c l)(hb:base'≤base):HpAt w base' qp qm A n c l:=
 ⟨nT hb h.loq,nT hb h.hi,h.blk,own_base h.row hb,fun j x hx=>⟨nT hb (h.its j x hx).1,(h.its j x hx).2⟩⟩
theorem DuAt.low {qp qm:Nat}{l:List It}(h:DuAt w base qp qm l)(hb:base'≤base):DuAt w base' qp qm l:=by
 obtain⟨A,c,h1⟩:=h.hp
 exact⟨⟨A,c,h1.low hb⟩,h.mp,nT hb h.lom,h.few⟩
theorem TabAt.low {tp tm tk qp most idle:Nat}{fm:List (Tu×Fl)}(h:TabAt w base tp tm tk qp most idle fm)(hb:base'≤base):TabAt w base' tp tm tk qp most idle fm:=
 {h with lot:=nT hb h.lot,lom:=nT hb h.lom,lok:=nT hb h.lok}
theorem FlowAt.low {tp tm tk qp qm most idle:Nat}{fm:List (Tu×Fl)}{l:List It}(h:FlowAt w base tp tm tk qp qm most idle fm l)(hb:base'≤base):FlowAt w base' tp tm tk qp qm most idle fm l:=
 {h with tab:=h.tab.low hb,q:=h.q.low hb}
theorem Q0.low {qp qm:Nat}(h:Q0 w base qp qm)(hb:base'≤base):Q0 w base' qp qm:=⟨nT hb h.loq,nT hb h.lom,h.blk,h.mp⟩
theorem Dr0.low {dp dm qp qm:Nat}(h:Dr0 w base dp dm qp qm)(hb:base'≤base):Dr0 w base' dp dm qp qm:=⟨nT hb h.lod,nT hb h.lom,h.ne,h.blk,h.q.low hb,h.mp⟩
end
end
section
open Go.RowKit Go.Maps
theorem recSt_bes (rs:List RecS):∀x:Nat×List Be×List (Tu×Fl),(∀r∈rs,r.Ok)→BesOk x.2.1∧MayBs x.2.1.length x.2.1→BesOk (rs.foldl RecS.step x).2.1∧MayBs (rs.foldl RecS.step x).2.1.length (rs.foldl RecS.step x).2.1:=by
 induction rs with
 |nil=>intro x _ h;exact h
 |cons r rs ih=>
  intro x hr h
  rw[List.foldl_cons]
  refine ih _ (fun r' h'=>hr r' (List.mem_cons_of_mem _ h')) ?_
  have h0:=hr r List.mem_cons_self
  cases r with
  |gen g l=>exact⟨h0.2.1,h0.2.2⟩
  |put f=>exact h
theorem recSt_bes0 (rs:List RecS)(hok:∀r∈rs,r.Ok):BesOk (recSt rs).2.1∧MayBs (recSt rs).2.1.length (recSt rs).2.1:=
 recSt_bes rs (0,[],[]) hok ⟨fun b h=>by simp at h,⟨by simp,fun j h=>by simp at h⟩⟩
theorem stopen_ok (base d mn ms size Q ops f1 f2 s:Nat)(rs:List RecS)(L:List Nat)(w:World)(hL:L=logB 3 (rs.map RecS.fr))(hok:∀r∈rs,r.Ok)(hlen:rs.length≤200)(hfr:FrOk (rs.map RecS.fr))
  (hD:DiskAt w base d mn ms (diskL Q ops f1 f2 L s 3))(hs1:16≤size)(hs2:size≤1048576)(hne:f1≠f2)(hops:ops≤800000000000):
  Calls Pg 38 #[PT (some ⟨d,0,none⟩),X Y 3,X Y size] w fun e w'=>∃ss lg sp sd sf ms',e=rT (tU #[PT (some ⟨ss,0,none⟩),X Y 0])∧StoreAt w' base ss lg sp sd sf d mn ms' size Q (ops + 2) f1 f2 L.length L (recSt rs).1 (recSt rs).2.1 (recSt rs).2.2∧w.heap.size≤sd∧w.heap.size≤sf∧w.heap.size≤ms'∧sd≠sf∧Fr (192::KD) [mn,sf] base w w':=by
 have h2:mget (diskL Q ops f1 f2 L s 3).now (⟨#[109]⟩:ByteArray)=some f2:=by unfold diskL;rw[mget_cons,if_neg s1_ne_hd,mget_cons,if_pos rfl]
 have CP:=jH (peek_ok base d mn ms f2 3 2 [1] _ _ w hD h2 (diskL_file2 hne) rfl (mok1 3 (by omega) (by omega)))
 rw[show ((3:Nat):Int)=3 from rfl] at CP
 have H0:=jH hD
 have HL:=jH hL
 have HX:=jH (aI hne (aI hops (aI hs1 (aI hs2 (aI hok (aI hlen hfr))))))
 clear hD hL h2 hne hops hs1 hs2 hok hlen hfr
 go_enter func38,ntmps38
 go_wp2_with fail
 refine CP.out.mono ?_
 rintro e w1 ⟨rfl,hb1⟩
 go_wp2_with fail
 refine(stnew_ok w1).mono ?_
 rintro e w2 ⟨sp,sd,sf,rfl,hst,hb2⟩
 obtain⟨q,hq⟩:∃q,q=w2.heap.size:=⟨_,rfl⟩
 go_wp2_with fail
 rw[←hq]
 have H2:Hid (DiskAt (w2.alloc (cL #[PT (some ⟨sp,0,none⟩)] 188)) base d mn ms (diskL Q ops f1 f2 L s 3)∧StAt (w2.alloc (cL #[PT (some ⟨sp,0,none⟩)] 188)) base sp sd sf 0 [] []∧Blk (w2.alloc (cL #[PT (some ⟨sp,0,none⟩)] 188)) q 188 #[PT (some ⟨sp,0,none⟩)]∧Below w.heap.size w (w2.alloc (cL #[PT (some ⟨sp,0,none⟩)] 188))∧base≤w.heap.size∧w.heap.size≤sd∧w.heap.size≤sf∧sd≠sf∧mn < w.heap.size∧ms < w.heap.size∧mn≠ms):=by
  have hb3:Below w2.heap.size w2 (w2.alloc (cL #[PT (some ⟨sp,0,none⟩)] 188)):=(bR _ _).alloc (nR _) _
  have s1:=hb1.size
  have hb13:Below w1.heap.size w1 (w2.alloc (cL #[PT (some ⟨sp,0,none⟩)] 188)):=hb2.trans (hb3.mono hb2.size)
  have hb03:=hb1.trans (hb13.mono s1)
  have e1:=H0.out.hi
  have e2:=hst.lod
  have e3:=hst.lof
  exact⟨H0.out.made hb03,(hst.low (by omega)).made hb3,hq▸Blk.new w2 _ _,hb03,e1,by omega,by omega,hst.ne,H0.out.now.lt,H0.out.sure.lt,H0.out.ne⟩
 clear hst hb1 hb2 CP hq H0
 generalize (w2.alloc (cL #[PT (some ⟨sp,0,none⟩)] 188))=w3 at *
 have CO:=jH (sopen_ok base d mn ms size Q ops f1 f2 s 3 sp sf L (rs.map RecS.fr) (fun j W=>StAt W base sp sd sf (recSt (rs.take j)).1 (recSt (rs.take j)).2.1 (recSt (rs.take j)).2.2) w3 H2.out.1 HL.out HX.out.2.2.2.2.2.2 (by decide) (by decide) HX.out.2.2.1 HX.out.2.2.2.1 HX.out.1 HX.out.2.1 (by have:=H2.out;omega) (by have:=H2.out;omega)
  (by simpa [recSt] using H2.out.2.1) (fun j W W' h k=>h.made k) (fun j W W' h k=>h.fr k (by decide) (by decide) (by have:=H2.out;simp;omega) (by have:=H2.out;simp;omega))
  (fun j k l A1 c1 W hj hJ hr hnil=>recs_step base sp sd sf 3 rs HX.out.2.2.2.2.1 HX.out.2.2.2.2.2.1 j k l A1 c1 W hj hJ hr hnil))
 refine CO.out.mono ?_
 rintro e w4 ⟨lg,ms',rfl,hJ,hms',hlg,hD4,hL4,hF4⟩
 have H4:Hid (StAt w4 base sp sd sf (recSt rs).1 (recSt rs).2.1 (recSt rs).2.2∧w3.heap.size≤ms'∧DiskAt w4 base d mn ms' (diskL Q (ops + 2) f1 f2 L L.length 3)∧LogAt w4 base lg d size 3 2 [1] false∧Fr (192::KD) [mn,sf] base w w4∧Blk w4 q 188 #[PT (some ⟨sp,0,none⟩)]):=by
  obtain⟨g1,g2,g3,g4,g5,g6⟩:=H2.out
  refine⟨?_,hms',hD4,hL4,(Fr.of_below _ _ g4 g5).trans hF4,hF4.blk _ _ _ g3 (by decide)⟩
  rw[List.length_map,List.take_length] at hJ
  exact hJ
 clear CO hJ hms' hlg hD4 hL4 hF4
 go_wp2_with fail
 refine(clean_ok base lg d mn ms' size 3 2 f1 f2 _ w4 H4.out.2.2.2.1 H4.out.2.2.1 rfl).mono ?_
 rintro e w5 ⟨rfl,hb5⟩
 have H5:Hid (StAt w5.drew base sp sd sf (recSt rs).1 (recSt rs).2.1 (recSt rs).2.2∧DiskAt w5.drew base d mn ms' (diskL Q (ops + 2) f1 f2 L L.length 3)∧LogAt w5.drew base lg d size 3 2 [1] false∧Fr (192::KD) [mn,sf] base w w5.drew∧Blk w5.drew q 188 #[PT (some ⟨sp,0,none⟩)]):=by
  obtain⟨g1,g2,g3,g4,g5,g6⟩:=H4.out
  have hb6:Below w4.heap.size w4 w5.drew:=hb5.drew
  have e0:=H2.out.2.2.2.2.1
  exact⟨g1.made hb6,g3.made hb6,g4.made hb6,g5.made hb6 (nT e0 g5.size),g6.below hb6 g6.lt⟩
 have d0:w5.drew.cell? ⟨q,0,none⟩=some (PT (some ⟨sp,0,none⟩)):=H5.out.2.2.2.2.cell 0
 have hlb:(recSt rs).2.1.length≤1000:=by have:=(recSt_bes0 rs HX.out.2.2.2.2.1).2.1;omega
 have hlf:(recSt rs).2.2.length≤1000000:=by have:=recSt_length rs;have:=HX.out.2.2.2.2.2.1;omega
 have CV:=jH (stview_ok base sp sd sf (recSt rs).1 (recSt rs).2.1 (recSt rs).2.2 w5.drew H5.out.1 hlb hlf)
 clear hlb hlf hb5
 generalize hg:(recSt rs).1=g at *
 generalize hbl:(recSt rs).2.1=bl at *
 generalize hfm:(recSt rs).2.2=fm at *
 have HG:=jH (aI hg (aI hbl hfm))
 clear hg hbl hfm
 go_wp2_with fail
 go_region_held3 (fun wS=>wS.cell? ⟨q,0,none⟩=some (PT (some ⟨sp,0,none⟩))) (first|with_reducible exact d0|with_reducible exact d1|with_reducible exact d2 _|fail)
  (first
   |(go_at_call 40;(with_reducible refine CV.out.mono ?_);rintro e w6 ⟨A1,c1,v1,fs,rfl,hown1,hperm,hown2,hb6⟩;obtain⟨A2,c2,rfl⟩:=own_slice hown2;have k6:=H5.out.2.2.2.2.below hb6 H5.out.2.2.2.2.lt;have d1:w6.cell? ⟨q,0,none⟩=some (PT (some ⟨sp,0,none⟩)):=k6.cell 0;have d2:∀o,(w6.alloc o).cell? ⟨q,0,none⟩=some (PT (some ⟨sp,0,none⟩)):=fun o=>(k6.alloc o).cell 0))
 have hlt:=fs.length
 have HF:Hid (StoreAt (w6.alloc (cL #[PT (some ⟨lg,0,none⟩),PT (some ⟨sp,0,none⟩),X Y g,G A1 bl.length c1,G none 0 0,G A2 fs.length c2] 175)) base w6.heap.size lg sp sd sf d mn ms' size Q (ops + 2) f1 f2 L.length L g bl fm∧w.heap.size≤sd∧w.heap.size≤sf∧w.heap.size≤ms'∧sd≠sf∧Fr (192::KD) [mn,sf] base w (w6.alloc (cL #[PT (some ⟨lg,0,none⟩),PT (some ⟨sp,0,none⟩),X Y g,G A1 bl.length c1,G none 0 0,G A2 fs.length c2] 175))):=by
  obtain⟨g1,g2,g3,g4,g5⟩:=H5.out
  obtain⟨-,-,-,j4,j5,j6,j7,j8,j9,j10,j11⟩:=H2.out
  have e1:=H4.out.2.1
  have e2:=j4.size
  have hb7:Below w5.drew.heap.size w5.drew (w6.alloc (cL #[PT (some ⟨lg,0,none⟩),PT (some ⟨sp,0,none⟩),X Y g,G A1 bl.length c1,G none 0 0,G A2 fs.length c2] 175)):=hb6.alloc hb6.size _
  have e3:base≤w5.drew.heap.size:=nT j5 g4.size
  have e4:=hb6.size
  have e5:sd < w3.heap.size:=H2.out.2.1.dr.lt
  have e6:sf < w3.heap.size:=H2.out.2.1.fm.lt
  exact⟨⟨⟨by omega,_,_,_,_,Blk.new _ _ _⟩,g1.made hb7,g2.made hb7,g3.made hb7,HX.out.1,by omega,by omega,by omega,by omega⟩,j6,j7,by omega,j8,g4.made hb7 e3⟩
 clear H5 H4 H2 CV d0 d1 d2 hown1 hown2 hb6 k6 hperm HX
 go_wp2_with fail
 go_ret2
 obtain⟨rfl,rfl,rfl⟩:=HG.out
 exact⟨_,lg,sp,sd,sf,ms',rfl,HF.out⟩
def KH:List TypeId:=[69,269]++KF
theorem Fr.offM {K:List TypeId}{M:List Nat}{base:Nat}{w w':World}(h:Fr K M base w w')(hM:∀b∈M,w.heap.size≤b):Fr K [] base w w':=
 ⟨h.below,h.blk,fun b es c h0 _=>h.map b es c h0 (fun e=>by have:=hM b e;have:=(Array.getElem?_eq_some_iff.1 h0).1;omega)⟩
def balG (slots fl idle seg quota d ss:Nat)(v10 v11 v12 v13 v14:Value)(now:Nat):Array Value:=
 #[X Z 168364297,X Y slots,X Y fl,X Y idle,X Y 1500,X Y seg,X Y quota,X Y 3,PT (some ⟨d,0,none⟩),PT (some ⟨ss,0,none⟩),v10,v11,v12,v13,v14,X Y now,X Y 0,bL false,bL false]
theorem balG_S {w:World}{bp slots fl idle seg quota d ss now:Nat}{v10 v11 v12 v13 v14:Value}{t:TypeId}(h:Blk w bp t (balG slots fl idle seg quota d ss v10 v11 v12 v13 v14 now)):w.cell? ⟨bp,1,none⟩=some (X Y slots)∧w.cell? ⟨bp,2,none⟩=some (X Y fl)∧w.cell? ⟨bp,3,none⟩=some (X Y idle):=
 ⟨by have:=h.cell 1;simpa [balG] using this,by have:=h.cell 2;simpa [balG] using this,by have:=h.cell 3;simpa [balG] using this⟩
def flm (fs:List Fl):List (Tu×Fl):=fs.map fun f=>(f.k,f)
def seenAt (now:Nat)(fs:List Fl):List Fl:=fs.map fun f=>({f with seen:=now}:Fl)
theorem flm_snoc {fs:List Fl}{f:Fl}(h:f.k∉fs.map Fl.k):mput (flm fs) f.k f=flm (fs++[f]):=by
 unfold mput
 have:(flm fs).any (fun p=>p.1=f.k)=false:=by
  rw[List.any_eq_false]
  intro p hp
  obtain⟨g,hg,rfl⟩:=List.mem_map.1 hp
  simp
  intro e
  exact h (e▸List.mem_map.2 ⟨g,hg,rfl⟩)
 rw[this]
 simp[flm]
theorem flm_none {fs:List Fl}{k:Tu}(h:k∉fs.map Fl.k):mget (flm fs) k=none:=by
 refine mget_none fun p hp=>?_
 obtain⟨g,hg,rfl⟩:=List.mem_map.1 hp
 intro e
 exact h (e▸List.mem_map.2 ⟨g,hg,rfl⟩)
theorem seenAt_keys (now:Nat)(fs:List Fl):(seenAt now fs).map Fl.k=fs.map Fl.k:=by simp[seenAt]
structure HaveA (w wS:World)(base bp slots fl idle seg quota d ss now:Nat)(v13 v14:Value)(tp tm tk qp qm chp dp dm qp2 qm2:Nat):Prop where
 blk:Blk wS bp 69 (balG slots fl idle seg quota d ss (PT (some ⟨tp,0,none⟩)) (PT (some ⟨chp,0,none⟩)) (PT (some ⟨dp,0,none⟩)) v13 v14 now)
 fl:FlowAt wS base tp tm tk qp qm fl idle [] []
 ch:Ch wS chp slots [] (List.replicate slots (-1)) 0
 dr:Dr0 wS base dp dm qp2 qm2
 loc:w.heap.size≤chp
 qne:qp≠qp2
 n1:w.heap.size≤tm
 n2:w.heap.size≤tk
 n3:w.heap.size≤qm
 n4:tm < dm∧tk < dm∧qm < dm
 n5:tm < qm2∧tk < qm2∧qm < qm2
 n6:tm≠tk
 fr:Fr [69] [] base w wS
theorem bhave_any (base bp slots fl idle seg quota d ss now gen:Nat)(v10 v11 v12 v13 v14:Value)(A:Option Addr)(c b2:Nat)(bl:List Be)(A3:Option Addr)(c3 b3:Nat)(fs:List Fl)(anew:Bool)(lg sp sd sf mn ms ops f1 f2 s:Nat)(L:List Nat)(gs:Nat)(bls:List Be)(fms:List (Tu×Fl))(w:World)
  (hb:Blk w bp 69 (balG slots fl idle seg quota d ss v10 v11 v12 v13 v14 now))(hlo:base≤bp)(hbase:base≤w.heap.size)
  (hr:w.ownsRow b2 34 3 (G A bl.length c) bl.length (bks bl))
  (hfo:w.ownsRow b3 47 8 (G A3 fs.length c3) fs.length (flvs fs))(hfok:∀f∈fs,FlOk f)(hnd:(fs.map Fl.k).Nodup)(hmost:fs.length≤fl)(han:fs=[]∨anew=true)(hnow:now≤1099511627776)
  (hs:StoreAt w base ss lg sp sd sf d mn ms seg quota ops f1 f2 s L gs bls fms)(h16:bls.length≤16)(hok:BesOk bl)(hmay:MayBs bl.length bl)(hmn:mayN slots=true)(hsl:slots≤1000000)(hfl:fl≤256)(hi1:1≤idle)(hi2:idle≤1099511627776):
  Calls Pg 32 #[PT (some ⟨bp,0,none⟩),aG #[X Y gen,G A bl.length c,G none 0 0,G A3 fs.length c3],.bool anew] w fun e w'=>e=rT (tU #[])∧(∃tp tm tk qp qm chp dp dm qp2 qm2 il,BalAt w' base ⟨bp,d,ss,tp,chp,dp,lg,sp,sd,sf,mn,ms,f1,f2,tm,tk,qp,qm,dm,qp2,qm2⟩ slots fl idle seg quota gen now ops s L bl fms (flm (seenAt now fs)) il 1)∧Fr KH [] base w w':=by
 have hx:=Blk.new w 44 #[X Y gen,G A bl.length c,G none 0 0,G A3 fs.length c3]
 have hbx:Below w.heap.size w (w.alloc (cL #[X Y gen,G A bl.length c,G none 0 0,G A3 fs.length c3] 44)):=(bR _ _).alloc (nR _) _
 have hb1:=hb.below hbx hb.lt
 have hlt:=hb.lt
 have HH:=jH (aI hx (aI hbx (aI hb1 (aI hs (aI hr hfo)))))
 have hsz:(w.alloc (cL #[X Y gen,G A bl.length c,G none 0 0,G A3 fs.length c3] 44)).heap.size=w.heap.size + 1:=by simp
 have d0:=balG_S hb1.drew
 have hmp:[mn,ms,sd,sf].Nodup∧mn < w.heap.size∧ms < w.heap.size∧sd < w.heap.size∧sf < w.heap.size:=by
  have e1:=hs.dk.ne
  have e2:=hs.st.ne
  have e3:=hs.mm
  have e4:=hs.md
  have e5:=hs.s1
  have e6:=hs.s2
  refine⟨by simp[e1,e2,e3,e4,e5,e6],hs.dk.now.lt,hs.dk.sure.lt,hs.st.dr.lt,hs.st.fm.lt⟩
 have HM:=jH hmp
 clear hmp
 have HN:=jH (aI hbase (aI hfok (aI hnd (aI hmost (aI han (aI hnow (aI hlo hsz)))))))
 have HB1:=jH hb1.drew
 clear hx hbx hb1 hs hr hfo hb
 go_enter func32,ntmps32
 go_wp2_with fail
 generalize w.alloc (cL #[X Y gen,G A bl.length c,G none 0 0,G A3 fs.length c3] 44)=w1 at *
 clear hsz hbase hfok hnd hmost han hnow hlo
 go_region_held3 (fun wS=>wS.cell? ⟨bp,1,none⟩=some (X Y slots)∧wS.cell? ⟨bp,2,none⟩=some (X Y fl)∧wS.cell? ⟨bp,3,none⟩=some (X Y idle)) (first|with_reducible exact d0|with_reducible exact d1|with_reducible exact d2|with_reducible exact d3|with_reducible exact d4 _|with_reducible exact d5 _ _|with_reducible exact d6 _ _ _|fail)
  (first
   |(go_at_call 87;(with_reducible refine(flnew_ok fl idle hfl hi1 hi2 _).mono ?_);rintro e w2 ⟨⟨tp,tm,tk,qp,qm,rfl,hfl2⟩,hb2⟩;have k2:=HB1.out.below hb2 HB1.out.lt;have d1:=balG_S k2)
   |(go_at_call 88;(with_reducible refine(new_yes slots hsl hmn _).mono ?_);rintro e w3 ⟨chp,rfl,hle3,hch,hb3⟩;have k3:=k2.below hb3 k2.lt;have d2:=balG_S k3)
   |(go_at_call 89;(with_reducible refine(drnew_ok _).mono ?_);rintro e w4 ⟨dp,dm,qp2,qm2,rfl,hdr,hb4⟩;have k4:=k3.below hb4 k3.lt;have d3:=balG_S k4;have z10:=k4.frozen 10;have z11:=k4.frozen 11;have z12:=k4.frozen 12;have y10:=k4.cell 10;have y11:=k4.cell 11;have y12:=k4.cell 12;(simp only[balG,ga,gz,gN] at y10 y11 y12);have d4:=fun v=>balG_S (v10:=v) (k4.set_ 10 v);have d5:=fun v u=>balG_S (v10:=v) (v11:=u) ((k4.set_ 10 v).set_ 11 u);have d6:=fun v u x=>balG_S (v10:=v) (v11:=u) (v12:=x) (((k4.set_ 10 v).set_ 11 u).set_ 12 x)))
 have HA:(fun Vv:World=>Hid (HaveA w Vv base bp slots fl idle seg quota d ss now v13 v14 tp tm tk qp qm chp dp dm qp2 qm2∧StoreAt Vv base ss lg sp sd sf d mn ms seg quota ops f1 f2 s L gs bls fms∧Vv.ownsRow b2 34 3 (G A bl.length c) bl.length (bks bl)∧Vv.ownsRow b3 47 8 (G A3 fs.length c3) fs.length (flvs fs)∧Blk Vv w.heap.size 44 #[X Y gen,G A bl.length c,G none 0 0,G A3 fs.length c3])) (((w4.setCell ⟨bp,10,none⟩ (PT (some ⟨tp,0,none⟩))).setCell ⟨bp,11,none⟩ (PT (some ⟨chp,0,none⟩))).setCell ⟨bp,12,none⟩ (PT (some ⟨dp,0,none⟩))):=by
  obtain⟨x1,x2,x3,x4,x5,x6⟩:=HH.out
  obtain⟨hbase,hfok,hnd,hmost,han,hnow,hlo,hsz⟩:=HN.out
  have hw1:Below w.heap.size w w1.drew:=x2.drew
  have hsz':w1.drew.heap.size=w.heap.size + 1:=hsz
  have s2:=hb2.size
  have s3:=hb3.size
  have s4:=hb4.size
  have hw2:Below w.heap.size w w2:=hw1.trans (hb2.mono (by omega))
  have hw3:Below w.heap.size w w3:=hw2.trans (hb3.mono (by omega))
  have hw4:Below w.heap.size w w4:=hw3.trans (hb4.mono (by omega))
  have hf0:Fr [69] [] base w4 (((w4.setCell ⟨bp,10,none⟩ (PT (some ⟨tp,0,none⟩))).setCell ⟨bp,11,none⟩ (PT (some ⟨chp,0,none⟩))).setCell ⟨bp,12,none⟩ (PT (some ⟨dp,0,none⟩))):=(((Fr.refl _ _ base w4).set_ k4 (by simp) hlo 10 _).set_ (k4.set_ 10 _) (by simp) hlo 11 _).set_ ((k4.set_ 10 _).set_ 11 _) (by simp) hlo 12 _
  have e1:=hfl2.tab.mf.lt
  have e2:=hfl2.tab.ks.lt
  obtain⟨m2,hm2,-⟩:=hfl2.q.mp
  have e3:=hm2.lt
  obtain⟨A5,c5,hq5⟩:=hfl2.q.hp
  have e4:=hq5.blk.lt
  have g1:=hfl2.tab.lom
  have g2:=hfl2.tab.lok
  have g3:=hfl2.q.lom
  have g4:=hdr.lom
  have g5:=hdr.q.lom
  have g6:=hdr.q.loq
  have flA:FlowAt w4 base tp tm tk qp qm fl idle [] []:=((hfl2.low (by omega)).fr (Fr.of_below [] [] (hb3.trans (hb4.mono s3)) (by omega)) (by simp) (by simp) (by simp) (by simp) (by simp) (by simp) (by simp))
  refine⟨⟨((k4.set_ 10 _).set_ 11 _).set_ 12 _,flA.fr hf0 (by decide) (by decide) (by decide) (by decide) (by simp) (by simp) (by simp),(hch.below hb4).fr hf0 (by decide) (by decide) (by decide),(hdr.low (by omega)).fr hf0 (by decide) (by decide) (by simp) (by simp),by omega,by omega,by omega,by omega,by omega,⟨by omega,by omega,by omega⟩,⟨by omega,by omega,by omega⟩,hfl2.tab.ne,(Fr.of_below [69] [] hw4 hbase).trans hf0⟩,?_,?_,?_,?_⟩
  ·exact(x4.made hw4).fr hf0 (by decide) (by decide) (by decide) (by decide) (by decide) (by decide) (by decide) (by decide) (by decide) (by simp) (by simp) (by simp) (by simp)
  ·exact hf0.own (own_below x5 hw4) (by decide)
  ·exact hf0.own (own_below x6 hw4) (by decide)
  ·exact hf0.blk _ _ _ (((x1.drew.below hb2 x1.lt).below hb3 (by omega)).below hb4 (by omega)) (by decide)
 generalize (((w4.setCell ⟨bp,10,none⟩ (PT (some ⟨tp,0,none⟩))).setCell ⟨bp,11,none⟩ (PT (some ⟨chp,0,none⟩))).setCell ⟨bp,12,none⟩ (PT (some ⟨dp,0,none⟩)))=w5 at HA⊢
 clear k2 k3 k4 d0 d1 d2 d3 d4 d5 d6 z10 z11 z12 y10 y11 y12 hfl2 hb2 hb3 hb4 hch hdr hle3 HB1 hlt
 have CL:=jH (clonebe_any A bl.length c w5.drew.heap.size bl w5.drew (Reads.of_own (World.ownsRow.drew HA.out.2.2.1)) (nR _) (by have:=hmay.1;omega) (fun e=>own_nilz HA.out.2.2.1 e))
 have s0:w5.drew.cell? ⟨w.heap.size,0,none⟩=some (X Y gen)∧w5.drew.cell? ⟨w.heap.size,1,none⟩=some (G A bl.length c):=⟨by have:=HA.out.2.2.2.2.drew.cell 0;simpa using this,by have:=HA.out.2.2.2.2.drew.cell 1;simpa using this⟩
 go_wp2_with fail
 go_region_held3 (fun wS=>wS.cell? ⟨w.heap.size,0,none⟩=some (X Y gen)∧wS.cell? ⟨w.heap.size,1,none⟩=some (G A bl.length c)) (first|with_reducible exact s0|with_reducible exact s1|with_reducible exact s2 _|with_reducible exact s3 _ _|fail)
  (first
   |(go_at_call 21;(with_reducible refine CL.out.mono ?_);rintro e w6 ⟨A6,c6,rfl,hown6,hb6⟩;have kx:=HA.out.2.2.2.2.drew.below hb6 HA.out.2.2.2.2.lt;have kb:=HA.out.1.blk.drew.below hb6 HA.out.1.blk.lt;have s1:w6.cell? ⟨w.heap.size,0,none⟩=some (X Y gen)∧w6.cell? ⟨w.heap.size,1,none⟩=some (G A bl.length c):=⟨by {have:=kx.cell 0;simpa using this},by {have:=kx.cell 1;simpa using this}⟩;have hne:=kx.ne_ kb (by decide);have z13:=kb.frozen 13;have z14:=kb.frozen 14;have y13:=kb.cell 13;have y14:=kb.cell 14;(simp only[balG,ga,gz,gN] at y13 y14);have s2:∀v,(w6.setCell ⟨bp,13,none⟩ v).cell? ⟨w.heap.size,0,none⟩=some (X Y gen)∧(w6.setCell ⟨bp,13,none⟩ v).cell? ⟨w.heap.size,1,none⟩=some (G A bl.length c):=fun v=>⟨by {have:=(kx.far (p:=⟨bp,13,none⟩) hne v).cell 0;simpa using this},by {have:=(kx.far (p:=⟨bp,13,none⟩) hne v).cell 1;simpa using this}⟩;have s3:∀v u,((w6.setCell ⟨bp,13,none⟩ v).setCell ⟨bp,14,none⟩ u).cell? ⟨w.heap.size,0,none⟩=some (X Y gen)∧((w6.setCell ⟨bp,13,none⟩ v).setCell ⟨bp,14,none⟩ u).cell? ⟨w.heap.size,1,none⟩=some (G A bl.length c):=fun v u=>⟨by {have:=((kx.far (p:=⟨bp,13,none⟩) hne v).far (p:=⟨bp,14,none⟩) hne u).cell 0;simpa using this},by {have:=((kx.far (p:=⟨bp,13,none⟩) hne v).far (p:=⟨bp,14,none⟩) hne u).cell 1;simpa using this}⟩))
 have HG:(fun Vv:World=>Hid (HaveA w Vv base bp slots fl idle seg quota d ss now (X Y gen) (G A6 bl.length c6) tp tm tk qp qm chp dp dm qp2 qm2∧StoreAt Vv base ss lg sp sd sf d mn ms seg quota ops f1 f2 s L gs bls fms∧Vv.ownsRow base 34 3 (G A6 bl.length c6) bl.length (bks bl)∧Vv.ownsRow b3 47 8 (G A3 fs.length c3) fs.length (flvs fs)∧Blk Vv w.heap.size 44 #[X Y gen,G A bl.length c,G none 0 0,G A3 fs.length c3])) ((w6.setCell ⟨bp,13,none⟩ (X Y gen)).setCell ⟨bp,14,none⟩ (G A6 bl.length c6)):=by
  obtain⟨h1,h2,h3,h4,h5⟩:=HA.out
  have hlo:=HN.out.2.2.2.2.2.2.1
  have hbs:=HN.out.1
  have hd5:Below w5.heap.size w5 w5.drew:=(bR _ _).drew
  have hb6':Below w5.heap.size w5 w6:=hd5.trans hb6
  have hf6:Fr [69] [] base w5 w6:=Fr.of_below _ _ hb6' (nT hbs h1.fr.size)
  have hf7:Fr [69] [] base w6 ((w6.setCell ⟨bp,13,none⟩ (X Y gen)).setCell ⟨bp,14,none⟩ (G A6 bl.length c6)):=((Fr.refl _ _ base w6).set_ kb (by simp) hlo 13 _).set_ (kb.set_ 13 _) (by simp) hlo 14 _
  have hf:=hf6.trans hf7
  have hq5:base≤w5.drew.heap.size:=nT hbs h1.fr.size
  exact⟨{h1 with blk:=(kb.set_ 13 _).set_ 14 _,fl:=h1.fl.fr hf (by decide) (by decide) (by decide) (by decide) (by simp) (by simp) (by simp),ch:=h1.ch.fr hf (by decide) (by decide) (by decide),dr:=h1.dr.fr hf (by decide) (by decide) (by simp) (by simp),fr:=h1.fr.trans hf},h2.fr hf (by decide) (by decide) (by decide) (by decide) (by decide) (by decide) (by decide) (by decide) (by decide) (by simp) (by simp) (by simp) (by simp),hf7.own (own_base hown6 hq5) (by decide),hf.own h4 (by decide),hf7.blk _ _ _ kx (by decide)⟩
 generalize ((w6.setCell ⟨bp,13,none⟩ (X Y gen)).setCell ⟨bp,14,none⟩ (G A6 bl.length c6))=w8 at HG⊢
 clear kx kb s0 s1 s2 s3 hne z13 z14 y13 y14 hown6 hb6 CL HA
 obtain⟨-,-,x2,x3⟩:=HG.out.2.2.2.2.c4
 go_wp2_with fail
 refine wp_loop_rounds 1 ?_
 rw[rounds_succ]
 go_wp2_with fail
 have HFL:=jH hfl
 clear x2 x3
 go_loopg [68] fs.length (fun gk i wr=>∃(j:Nat) (l':List It),i=X Y j∧Hid (j + gk=fs.length)∧Hid (FlowAt wr base tp tm tk qp qm fl idle (flm (seenAt now (fs.take j))) l'∧FrQ qp KF [tm,tk,qm] base w8 wr))
 case atStart=>exact⟨0,[],rfl,(by show _=_;omega),HG.out.1.fl,FrQ.refl _ _ _ _ _⟩
 case round=>
  obtain⟨j,l',rfl,hgk,hJ⟩:=hrel
  by_cases hlt:j < fs.length
  ·have hjn:j≤1024:=by have:=HN.out.2.2.2.1;omega
   obtain⟨f,hfj⟩:∃f,fs[j]? =some f:=⟨_,List.getElem?_eq_getElem hlt⟩
   have hfmem:=List.mem_of_getElem? hfj
   have hanew:anew=true:=by
    rcases HN.out.2.2.2.2.1 with h0|h0
    ·subst h0;simp at hlt
    ·exact h0
   subst hanew
   obtain⟨b4,hA3,hc3⟩:=own_fl (f:=f) (j:=j) (hJ.out.2.toFr.own HG.out.2.2.2.1 (by decide)) hfj
   subst hA3
   have r0:=hc3 0 _ rfl
   have r1:=hc3 1 _ rfl
   have r2:=hc3 2 _ rfl
   have r3:=hc3 3 _ rfl
   have r4:=hc3 4 _ rfl
   have r5:=hc3 5 _ rfl
   have r6:=hc3 6 _ rfl
   have r7:=hc3 7 _ rfl
   simp only[Nat.add_zero] at r0
   clear hc3
   have kb:=hJ.out.2.toFr.blk _ _ _ HG.out.1.blk (by decide)
   have hb7:=(bR wr.heap.size wr).alloc (nR _) (cL #[X Z f.k.src,X Z f.k.dst,X Y f.k.proto,X Y f.k.sport,X Y f.k.dport,X Y f.be,X Y f.gen,X Y f.seen] 47)
   have kb7:=kb.below hb7 kb.lt
   have n15:=kb7.cell 15
   simp only[balG,ga,gz,gN] at n15
   go_wp2_with fail
   have hb8:=(bR wr.heap.size wr).alloc (nR _) (cL #[X Z f.k.src,X Z f.k.dst,X Y f.k.proto,X Y f.k.sport,X Y f.k.dport,X Y f.be,X Y f.gen,X Y now] 47)
   have kb8:=(kb.below hb8 kb.lt).drew
   have hx8:=(Blk.new wr 47 #[X Z f.k.src,X Z f.k.dst,X Y f.k.proto,X Y f.k.sport,X Y f.k.dport,X Y f.be,X Y f.gen,X Y now]).drew
   obtain⟨q,hq⟩:∃q,q=wr.heap.size:=⟨_,rfl⟩
   rw[←hq] at hx8⊢
   clear hq
   have hgone:f.k∉(fs.take j).map Fl.k:=by
    intro hm
    obtain⟨f2,hf2,he⟩:=List.mem_map.1 hm
    obtain⟨i2,hi2⟩:=List.getElem?_of_mem hf2
    rw[List.getElem?_take] at hi2
    split at hi2
    ·rename_i hlt2
     obtain⟨hi2l,hi2e⟩:=List.getElem?_eq_some_iff.1 hi2
     obtain⟨hjl,hje⟩:=List.getElem?_eq_some_iff.1 hfj
     have:=(List.getElem_inj (xs:=fs.map Fl.k) (i:=i2) (j:=j) (h₀:=by simpa using hi2l) (h₁:=by simpa using hjl) HN.out.2.2.1).1 (by simp[hi2e,hje,he])
     omega
    ·cases hi2
   have hok8:FlOk ({f with seen:=now}:Fl):={HN.out.2.1 f hfmem with seen:=HN.out.2.2.2.2.2.1}
   have hlen8:(flm (seenAt now (fs.take j))).length < fl:=by
    have:=HN.out.2.2.2.1
    simp[flm,seenAt]
    omega
   have CP:=jH (flput_new base tp tm tk qp qm fl idle (flm (seenAt now (fs.take j))) l' ({f with seen:=now}:Fl) hok8 _ (hJ.out.1.made hb8.drew) (flm_none (by rw[seenAt_keys];exact hgone)) hlen8)
   have hsn:flm (seenAt now (fs.take (j + 1)))=mput (flm (seenAt now (fs.take j))) f.k ({f with seen:=now}:Fl):=by
    have e:fs.take (j + 1)=fs.take j++[f]:=by rw[List.take_add_one,hfj];rfl
    rw[e]
    have e2:seenAt now (fs.take j++[f])=seenAt now (fs.take j)++[({f with seen:=now}:Fl)]:=by simp[seenAt]
    rw[e2]
    exact(flm_snoc (f:=({f with seen:=now}:Fl)) (by rw[seenAt_keys];exact hgone)).symm
   have HS:=jH (aI hsn (aI kb8 (aI hx8 hb8)))
   unfold flV Fl.vals at CP
   dsimp only at CP
   generalize wr.alloc (cL #[X Z f.k.src,X Z f.k.dst,X Y f.k.proto,X Y f.k.sport,X Y f.k.dport,X Y f.be,X Y f.gen,X Y now] 47)=w9 at *
   have g0:w9.drew.cell? ⟨bp,10,none⟩=some (PT (some ⟨tp,0,none⟩))∧w9.drew.cell? ⟨q,0,none⟩=some (X Z f.k.src)∧w9.drew.cell? ⟨q,1,none⟩=some (X Z f.k.dst)∧w9.drew.cell? ⟨q,2,none⟩=some (X Y f.k.proto)∧w9.drew.cell? ⟨q,3,none⟩=some (X Y f.k.sport)∧w9.drew.cell? ⟨q,4,none⟩=some (X Y f.k.dport)∧w9.drew.cell? ⟨q,5,none⟩=some (X Y f.be)∧w9.drew.cell? ⟨q,6,none⟩=some (X Y f.gen)∧w9.drew.cell? ⟨q,7,none⟩=some (X Y now):=⟨by have:=kb8.cell 10;simpa [balG] using this,by have:=hx8.cell 0;simpa using this,by have:=hx8.cell 1;simpa using this,by have:=hx8.cell 2;simpa using this,by have:=hx8.cell 3;simpa using this,by have:=hx8.cell 4;simpa using this,by have:=hx8.cell 5;simpa using this,by have:=hx8.cell 6;simpa using this,by have:=hx8.cell 7;simpa using this⟩
   clear kb hb7 kb7 n15 r0 r1 r2 r3 r4 r5 r6 r7 hb8 kb8 hx8 hgone hok8 hlen8 hsn hfj hfmem
   go_region_held3 (fun wS=>wS.cell? ⟨bp,10,none⟩=some (PT (some ⟨tp,0,none⟩))∧wS.cell? ⟨q,0,none⟩=some (X Z f.k.src)∧wS.cell? ⟨q,1,none⟩=some (X Z f.k.dst)∧wS.cell? ⟨q,2,none⟩=some (X Y f.k.proto)∧wS.cell? ⟨q,3,none⟩=some (X Y f.k.sport)∧wS.cell? ⟨q,4,none⟩=some (X Y f.k.dport)∧wS.cell? ⟨q,5,none⟩=some (X Y f.be)∧wS.cell? ⟨q,6,none⟩=some (X Y f.gen)∧wS.cell? ⟨q,7,none⟩=some (X Y now)) (first|with_reducible exact g0|with_reducible exact g1|fail)
    (first
     |(go_at_call 91;(with_reducible refine CP.out.mono ?_);rintro e w10 ⟨rfl,⟨l2,hqs,hfl9⟩,hfq⟩;have k1:=hfq.blk _ _ _ HS.out.2.1 (by decide);have k2:=hfq.blk _ _ _ HS.out.2.2.1 (by decide);have g1:w10.cell? ⟨bp,10,none⟩=some (PT (some ⟨tp,0,none⟩))∧w10.cell? ⟨q,0,none⟩=some (X Z f.k.src)∧w10.cell? ⟨q,1,none⟩=some (X Z f.k.dst)∧w10.cell? ⟨q,2,none⟩=some (X Y f.k.proto)∧w10.cell? ⟨q,3,none⟩=some (X Y f.k.sport)∧w10.cell? ⟨q,4,none⟩=some (X Y f.k.dport)∧w10.cell? ⟨q,5,none⟩=some (X Y f.be)∧w10.cell? ⟨q,6,none⟩=some (X Y f.gen)∧w10.cell? ⟨q,7,none⟩=some (X Y now):=⟨by {have:=k1.cell 10;simpa [balG] using this},by {have:=k2.cell 0;simpa using this},by {have:=k2.cell 1;simpa using this},by {have:=k2.cell 2;simpa using this},by {have:=k2.cell 3;simpa using this},by {have:=k2.cell 4;simpa using this},by {have:=k2.cell 5;simpa using this},by {have:=k2.cell 6;simpa using this},by {have:=k2.cell 7;simpa using this}⟩))
   have HZ:Hid (FlowAt w10 base tp tm tk qp qm fl idle (flm (seenAt now (fs.take (j + 1)))) l2∧FrQ qp KF [tm,tk,qm] base w8 w10):=by
    refine⟨?_,(hJ.out.2.made HS.out.2.2.2.drew (nT HN.out.1 (nT HG.out.1.fr.size hJ.out.2.size))).trans hfq⟩
    rw[HS.out.1]
    exact hfl9
   clear k1 k2 g0 g1 hfq hfl9 hqs CP HS hJ
   go_wp2_with fail
   go_roundg (gk - 1)
   case measure=>have:=hgk.out;omega
   case rel=>exact⟨j + 1,l2,by go_num,(by show _=_;have:=hgk.out;omega),HZ.out.1,HZ.out.2⟩
  ·have hj:j=fs.length:=by have:=hgk.out;omega
   have hfl1:FlowAt wr base tp tm tk qp qm fl idle (flm (seenAt now fs)) l':=by
    have:=hJ.out.1
    rwa [hj,List.take_of_length_le (nR _)] at this
   have hbq:base≤w8.heap.size:=nT HN.out.1 HG.out.1.fr.size
   have HA:Hid (HaveA w wr base bp slots fl idle seg quota d ss now (X Y gen) (G A6 bl.length c6) tp tm tk qp qm chp dp dm qp2 qm2→True):=fun _=>trivial
   have hkb:=hJ.out.2.toFr.blk _ _ _ HG.out.1.blk (by decide)
   have how:=hJ.out.2.toFr.own HG.out.2.2.1 (by decide)
   have hch:=HG.out.1.ch.fr hJ.out.2.toFr (by decide) (by decide) (by decide)
   have hnn:dm∉[tm,tk,qm]∧qm2∉[tm,tk,qm]∧mn∉[tm,tk,qm]∧ms∉[tm,tk,qm]∧sd∉[tm,tk,qm]∧sf∉[tm,tk,qm]:=by
    obtain⟨h0,h1,h2,h3,h4⟩:=HM.out
    have a1:=HG.out.1.n1
    have a2:=HG.out.1.n2
    have a3:=HG.out.1.n3
    have a4:=HG.out.1.n4
    have a5:=HG.out.1.n5
    simp only[List.mem_cons,List.not_mem_nil,or_false,not_or]
    omega
   have hdr:=HG.out.1.dr.frq hJ.out.2 (fun e=>HG.out.1.qne e.symm) (by decide) hnn.2.1 hnn.1
   have hst:=HG.out.2.1.fr hJ.out.2.toFr (by decide) (by decide) (by decide) (by decide) (by decide) (by decide) (by decide) (by decide) (by decide) hnn.2.2.2.2.1 hnn.2.2.2.2.2 hnn.2.2.1 hnn.2.2.2.1
   have hbw:base≤wr.heap.size:=nT hbq hJ.out.2.size
   have hlo8:base≤chp:=nT HN.out.1 HG.out.1.loc
   have CC:=jH (bchoose_ok base base bp slots fl idle seg quota d ss tp chp dp gen now A6 c6 bl [] (List.replicate slots (-1)) 0 dm qp2 qm2 wr hkb how hch hdr hmn hok hmay (by omega))
   have hfrw:Fr ([69]++KF) [tm,tk,qm] base w wr:=(HG.out.1.fr.mono (fun t ht=>List.mem_append_left _ ht) (fun b hb=>by simp at hb)).trans (hJ.out.2.toFr.mono (fun t ht=>List.mem_append_right _ ht) (fun b hb=>hb))
   have HZ:=jH (aI hkb (aI how (aI hfl1 (aI hdr (aI hst (aI hfrw (aI hch (aI hlo8 hbw))))))))
   clear hkb how hch hdr hst hfl1 hfrw hJ HA hlo8 hbw hnn
   go_wp2_with fail
   refine CC.out.mono ?_
   rintro e w9 ⟨rfl,hc9,hbut⟩
   have HY:Hid (BalAt w9 base ⟨bp,d,ss,tp,chp,dp,lg,sp,sd,sf,mn,ms,f1,f2,tm,tk,qp,qm,dm,qp2,qm2⟩ slots fl idle seg quota gen now ops s L bl fms (flm (seenAt now fs)) l' 1∧Fr KH [] base w w9):=by
    obtain⟨g1,g2,g3,g4,g5,g6,g7,g8,g9⟩:=HZ.out
    obtain⟨cs,hk⟩:=g7.blk
    have hf:=hbut.fr hk g8
    refine⟨⟨HN.out.2.2.2.2.2.2.1,g8,nT g9 hf.size,⟨A6,c6,hf.blk _ _ _ g1 (by decide),hf.own g2 (by decide)⟩,⟨gs,bls,g5.fr hf (by decide) (by decide) (by decide) (by decide) (by decide) (by decide) (by decide) (by decide) (by decide) (by simp) (by simp) (by simp) (by simp),h16⟩,g3.fr hf (by decide) (by decide) (by decide) (by decide) (by simp) (by simp) (by simp),hc9,g4.fr hf (by decide) (by decide) (by simp) (by simp),HG.out.1.qne,?_,hmay,hok,hmn⟩,((g6.offM (by have a1:=HG.out.1.n1;have a2:=HG.out.1.n2;have a3:=HG.out.1.n3;intro b hb;simp at hb;omega)).mono (by decide) (by simp)).trans (hf.mono (by decide) (by simp))⟩
    obtain⟨h0,h1,h2,h3,h4⟩:=HM.out
    have a1:=HG.out.1.n1
    have a2:=HG.out.1.n2
    have a3:=HG.out.1.n3
    have a4:=HG.out.1.n4
    have a5:=HG.out.1.n5
    have a6:=HG.out.1.n6
    have a7:=g3.nem
    have a8:=g3.nek
    have a9:=g4.ne
    simp only[BP.maps,List.nodup_cons,List.mem_cons,List.not_mem_nil,or_false,not_or,List.nodup_nil,and_true,not_false_eq_true] at h0⊢
    omega
   clear hc9 hbut CC HZ
   go_wp2
   go_end0
   exact⟨rfl,⟨tp,tm,tk,qp,qm,chp,dp,dm,qp2,qm2,l',HY.out.1⟩,HY.out.2⟩
theorem bal_S2 {w:World}{bp slots fl idle seg quota d ss now:Nat}{v10 v11 v12 v13 v14:Value}{t:TypeId}(h:Blk w bp t (balG slots fl idle seg quota d ss v10 v11 v12 v13 v14 now)):w.cell? ⟨bp,8,none⟩=some (PT (some ⟨d,0,none⟩))∧w.cell? ⟨bp,5,none⟩=some (X Y seg):=
 ⟨by have:=h.cell 8;simpa [balG] using this,by have:=h.cell 5;simpa [balG] using this⟩
def KA:List TypeId:=(192::KD)++KH
theorem Fr.off {K:List TypeId}{M M':List Nat}{base:Nat}{w w':World}(h:Fr K M base w w')(hM:∀b∈M,b∈M'∨w.heap.size≤b):Fr K M' base w w':=
 ⟨h.below,h.blk,fun b es c h0 h1=>h.map b es c h0 (fun e=>by rcases hM b e with h2|h2;exact h1 h2;have:=(Array.getElem?_eq_some_iff.1 h0).1;omega)⟩
theorem anew_ok (base bp slots fl idle seg quota d ss now mn ms ops f1 f2 s:Nat)(v10 v11 v12 v13 v14:Value)(rs:List RecS)(L:List Nat)(w:World)
  (hb:Blk w bp 69 (balG slots fl idle seg quota d ss v10 v11 v12 v13 v14 now))(hlo:base≤bp)
  (hL:L=logB 3 (rs.map RecS.fr))(hok:∀r∈rs,r.Ok)(hlen:rs.length≤200)(hfr:FrOk (rs.map RecS.fr))(hD:DiskAt w base d mn ms (diskL quota ops f1 f2 L s 3))(hs1:16≤seg)(hs2:seg≤1048576)(hne:f1≠f2)(hops:ops≤800000000000)
  (hfok:∀f∈(recSt rs).2.2.map (·.2),FlOk f)(hnd:(((recSt rs).2.2.map (·.2)).map Fl.k).Nodup)(hmost:(recSt rs).2.2.length≤fl)(hnow:now≤1099511627776)(h16:(recSt rs).2.1.length≤16)(hmn:mayN slots=true)(hsl:slots≤1000000)(hfl:fl≤256)(hi1:1≤idle)(hi2:idle≤1099511627776):
  Calls Pg 17 #[PT (some ⟨bp,0,none⟩)] w fun e w'=>e=rT (X Y 0)∧(∃p il fs,p.bp=bp∧fs.Perm ((recSt rs).2.2.map (·.2))∧BalAt w' base p slots fl idle seg quota (recSt rs).1 now (ops + 2) L.length L (recSt rs).2.1 (recSt rs).2.2 (flm (seenAt now fs)) il 1)∧Fr KA [mn] base w w':=by
 have hbase:=hD.hi
 have hlb:=(recSt_bes0 rs hok)
 have hlf:(recSt rs).2.2.length≤1000000:=by have:=recSt_length rs;omega
 have CO:=jH (stopen_ok base d mn ms seg quota ops f1 f2 s rs L w.drew hL hok hlen hfr hD.drew hs1 hs2 hne hops)
 have d0:=bal_S2 hb.drew
 have H0:=jH (aI hb (aI hlo (aI hbase (aI hlb hlf))))
 have HX:=jH (aI hfok (aI hnd (aI hmost (aI hnow (aI h16 (aI hmn (aI hsl (aI hfl (aI hi1 hi2)))))))))
 clear hb hlo hbase hlb hlf hL hok hlen hfr hD hs1 hs2 hne hops hfok hnd hmost hnow h16 hmn hsl hfl hi1 hi2
 generalize hg:(recSt rs).1=g at *
 generalize hbl:(recSt rs).2.1=bl at *
 generalize hfm:(recSt rs).2.2=fm at *
 have HG:=jH (aI hg (aI hbl hfm))
 clear hg hbl hfm
 go_enter func17,ntmps17
 go_wp2_with fail
 go_region_held3 (fun wS=>wS.cell? ⟨bp,8,none⟩=some (PT (some ⟨d,0,none⟩))∧wS.cell? ⟨bp,5,none⟩=some (X Y seg)) (first|with_reducible exact d0|with_reducible exact d1|fail)
  (first
   |(go_at_call 38;(with_reducible refine CO.out.mono ?_);rintro e w1 ⟨ss',lg,sp,sd,sf,ms',rfl,hst,q1,q2,q3,q4,hf⟩;have k1:=hf.blk _ _ _ H0.out.1.drew (by decide);have d1:=bal_S2 k1))
 obtain⟨-,-,-,-,-,-,-,-,-,z9,-,-,-,-,-,-,-,z17,z18⟩:=k1.f19
 have y9:=k1.cell 9
 have y17:=k1.cell 17
 have y18:=k1.cell 18
 have H1:=jH (aI hst (aI k1 hf))
 unfold balG at y9 y17 y18
 simp only[ga,gz,gN] at y9 y17 y18
 have hsf:w.heap.size≤sf:=q2
 clear hst hf k1 d0 d1 CO q1 q2 q3 q4
 go_wp2_with fail
 have H2:(fun Vv:World=>Hid (Blk Vv bp 69 (balG slots fl idle seg quota d ss' v10 v11 v12 v13 v14 now)∧StoreAt Vv base ss' lg sp sd sf d mn ms' seg quota (ops + 2) f1 f2 L.length L g bl fm∧base≤Vv.heap.size∧Fr KA [mn] base w Vv)) (((w1.setCell ⟨bp,18,none⟩ (bL false)).setCell ⟨bp,9,none⟩ (PT (some ⟨ss',0,none⟩))).setCell ⟨bp,17,none⟩ (bL false)):=by
  obtain⟨g1,g2,g3⟩:=H1.out
  obtain⟨j1,j2,j3,j4⟩:=H0.out
  have hf:Fr [69] [] base w1 (((w1.setCell ⟨bp,18,none⟩ (bL false)).setCell ⟨bp,9,none⟩ (PT (some ⟨ss',0,none⟩))).setCell ⟨bp,17,none⟩ (bL false)):=(((Fr.refl _ _ base w1).set_ g2 (by simp) j2 18 _).set_ (g2.set_ 18 _) (by simp) j2 9 _).set_ ((g2.set_ 18 _).set_ 9 _) (by simp) j2 17 _
  have e1:Fr KA [mn,sf] base w (((w1.setCell ⟨bp,18,none⟩ (bL false)).setCell ⟨bp,9,none⟩ (PT (some ⟨ss',0,none⟩))).setCell ⟨bp,17,none⟩ (bL false)):=((Fr.of_below _ _ (bR w.heap.size w).drew j3).trans (g3.mono (by decide) (fun b hb=>hb))).trans (hf.mono (by decide) (by simp))
  refine⟨((g2.set_ 18 _).set_ 9 _).set_ 17 _,g1.fr hf (by decide) (by decide) (by decide) (by decide) (by decide) (by decide) (by decide) (by decide) (by decide) (by simp) (by simp) (by simp) (by simp),nT j3 e1.size,e1.off (fun b hb=>?_)⟩
  simp only[List.mem_cons,List.not_mem_nil,or_false] at hb
  rcases hb with rfl|rfl
  ·exact .inl (by simp)
  ·exact .inr hsf
 generalize (((w1.setCell ⟨bp,18,none⟩ (bL false)).setCell ⟨bp,9,none⟩ (PT (some ⟨ss',0,none⟩))).setCell ⟨bp,17,none⟩ (bL false))=w2 at H2⊢
 clear H1 z9 z17 z18 y9 y17 y18
 refine(stostate_any base ss' lg sp w2 H2.out.2.1.sto).mono ?_
 rintro e w2' ⟨rfl,rfl⟩
 go_wp2_with fail
 refine(stview_ok base sp sd sf g bl fm w2 H2.out.2.1.st (by have:=HX.out.2.2.2.2.1;omega) H0.out.2.2.2.2).mono ?_
 rintro e w3 ⟨A1,c1,v1,fs,rfl,hown1,hperm,hown2,hb3⟩
 obtain⟨A2,c2,rfl⟩:=own_slice hown2
 have H3:Hid (Blk w3 bp 69 (balG slots fl idle seg quota d ss' v10 v11 v12 v13 v14 now)∧StoreAt w3 base ss' lg sp sd sf d mn ms' seg quota (ops + 2) f1 f2 L.length L g bl fm∧base≤w3.heap.size∧Fr KA [mn] base w w3):=by
  obtain⟨g1,g2,g3,g4⟩:=H2.out
  exact⟨g1.below hb3 g1.lt,g2.made hb3,nT g3 hb3.size,g4.made hb3 g3⟩
 have CH:=jH (bhave_any base bp slots fl idle seg quota d ss' now g v10 v11 v12 v13 v14 A1 c1 w2.heap.size bl A2 c2 w2.heap.size fs true lg sp sd sf mn ms' (ops + 2) f1 f2 L.length L g bl fm w3 H3.out.1 H0.out.2.1 H3.out.2.2.1 hown1 hown2
  (fun f hf=>HX.out.1 f (hperm.mem_iff.1 hf)) ((hperm.map Fl.k).nodup_iff.2 HX.out.2.1) (by have:=hperm.length_eq;have:=HX.out.2.2.1;simp at *;omega) (.inr rfl) HX.out.2.2.2.1 H3.out.2.1 HX.out.2.2.2.2.1 H0.out.2.2.2.1.1 H0.out.2.2.2.1.2 HX.out.2.2.2.2.2.1 HX.out.2.2.2.2.2.2.1 HX.out.2.2.2.2.2.2.2.1 HX.out.2.2.2.2.2.2.2.2.1 HX.out.2.2.2.2.2.2.2.2.2)
 clear hown1 hown2 hb3 H2
 go_wp2_with fail
 refine CH.out.mono ?_
 rintro e w4 ⟨rfl,⟨tp,tm,tk,qp,qm,chp,dp,dm,qp2,qm2,il,hbal⟩,hf4⟩
 have HF:=jH (aI hbal (H3.out.2.2.2.trans (hf4.mono (by decide) (by simp))))
 have HP:=jH hperm
 clear hbal hf4 hperm CH H3 H0 HX HG
 go_wp2
 go_ret
 exact⟨rfl,⟨_,il,fs,rfl,HP.out,HF.out.1⟩,HF.out.2⟩
theorem namesS_mem {m:List (ByteArray×Nat)}{x:List UInt8}(h:x∈namesS m):∃s f,x=bts s∧(s,f)∈m:=by
 have h1:=(List.mergeSort_perm (kbs m) _).mem_iff.1 h
 obtain⟨p,hp,rfl⟩:=List.mem_map.1 h1
 exact⟨p.1,p.2,rfl,hp⟩
theorem mput_same {κ ν:Type}[DecidableEq κ]{m:List (κ×ν)}(hn:(mkeys m).Nodup){x:κ}{v:ν}(h:mget m x=some v):mput m x v=m:=by
 unfold mput
 rw[if_pos (List.any_eq_true.2 ⟨_,mget_some h,by simp⟩)]
 refine(List.map_congr_left (g:=id) fun p hp=>?_).trans (List.map_id _)
 by_cases e:p.1=x
 ·rw[if_pos e]
  obtain⟨j,hj⟩:=List.getElem?_of_mem hp
  have:=mget_at hn hj
  rw[e,h] at this
  injection this with this
  obtain⟨a,b⟩:=p
  dsimp only at e this
  subst e this
  rfl
 ·rw[if_neg e];rfl
theorem crash_sure (base d mn ms B:Nat)(D:PDisk)(A:Option Addr)(n c:Nat)(l:List Nat)(w:World)(h:DiskAt w base d mn ms D)(hchg:D.chg=[])(hsure:∀f p,mget D.fs f=some p→p.sure=p.b.length)(hlen:D.sure.length≤100000)(hnm:∀p∈D.sure,okS p.1)
  (hr:Reads w B 1 A n (bv l))(hB:B≤base)(hnc:n≤c)(hn:n≤1099511627776)(hal:AllB l):
  Calls Pg 16 #[PT (some ⟨d,0,none⟩),G A n c] w fun e w'=>e=rT (tU #[])∧∃mq mc,w.heap.size≤mq∧w.heap.size≤mc∧DiskAt w' base d mq mc {D with now:=D.sure,chg:=[],fail:=0}∧Fr [102,111,23] [] base w w':=by
 obtain⟨pk,hpk⟩:∃pk,pk=w.heap.size:=⟨_,rfl⟩
 have hb0:Below w.heap.size w (w.alloc (cL #[G A n c] 23)):=(bR _ _).alloc (nR _) _
 have hp0:PicksAt (w.alloc (cL #[G A n c] 23)) B pk:=⟨A,n,c,l,hpk▸Blk.new w _ _,hr.below (hb0.mono (nT hB h.hi)),hnc,hn,hal⟩
 have h0:=h.made hb0
 have hpb:base≤pk:=by have:=h.hi;omega
 have H1:=jH (aI h0 (aI hp0 (aI hb0 (aI hpb h.hi))))
 obtain⟨cv,hbk,hcv⟩:=h0.blk
 rw[hchg] at hcv
 obtain⟨A3,c3,rfl⟩:=own_slice hcv
 obtain⟨-,-,x2⟩:=hbk.c3
 clear h h0 hp0 hb0 hr hbk hcv hpb
 go_enter func16,ntmps16
 go_wp2_with fail
 rw[←hpk]
 have HE:=jH hpk
 clear hpk
 generalize (w.alloc (cL #[G A n c] 23))=w1 at *
 refine(clones_any w1 H1.out.1.sure).mono ?_
 rintro e w2 ⟨rfl,hmq,hb2,hs2⟩
 obtain⟨mq,hmqe⟩:∃mq,mq=w1.heap.size:=⟨_,rfl⟩
 rw[←hmqe] at hmq⊢
 have H2:Hid (DiskAt w2 base d mn ms D∧PicksAt w2 B pk∧Fr [102,111,23] [] base w w2∧MapIs w2 Value.string okS encP mq D.sure∧base≤pk∧w.heap.size≤mq):=by
  obtain⟨g1,g2,g3,g4,g5⟩:=H1.out
  have f1:Fr [102,111,23] [] base w w1:=Fr.of_below _ _ g3 g5
  have f2:=f1.made hb2 g1.hi
  exact⟨g1.made hb2,g2.fr (Fr.of_below [] [] hb2 g1.hi) hB (by simp),f2,hmq,g4,by have:=g3.size;omega⟩
 clear hmq hb2 hs2 hmqe x2
 obtain⟨cv,hbk,hcv⟩:=H2.out.1.blk
 rw[hchg] at hcv
 obtain⟨A3,c3,rfl⟩:=own_slice hcv
 have x3:=hbk.drew.cell 3
 simp only[ga,gz,gN,List.length_nil] at x3
 clear hbk hcv
 have eg:∀args w,(callFunc 33 args).run Pg w=.ok (.enter 33 args) w:=enters_of func33 (by kernel_rfl) rfl
 have CP0:=jH (pick_any pk B 0 w2.drew (by omega) (H2.out.2.1.fr ((Fr.refl [] [] base w2).drew) hB (by simp)) (by have:=H2.out.2.2.2.2.1;omega))
 rw[show ((0:Nat):Int)=0 from rfl] at CP0
 have HS3:∀w3,PicksAt w3 B pk→But pk w2.drew w3→Hid (DiskAt w3 base d mn ms D∧PicksAt w3 B pk∧Fr [102,111,23] [] base w w3∧MapIs w3 Value.string okS encP mq D.sure∧w3.cell? ⟨d,3,none⟩=some (G A3 0 c3)):=by
  intro w3 hp3 hk3
  obtain⟨g1,g2,g3,g4,g5,g6⟩:=H2.out
  obtain⟨A',n',c',l',k1,_⟩:=g2
  have hf:Fr [23] [] base w2 w3:=((Fr.refl _ _ base w2).drew).trans (fr_pick k1.drew hk3 g5 g1.hi)
  obtain⟨cv,hbk,hcv⟩:=g1.blk
  refine⟨g1.fr hf (by decide) (by decide) (by decide) (by decide) (by simp) (by simp),hp3,g3.trans (hf.mono (by decide) (by simp)),hf.mapIs g4 (by simp),?_⟩
  have hcv3:=(hf.blk _ _ _ hbk (by decide)).cell 3
  have hc2:=hbk.cell 3
  rw[hcv3,←hc2]
  exact x3
 go_wp2_with fail
 go_region_held3 (fun wS=>wS.cell? ⟨d,3,none⟩=some (G A3 0 c3)) (first|with_reducible exact x3|with_reducible exact y3|fail)
  ((go_at_fn 33;(with_reducible refine CP0.out.mono ?_);rintro e w3 ⟨x,hx,rfl,hpk3,hbut3⟩;(obtain rfl:x=0:=by omega);have H3:=HS3 w3 hpk3 hbut3;have y3:=H3.out.2.2.2.2))
 clear y3 x3 HS3 CP0 hbut3 hpk3 hx
 have HPK:=jH (aI H2.out.2.2.2.2 H1.out.2.2.2.2)
 clear H2 H1
 go_wp2_with fail
 refine wp_loop_rounds 1 ?_
 rw[rounds_succ]
 go_wp2_with fail
 refine(keysf_any mq w3).mono ?_
 rintro e w' ⟨rfl,rfl⟩
 have hb4:Below w3.heap.size w3 (w3.alloc (cL #[.map (some mq)] 97)):=(bR _ _).alloc (nR _) _
 have CS:=jH (sortedf_any w3.heap.size mq D.sure hlen (w3.alloc (cL #[.map (some mq)] 97)) (by simp) ((Blk.new w3 97 #[.map (some mq)]).cell 0) (H3.out.2.2.2.1.below hb4 H3.out.2.2.2.1.lt))
 have HB4:=jH hb4
 clear hb4
 go_wp2_with fail
 refine CS.out.mono ?_
 rintro e w5 ⟨v,rfl,hown,hb5⟩
 obtain⟨A5,c5,rfl⟩:=own_slice hown
 obtain⟨L,hL⟩:∃L,L=(namesS D.sure).length:=⟨_,rfl⟩
 have hL2:L≤100000:=by rw[hL,namesS,List.length_mergeSort];simp[kbs];exact hlen
 have H5:Hid (DiskAt w5 base d mn ms D∧PicksAt w5 B pk∧Fr [102,111,23] [] base w w5∧MapIs w5 Value.string okS encP mq D.sure∧w5.ownsRow w.heap.size 9 1 (G A5 L c5) L ((namesS D.sure).map encStr)):=by
  obtain⟨g1,g2,g3,g4,-⟩:=H3.out
  have hbb:Below w3.heap.size w3 w5:=HB4.out.trans (hb5.mono HB4.out.size)
  have hw3:w.heap.size≤w3.heap.size:=g3.size
  exact⟨g1.made hbb,g2.fr (Fr.of_below [] [] hbb g1.hi) hB (by simp),g3.made hbb g1.hi,g4.below hbb g4.lt,hL▸own_base hown (by have:=HB4.out.size;omega)⟩
 rw[←hL]
 have HL:=jH hL
 clear hL hown hb5 CS HB4 H3
 go_wp2_with fail
 go_loopg [44] L (fun gk at_ wr=>∃(j:Nat),at_=X Y j∧Hid (j + gk=L)∧Hid (DiskAt wr base d mn ms D∧PicksAt wr B pk∧Fr [102,111,23] [] base w wr∧MapIs wr Value.string okS encP mq D.sure∧wr.ownsRow w.heap.size 9 1 (G A5 L c5) L ((namesS D.sure).map encStr)))
 case atStart=>exact⟨0,rfl,(by show _=_;omega),H5.out⟩
 case round=>
  clear H5
  obtain⟨j,rfl,hgk,hrel⟩:=hrel
  by_cases hlt:j < L
  ·obtain⟨nm,hnj⟩:∃nm,(namesS D.sure)[j]? =some nm:=⟨_,List.getElem?_eq_getElem (by have:=HL.out;omega)⟩
   obtain⟨s,f0,rfl,hmem⟩:=namesS_mem (List.mem_of_getElem? hnj)
   have hsok:=hnm _ hmem
   obtain⟨f,hmf⟩:=mget_keys (m:=D.sure) (x:=s) (List.mem_map.2 ⟨_,hmem,rfl⟩)
   have hfin:=hrel.out.1.sureIn _ (mget_some hmf)
   obtain⟨p,hp⟩:=mget_keys (m:=D.fs) (x:=f) hfin
   obtain⟨Af,cf,b1,b2,b3,b4,b5,b6⟩:=cut_file hrel.out.1.files hp
   have hlk:=hrel.out.2.2.2.1.lookup (P:=Pg) encS (t:=97) underlying97 (z:=PT none) (by kernel_rfl) s hsok false
   rw[hmf] at hlk
   simp only[encP,Bool.false_eq_true,if_false] at hlk
   obtain⟨bn,on,hAn,hbn,hcn⟩:=(Reads.of_own hrel.out.2.2.2.2).plain (by omega) (by omega)
   subst hAn
   have hcj:=hcn j (.string s) (by rw[List.getElem?_map,hnj];rfl)
   have HC:=jH (aI b1 (aI b2 (aI b3 (aI b4 (aI b5 (aI b6 hp))))))
   obtain⟨c0,c1⟩:=b1.drew.c2
   obtain⟨nf,hnf⟩:∃nf,nf=p.b.length:=⟨_,rfl⟩
   have hsn:p.sure=nf:=by rw[hnf];exact hsure f p hp
   rw[←hnf] at c0 b2 b3 b4
   rw[hsn] at c1
   have HS6:∀w6,PicksAt w6 B pk→But pk wr.drew w6→Hid (w6.cell? ⟨f,0,none⟩=some (G Af nf cf)∧w6.cell? ⟨f,1,none⟩=some (X Y nf)∧w6.frozen? ⟨f,0,none⟩=false∧(w6.setCell ⟨f,0,none⟩ (G Af nf cf)).frozen? ⟨f,1,none⟩=false∧(w6.setCell ⟨f,0,none⟩ (G Af nf cf)).cell? ⟨f,0,none⟩=some (G Af nf cf)∧(w6.setCell ⟨f,0,none⟩ (G Af nf cf)).cell? ⟨f,1,none⟩=some (X Y nf)∧
     (DiskAt ((w6.setCell ⟨f,0,none⟩ (G Af nf cf)).setCell ⟨f,1,none⟩ (X Y nf)) base d mn ms D∧PicksAt ((w6.setCell ⟨f,0,none⟩ (G Af nf cf)).setCell ⟨f,1,none⟩ (X Y nf)) B pk∧Fr [102,111,23] [] base w ((w6.setCell ⟨f,0,none⟩ (G Af nf cf)).setCell ⟨f,1,none⟩ (X Y nf))∧MapIs ((w6.setCell ⟨f,0,none⟩ (G Af nf cf)).setCell ⟨f,1,none⟩ (X Y nf)) Value.string okS encP mq D.sure∧((w6.setCell ⟨f,0,none⟩ (G Af nf cf)).setCell ⟨f,1,none⟩ (X Y nf)).ownsRow w.heap.size 9 1 (G (some ⟨bn,on,none⟩) L c5) L ((namesS D.sure).map encStr))):=by
    intro w6 hp6 hk6
    obtain⟨g1,g2,g3,g4,g5⟩:=hrel.out
    obtain⟨A',n',c',l',k1,_⟩:=g2
    have hf:Fr [23] [] base wr w6:=((Fr.refl _ _ base wr).drew).trans (fr_pick k1.drew hk6 HPK.out.1.1 g1.hi)
    have q1:=hf.blk _ _ _ b1 (by decide)
    obtain⟨y0,y1⟩:=q1.c2
    rw[←hnf] at y0
    rw[hsn] at y1
    have hfs:Fr [111] [] base w6 ((w6.setCell ⟨f,0,none⟩ (G Af nf cf)).setCell ⟨f,1,none⟩ (X Y nf)):=((Fr.refl _ _ base w6).set_ q1 (by decide) b5 0 _).set_ (q1.set_ 0 _) (by decide) b5 1 _
    have hft:Fr [111,23] [] base wr ((w6.setCell ⟨f,0,none⟩ (G Af nf cf)).setCell ⟨f,1,none⟩ (X Y nf)):=(hf.mono (by decide) (by simp)).trans (hfs.mono (by decide) (by simp))
    have q2:=q1.set_ 0 (G Af nf cf)
    have v0:=q2.cell 0
    have v1:=q2.cell 1
    simp only[ga,gz,gN,Array.setIfInBounds,List.set_toArray,List.set_cons_zero,List.set_cons_succ,List.size_toArray,List.length_cons,List.length_nil,Nat.zero_add,Nat.lt_add_one,Nat.reduceAdd,Nat.reduceLT,dite_true] at v0 v1
    rw[hsn] at v1
    refine⟨y0,y1,q1.frozen 0,q2.frozen 1,v0,v1,?_,hp6.fr hfs hB (by decide),g3.trans (hft.mono (by decide) (by simp)),hft.mapIs g4 (by simp),hft.own g5 (by decide)⟩
    have hfa:=b6 _ _ _ _ nf hf (by decide) (by decide) (by omega)
    have hpp:(⟨p.b.take nf,nf⟩:PFile)=p:=by
     obtain⟨pb,ps⟩:=p
     dsimp only at hsn hnf⊢
     rw[hsn,hnf,List.take_length]
    rw[hpp,mput_same g1.ids hp] at hfa
    have h9:=DiskAt.refile f p (g1.fr hf (by decide) (by decide) (by decide) (by decide) (by simp) (by simp)) (hfs.mono (by decide) (by simp)) (by rw[mput_same g1.ids hp];exact hfa)
    rw[mput_same g1.ids hp] at h9
    exact h9
   have eS:IntKind.i64.wrap 0=0:=rfl
   have eK:IntKind.i64.wrap (nf:Int)=(nf:Int):=IntWalk.i64_in _ (by omega)
   have CP:=jH (pick_any pk B 0 wr.drew (by omega) (hrel.out.2.1.fr ((Fr.refl [] [] base wr).drew) hB (by simp)) (by have:=HPK.out.1.1;omega))
   rw[show ((0:Nat):Int)=0 from rfl] at CP
   clear hcn b1 b6 hfin hmf hmem hnj hp hrel HC hnf hsn b3 b4
   have s0:wr.drew.cell? ⟨f,0,none⟩=some (G Af nf cf)∧wr.drew.cell? ⟨f,1,none⟩=some (X Y nf):=⟨c0,c1⟩
   go_wp2_with fail
   go_region_held3 (fun wS=>wS.cell? ⟨f,0,none⟩=some (G Af nf cf)∧wS.cell? ⟨f,1,none⟩=some (X Y nf)) (first|with_reducible exact s0|with_reducible exact s6|with_reducible exact s7|fail)
    ((go_at_fn 33;(with_reducible refine CP.out.mono ?_);rintro e w6 ⟨x,hx,rfl,hpk6,hbut6⟩;(obtain rfl:x=0:=by omega);have H6:=HS6 w6 hpk6 hbut6;have y0:=H6.out.1;have y1:=H6.out.2.1;have z0:=H6.out.2.2.1;have z1:=H6.out.2.2.2.1;have y2:=H6.out.2.2.2.2.1;have s6:w6.cell? ⟨f,0,none⟩=some (G Af nf cf)∧w6.cell? ⟨f,1,none⟩=some (X Y nf):=⟨y0,y1⟩;have s7:(w6.setCell ⟨f,0,none⟩ (G Af nf cf)).cell? ⟨f,0,none⟩=some (G Af nf cf)∧(w6.setCell ⟨f,0,none⟩ (G Af nf cf)).cell? ⟨f,1,none⟩=some (X Y nf):=⟨y2,H6.out.2.2.2.2.2.1⟩;have H8:=jH H6.out.2.2.2.2.2.2;clear hpk6 hbut6 H6))
   clear s0 s6 s7 HS6 CP c0 c1
   go_wp2_with fail
   go_roundg (gk - 1)
   case measure=>have h1:=hgk.out;omega
   case rel=>exact⟨j + 1,by go_num,(by show _=_;have:=hgk.out;omega),H8.out⟩
  ·have hj:j=L:=by have:=hgk.out;omega
   have hdL:decide ((j:Int) < (L:Int))=false:=decide_eq_false (by omega)
   have CC:=jH (clones_any wr hrel.out.2.2.2.1)
   clear hj
   go_wp2_with fail
   refine CC.out.mono ?_
   rintro e w7 ⟨rfl,hmc,hb7,hs7⟩
   obtain⟨mc,hmce⟩:∃mc,mc=wr.heap.size:=⟨_,rfl⟩
   rw[←hmce] at hmc⊢
   have H7:Hid (DiskAt w7 base d mn ms D∧Fr [102,111,23] [] base w w7∧MapIs w7 Value.string okS encP mq D.sure∧MapIs w7 Value.string okS encP mc D.sure∧mq≠mc∧w.heap.size≤mc):=by
    obtain⟨g1,g2,g3,g4,g5⟩:=hrel.out
    have h1:=g4.lt
    exact⟨g1.made hb7,g3.made hb7 g1.hi,g4.below hb7 g4.lt,hmc,by omega,by have:=g3.size;omega⟩
   clear hmc hb7 hs7 CC hrel hmce
   obtain⟨cv,hbk,hcv⟩:=H7.out.1.blk
   have z1:=hbk.frozen 1
   have y1:=hbk.cell 1
   have k1:=hbk.set_ 1 (.map (some mq))
   have z2:=k1.frozen 2
   have y2:=k1.cell 2
   have k2:=k1.set_ 2 (.map (some mc))
   have z3:=k2.frozen 3
   have y3:=k2.cell 3
   have k3:=k2.set_ 3 (G none 0 0)
   have z5:=k3.frozen 5
   have y5:=k3.cell 5
   have k5:=k3.set_ 5 (X Y 0)
   have hfr:Fr [102] [] base w7 ((((w7.setCell ⟨d,1,none⟩ (.map (some mq))).setCell ⟨d,2,none⟩ (.map (some mc))).setCell ⟨d,3,none⟩ (G none 0 0)).setCell ⟨d,5,none⟩ (X Y 0)):=((((Fr.refl _ _ base w7).set_ hbk (by decide) H7.out.1.lod 1 _).set_ k1 (by decide) H7.out.1.lod 2 _).set_ k2 (by decide) H7.out.1.lod 3 _).set_ k3 (by decide) H7.out.1.lod 5 _
   have HX:(fun Vv:World=>Hid (DiskAt Vv base d mq mc {D with now:=D.sure,chg:=[],fail:=0}∧Fr [102,111,23] [] base w Vv)) ((((w7.setCell ⟨d,1,none⟩ (.map (some mq))).setCell ⟨d,2,none⟩ (.map (some mc))).setCell ⟨d,3,none⟩ (G none 0 0)).setCell ⟨d,5,none⟩ (X Y 0)):=by
    obtain⟨g1,g2,g3,g4,g5,g6⟩:=H7.out
    obtain⟨⟨p1,p2⟩,p3⟩:=HPK.out
    exact⟨{lod:=g1.lod,lon:=by omega,los:=by omega,hi:=nT g1.hi hfr.size,ne:=g5,blk:=⟨G none 0 0,k5,World.ownsRow_nil _ _ _ _⟩,now:=hfr.mapIs g3 (by simp),sure:=hfr.mapIs g4 (by simp),files:=g1.files.fr hfr (by decide) (by decide),ids:=g1.ids,nowIn:=g1.sureIn,sureIn:=g1.sureIn,chgIn:=fun c hc=>by simp at hc,quotaB:=g1.quotaB,opsB:=g1.opsB,failB:=Nat.zero_le _},g2.trans (hfr.mono (by decide) (by simp))⟩
   clear hbk hcv k1 k2 k3 k5 hfr
   simp only[ga,gz,gN,Array.setIfInBounds,List.set_toArray,List.set_cons_zero,List.set_cons_succ,List.size_toArray,List.length_cons,List.length_nil] at y1 y2 y3 y5
   go_wp2_with fail
   go_end0
   exact⟨rfl,mq,mc,HPK.out.1.2,H7.out.2.2.2.2.2,HX.out⟩
theorem cfg_S {w W:World}{slots fl idle seg quota:Nat}{t:TypeId}(h:Blk W w.heap.size t #[X Z 168364297,X Y slots,X Y fl,X Y idle,X Y 1500,X Y seg,X Y quota,X Y 3]):W.cell? ⟨w.heap.size,0,none⟩=some (X Z 168364297)∧W.cell? ⟨w.heap.size,1,none⟩=some (X Y slots)∧W.cell? ⟨w.heap.size,2,none⟩=some (X Y fl)∧W.cell? ⟨w.heap.size,3,none⟩=some (X Y idle)∧W.cell? ⟨w.heap.size,4,none⟩=some (X Y 1500)∧W.cell? ⟨w.heap.size,5,none⟩=some (X Y seg)∧W.cell? ⟨w.heap.size,6,none⟩=some (X Y quota)∧W.cell? ⟨w.heap.size,7,none⟩=some (X Y 3):=⟨h.cell 0,h.cell 1,h.cell 2,h.cell 3,h.cell 4,h.cell 5,h.cell 6,h.cell 7⟩
theorem mayN_of {slots fl idle seg quota:Nat}(h:CfgOk slots fl idle seg quota):mayN slots=true∧slots≤1000000:=by
 have h1:=h.a1
 simp at h1
 rcases h1 with rfl|rfl|rfl|rfl|rfl|rfl<;>exact⟨by decide,by omega⟩
theorem bes_nil:MayBs ([]:List Be).length []∧BesOk []:=⟨⟨by simp,fun j h=>by simp at h⟩,fun b h=>by simp at h⟩
theorem bnew_ok (slots fl idle seg quota:Nat)(h:CfgOk slots fl idle seg quota)(w:World):
  Calls Pg 14 #[.agg (cfgA slots fl idle seg quota)] w fun e w'=>(∃(base:Nat) (p:BP) (il:List It),e=rT (tU #[PT (some ⟨p.bp,0,none⟩),X Y 0])∧w.heap.size≤base∧BalAt w' base p slots fl idle seg quota 0 0 6 0 [] [] [] [] il 1)∧Below w.heap.size w w':=by
 have hx:=Blk.new w 61 #[X Z 168364297,X Y slots,X Y fl,X Y idle,X Y 1500,X Y seg,X Y quota,X Y 3]
 have hb1:Below w.heap.size w (w.alloc (cL #[X Z 168364297,X Y slots,X Y fl,X Y idle,X Y 1500,X Y seg,X Y quota,X Y 3] 61)):=(bR _ _).alloc (nR _) _
 have CM:=jH (fun W=>bmay_ok slots fl idle seg quota h W)
 have HC:=jH h
 have H0:=jH (aI hx hb1)
 have u0:=cfg_S hx
 unfold cfgA at CM⊢
 obtain⟨y0,y1,y2,y3,y4,y5,y6,y7⟩:=u0
 clear hx hb1 h
 go_enter func14,ntmps14
 go_wp2_with fail
 refine(CM.out _).mono ?_
 rintro e w2 ⟨rfl,hb2⟩
 have H2:Hid (Blk w2 w.heap.size 61 #[X Z 168364297,X Y slots,X Y fl,X Y idle,X Y 1500,X Y seg,X Y quota,X Y 3]∧Below w.heap.size w w2):=⟨H0.out.1.below hb2 H0.out.1.lt,H0.out.2.trans (hb2.mono H0.out.2.size)⟩
 clear hb2 H0 CM y0 y1 y2 y3 y4 y5 y6 y7
 have d0:=cfg_S H2.out.1.drew
 go_wp2_with fail
 go_region_held3 (fun wS=>wS.cell? ⟨w.heap.size,0,none⟩=some (X Z 168364297)∧wS.cell? ⟨w.heap.size,1,none⟩=some (X Y slots)∧wS.cell? ⟨w.heap.size,2,none⟩=some (X Y fl)∧wS.cell? ⟨w.heap.size,3,none⟩=some (X Y idle)∧wS.cell? ⟨w.heap.size,4,none⟩=some (X Y 1500)∧wS.cell? ⟨w.heap.size,5,none⟩=some (X Y seg)∧wS.cell? ⟨w.heap.size,6,none⟩=some (X Y quota)∧wS.cell? ⟨w.heap.size,7,none⟩=some (X Y 3)) (first|with_reducible exact d0|with_reducible exact d1|with_reducible exact d2 _|fail)
  (first
   |(go_at_call 30;(with_reducible refine(newdisk_ok quota _ HC.out.a7).mono ?_);rintro e w3 ⟨d,mn,ms,rfl,hdk,hb3⟩;have k3:=H2.out.1.drew.below hb3 H2.out.1.lt;have d1:=cfg_S k3;have d2:=fun o=>cfg_S (k3.alloc o)))
 have H3:(fun Vv:World=>Hid (Blk Vv w3.heap.size 69 #[X Z 168364297,X Y slots,X Y fl,X Y idle,X Y 1500,X Y seg,X Y quota,X Y 3,PT (some ⟨d,0,none⟩),PT none,PT none,PT none,PT none,X Y 0,G none 0 0,X Y 0,X Y 0,bL false,bL false]∧Blk Vv w.heap.size 61 #[X Z 168364297,X Y slots,X Y fl,X Y idle,X Y 1500,X Y seg,X Y quota,X Y 3]∧DiskAt Vv w2.heap.size d mn ms ⟨quota,0,0,[],[],[],[]⟩∧Below w.heap.size w Vv∧w.heap.size≤w2.heap.size∧w2.heap.size≤w3.heap.size)) (w3.alloc (cL #[X Z 168364297,X Y slots,X Y fl,X Y idle,X Y 1500,X Y seg,X Y quota,X Y 3,PT (some ⟨d,0,none⟩),PT none,PT none,PT none,PT none,X Y 0,G none 0 0,X Y 0,X Y 0,bL false,bL false] 69)):=by
  obtain⟨h1,h2⟩:=H2.out
  have s3:w2.heap.size≤w3.heap.size:=hb3.size
  have hb4:Below w3.heap.size w3 (w3.alloc (cL #[X Z 168364297,X Y slots,X Y fl,X Y idle,X Y 1500,X Y seg,X Y quota,X Y 3,PT (some ⟨d,0,none⟩),PT none,PT none,PT none,PT none,X Y 0,G none 0 0,X Y 0,X Y 0,bL false,bL false] 69)):=(bR _ _).alloc (nR _) _
  have hdd:Below w.heap.size w w2.drew:=h2.drew
  exact⟨Blk.new _ _ _,k3.alloc _,DiskAt.made hdk hb4,(hdd.trans (hb3.mono h2.size)).trans (hb4.mono (nT h2.size s3)),h2.size,s3⟩
 clear k3 d0 d1 d2 hdk hb3
 generalize w3.alloc (cL #[X Z 168364297,X Y slots,X Y fl,X Y idle,X Y 1500,X Y seg,X Y quota,X Y 3,PT (some ⟨d,0,none⟩),PT none,PT none,PT none,PT none,X Y 0,G none 0 0,X Y 0,X Y 0,bL false,bL false] 69)=w4 at H3⊢
 generalize w3.heap.size=bp at H3⊢
 generalize w2.heap.size=base at H3
 clear H2
 have CC:=jH (stocreate_ok base d mn ms quota 3 seg w4.drew (H3.out.2.2.1.made (bR _ _).drew) (by omega) (by omega) HC.out.a5 HC.out.a6 HC.out.a8)
 rw[show ((3:Nat):Int)=3 from rfl] at CC
 have d0:w4.drew.cell? ⟨bp,8,none⟩=some (PT (some ⟨d,0,none⟩))∧w4.drew.cell? ⟨w.heap.size,7,none⟩=some (X Y 3)∧w4.drew.cell? ⟨w.heap.size,5,none⟩=some (X Y seg):=⟨H3.out.1.drew.cell 8,H3.out.2.1.drew.cell 7,H3.out.2.1.drew.cell 5⟩
 go_wp2_with fail
 go_region_held3 (fun wS=>wS.cell? ⟨bp,8,none⟩=some (PT (some ⟨d,0,none⟩))∧wS.cell? ⟨w.heap.size,7,none⟩=some (X Y 3)∧wS.cell? ⟨w.heap.size,5,none⟩=some (X Y seg)) (first|with_reducible exact d0|with_reducible exact d1|fail)
  (first
   |(go_at_call 31;(with_reducible refine CC.out.mono ?_);rintro e w5 ⟨ss,lg,ms',f1,f2,sp,sd,sf,rfl,hne,q1,q2,q3,q4,q5,q6,hdk,hlg,hst,hso,hf⟩;have k5:=hf.blk _ _ _ H3.out.1.drew (by decide);have k6:=hf.blk _ _ _ H3.out.2.1.drew (by decide);have d1:w5.cell? ⟨bp,8,none⟩=some (PT (some ⟨d,0,none⟩))∧w5.cell? ⟨w.heap.size,7,none⟩=some (X Y 3)∧w5.cell? ⟨w.heap.size,5,none⟩=some (X Y seg):=⟨k5.cell 8,k6.cell 7,k6.cell 5⟩))
 have H5:Hid (Blk w5 bp 69 #[X Z 168364297,X Y slots,X Y fl,X Y idle,X Y 1500,X Y seg,X Y quota,X Y 3,PT (some ⟨d,0,none⟩),PT none,PT none,PT none,PT none,X Y 0,G none 0 0,X Y 0,X Y 0,bL false,bL false]∧StoreAt w5 base ss lg sp sd sf d mn ms' seg quota 6 f1 f2 0 [] 0 [] []∧base≤bp∧base≤w5.heap.size∧w.heap.size≤base∧Below w.heap.size w w5):=by
  obtain⟨h1,h2,h3,h4,h5,h6⟩:=H3.out
  have e1:mn < w4.heap.size:=h3.now.lt
  have e2:w4.drew.heap.size=w4.heap.size:=rfl
  have e3:=h1.lt
  exact⟨k5,⟨hso,hst,hdk,hlg,hne,by omega,by omega,q6,q5⟩,h6,nT (nT h6 (Nat.le_of_lt e3)) hf.size,h5,(h4.drew).trans (hf.below.mono h5)⟩
 clear k5 k6 d0 d1 hdk hlg hst hso hf hne q1 q2 q3 q4 q5 q6 CC H3
 have x9:=H5.out.1.cell 9
 have z9:=H5.out.1.frozen 9
 simp only[ga,gz,gN] at x9
 go_wp2_with fail
 have H6:(fun Vv:World=>Hid (Blk Vv bp 69 (balG slots fl idle seg quota d ss (PT none) (PT none) (PT none) (X Y 0) (G none 0 0) 0)∧StoreAt Vv base ss lg sp sd sf d mn ms' seg quota 6 f1 f2 0 [] 0 [] []∧base≤bp∧base≤Vv.heap.size∧w.heap.size≤base∧Below w.heap.size w Vv)) (w5.setCell ⟨bp,9,none⟩ (PT (some ⟨ss,0,none⟩))):=by
  obtain⟨h1,h2,h3,h4,h5,h6⟩:=H5.out
  have hf:Fr [69] [] base w5 (w5.setCell ⟨bp,9,none⟩ (PT (some ⟨ss,0,none⟩))):=(Fr.refl _ _ base w5).set_ h1 (by simp) h3 9 _
  exact⟨h1.set_ 9 _,h2.fr hf (by decide) (by decide) (by decide) (by decide) (by decide) (by decide) (by decide) (by decide) (by decide) (by simp) (by simp) (by simp) (by simp),h3,nT h4 hf.size,h5,h6.trans (hf.below.mono h5)⟩
 generalize w5.setCell ⟨bp,9,none⟩ (PT (some ⟨ss,0,none⟩))=w6 at H6⊢
 clear H5 x9 z9
 have CH:=jH (bhave_any base bp slots fl idle seg quota d ss 0 0 (PT none) (PT none) (PT none) (X Y 0) (G none 0 0) none 0 base [] none 0 base [] false lg sp sd sf mn ms' 6 f1 f2 0 [] 0 [] [] w6 H6.out.1 H6.out.2.2.1 H6.out.2.2.2.1 ⟨rfl,.inl ⟨rfl,rfl⟩⟩ ⟨rfl,.inl ⟨rfl,rfl⟩⟩ (by simp) (by simp) (by simp) (.inl rfl) (by omega) H6.out.2.1 (by simp) bes_nil.2 bes_nil.1 (mayN_of HC.out).1 (mayN_of HC.out).2 HC.out.a2 HC.out.a3 HC.out.a4)
 rw[show (([]:List Be).length)=0 from rfl,show (([]:List Fl).length)=0 from rfl,show ((0:Nat):Int)=0 from rfl] at CH
 refine CH.out.mono ?_
 rintro e w7 ⟨rfl,⟨tp,tm,tk,qp,qm,chp,dp,dm,qp2,qm2,il,hbal⟩,hb7⟩
 have HF:Hid (BalAt w7 base ⟨bp,d,ss,tp,chp,dp,lg,sp,sd,sf,mn,ms',f1,f2,tm,tk,qp,qm,dm,qp2,qm2⟩ slots fl idle seg quota 0 0 6 0 [] [] [] [] il 1∧w.heap.size≤base∧Below w.heap.size w w7):=⟨hbal,H6.out.2.2.2.2.1,H6.out.2.2.2.2.2.trans (hb7.below.mono H6.out.2.2.2.2.1)⟩
 clear hbal hb7 CH H6
 go_wp2
 go_ret2
 exact⟨⟨base,_,il,rfl,HF.out.2.1,HF.out.1⟩,HF.out.2.2⟩
end
section
open Go.RowKit
theorem ids_lt {l:List Be}{n:Nat}(h:MayBs n l)(hl:l.length=n):l.Pairwise (fun a b=>a.id < b.id):=by
 rw[List.pairwise_iff_getElem]
 intro i j hi hj hij
 induction j with
 |zero=>omega
 |succ j ih=>
  obtain⟨_,_,_,_,_,h5⟩:=h.2 (j + 1) (by omega)
  have hlt:=h5 (by omega)
  simp only[Nat.add_sub_cancel] at hlt
  by_cases e:i=j
  ·subst e;exact hlt
  ·exact Int.lt_trans (ih (by omega) (by omega)) hlt
theorem find_of_mem {l:List Be}(h:l.Pairwise (fun a b=>a.id < b.id)){b:Be}(hb:b∈l):findBe l b.id=(b,true):=by
 obtain⟨k,hk,rfl⟩:=List.getElem_of_mem hb
 refine findBe_yes hk rfl fun j hj hjk=>?_
 have:=List.pairwise_iff_getElem.1 h j k hj hk hjk
 omega
theorem okB_mem {l:List Be}{n:Nat}(h:MayBs n l)(hl:l.length=n){b:Be}(hb:b∈l):okB b=true:=by
 obtain⟨k,hk,rfl⟩:=List.getElem_of_mem hb
 obtain⟨_,h1,h2,h3,h4,_⟩:=h.2 k (by omega)
 exact okB_iff.2 ⟨h1,h2,h3,h4⟩
theorem mayB_of {l:List Be}(h0:0 < l.length)(h16:l.length≤16)(hp:l.Pairwise (fun a b=>a.id < b.id))(ho:∀b∈l,okB b=true):MayB l.length l:=by
 refine⟨h0,h16,fun j hj=>⟨hj,?_⟩⟩
 obtain⟨h1,h2,h3,h4⟩:=okB_iff.1 (ho _ (List.getElem_mem hj))
 refine⟨h1,h2,h3,h4,fun h=>?_⟩
 exact List.pairwise_iff_getElem.1 hp (j - 1) j (by omega) hj (by omega)
theorem pick_ok {l:List Be}{s:Nat}{k:Tu}(h:MayBs l.length l)(ho:BesOk l)(h0:0 < l.length)(hm:mayN s=true)(ht:mayTu k=true):
  ∃(b:Be) (bid:Nat),pickBe l (tableF l s) s k=(b,true)∧b∈l∧findBe l b.id=(b,true)∧b.id=(bid:Int)∧bid≤65535∧b.addr < 4294967296:=by
 have hp:=ids_lt h rfl
 have hs:0 < s:=by have:=(may_bounds hm).1;omega
 have hoL:∀b∈l,okB b=true:=fun b hb=>okB_mem h rfl hb
 unfold pickBe
 rw[if_pos ht]
 have hj:hashT k % s < s:=Nat.mod_lt _ hs
 generalize hashT k % s=j at hj
 have hmB:=mayB_of h0 h.1 hp hoL
 have hg:=good_of hm hmB
 have hlen:=tableB_length hg
 have hjl:j < (tableB (l.map (bkOf s)) s).length:=by omega
 obtain⟨bk,hbk,hid⟩:=tableB_full hg _ (List.getElem_mem hjl)
 obtain⟨b,hb,rfl⟩:=List.mem_map.1 hbk
 have hy:(tableF l s).getD j 0=b.id:=by
  rw[tableF_yes hmB,List.getD_eq_getElem?_getD,List.getElem?_eq_getElem hjl]
  exact hid
 obtain⟨e1,e2,_,_⟩:=okB_iff.1 (hoL b hb)
 rw[hy]
 exact⟨b,b.id.toNat,find_of_mem hp hb,hb,find_of_mem hp hb,by omega,by omega,(ho b hb).2.1⟩
end
section
open Go.RowKit Go.Maps
def mkB (k:Tu)(t:Nat):List Nat:=madeB k (t:Int) 0 []
theorem mkB_len (k:Tu)(t:Nat):(mkB k t).length≤40:=by unfold mkB;rw[madeB_length];split<;>simp
theorem mkB_all (k:Tu)(t:Nat):AllB (mkB k t):=madeB_all k _ 0 [] (fun x hx=>by simp at hx)
theorem mkB_facts (k:Tu)(t:Nat)(hk:TuOk k)(hm:mayTu k=true)(h1:2≤t)(h2:t≤255):
  whyT (mkB k t)=0∧tuT (mkB k t)=k∧endsL k (mkB k t)=false∧whyW (mkB k t) 1500=0:=by
 obtain⟨g1,g2⟩:=made_tells k (t:Int) 0 [] hk hm (by simp)
 refine⟨g1,?_,?_,?_⟩
 ·unfold tuT mkB
  rw[if_pos g1]
  exact g2
 ·unfold mkB
  rw[ends_made k k (t:Int) 0 [] hk hm (by simp)]
  simp[u64n]
 ·have hl:=mkB_len k t
  have e1:whyP (mkB k t)=0:=madeB_why k (t:Int) 0 [] (by simp)
  have e2:at' (mkB k t) 8=t:=by
   have:=madeB_ttl k (t:Int) 0 []
   unfold mkB
   rw[this]
   unfold u64n
   omega
  have e3:lenP (mkB k t)=(mkB k t).length:=madeB_lenP k (t:Int) 0 [] (by simp)
  unfold whyW
  rw[e1,e2,e3]
  rw[if_neg (by simp),if_neg (by omega),if_neg]
  omega
theorem wrap_mk (k:Tu)(t:Nat)(hk:TuOk k)(hm:mayTu k=true)(h1:2≤t)(h2:t≤255)(A:Option Addr)(n c B ad:Nat)(w:World)(hr:Reads w B 1 A n (bv (mkB k t)))(hB:B≤w.heap.size)(hnc:n≤c)(had:ad < 4294967296):
  ∀W,Below w.heap.size w W→Calls Pg 107 #[G A n c,X Z 168364297,X Z ad,X Y 1500] W fun e w'=>(∃A' n' c',e=rT (tU #[G A' n' c',X Y 0]))∧Below W.heap.size W w':=by
 intro W hW
 have hn:=hr.length
 have hl:=mkB_len k t
 have hf:=(mkB_facts k t hk hm h1 h2).2.2.2
 refine(wrap_any A n c B (mkB k t) 168364297 ad 1500 W (hr.below (hW.mono hB)) (nT hB hW.size) (by omega) hnc (mkB_all k t) (by omega) had).mono ?_
 rintro e w' ⟨hret,hb⟩
 refine⟨?_,hb⟩
 rcases hret with⟨_,A',c',rfl,_⟩|⟨hno,_⟩
 ·exact⟨A',_,c',rfl⟩
 ·exact absurd hf hno
theorem infoStep:(Pg.info? 37).map (·.size)=some 7:=by kernel_rfl
def stepP (da:Value):Value:=aG #[X Y 1,da,X Y 0,X Y 0,X Y 0,G none 0 0,G none 0 0]
theorem tpacket_ok (k:Tu)(hk:TuOk k)(w:World):
  Calls Pg 8 #[tupV k] w fun e w'=>∃A N c,e=rT (stepP (G A N c))∧N=(mkB k 9).length∧w'.ownsRow w.heap.size 5 1 (G A N c) N (bv (mkB k 9))∧Below w.heap.size w w':=by
 have hx:=(Blk.new w 39 k.vals).alloc (cL #[X Y 0,G none 0 0,X Y 0,X Y 0,X Y 0,G none 0 0,G none 0 0] 37)
 have hs:=Blk.new (w.alloc (.cells k.vals 39)) 37 #[X Y 0,G none 0 0,X Y 0,X Y 0,X Y 0,G none 0 0,G none 0 0]
 have hb2:=((bR w.heap.size w).alloc (nR _) (.cells k.vals 39)).alloc (by simp) (cL #[X Y 0,G none 0 0,X Y 0,X Y 0,X Y 0,G none 0 0,G none 0 0] 37)
 rw[show (w.alloc (.cells k.vals 39)).heap.size=w.heap.size + 1 by simp] at hs
 have HM:=jH (fun W=>made_any k 9 0 none 0 0 0 [] W hk (by omega) Reads.none_ (Nat.zero_le _) (by omega))
 have H:=jH (aI hs hb2)
 clear hs hb2
 obtain⟨src,dst,proto,sport,dport⟩:=k
 unfold tupV Tu.vals at *
 dsimp only at *
 obtain⟨t0,t1,t2,t3,t4⟩:=hx.c5
 clear hx
 go_enter func8,ntmps8
 go_wp2_with fail
 refine(HM.out _).mono ?_
 rintro e w1 ⟨A,N,c,rfl,hN,hown,hb⟩
 have HF:Hid (Blk w1 (w.heap.size + 1) 37 #[X Y 0,G none 0 0,X Y 0,X Y 0,X Y 0,G none 0 0,G none 0 0]∧N=(mkB ⟨src,dst,proto,sport,dport⟩ 9).length∧w1.ownsRow w.heap.size 5 1 (G A N c) N (bv (mkB ⟨src,dst,proto,sport,dport⟩ 9))∧Below w.heap.size w w1):=⟨H.out.1.below hb H.out.1.lt,hN,own_base hown H.out.2.size,H.out.2.trans (hb.mono H.out.2.size)⟩
 clear hN hown hb H HM t0 t1 t2 t3 t4
 obtain⟨s0,s1,s2,s3,s4,s5,s6⟩:=HF.out.1.c7
 obtain⟨z0,z1,z2,z3,z4,z5,z6⟩:=HF.out.1.f7
 go_wp2_with fail
 refine bodyPost_ret (results_cell_row rfl _ _ (w.heap.size + 1) 37 #[X Y 1,G A N c,X Y 0,X Y 0,X Y 0,G none 0 0,G none 0 0] (0,0) _ rfl (((((((HF.out.1.set_ 0 (X Y 1)).set_ 1 (G A N c)).set_ 2 (X Y 0)).set_ 3 (X Y 0)).set_ 4 (X Y 0)).set_ 5 (G none 0 0)).set_ 6 (G none 0 0)) underlying37 rfl infoStep) rfl ?_
 exact⟨A,N,c,rfl,HF.out.2.1,(own_set_far (own_set_far (own_set_far (own_set_far (own_set_far (own_set_far (own_set_far HF.out.2.2.1 HF.out.1 (by decide) 0 (X Y 1)) (HF.out.1.set_ 0 (X Y 1)) (by decide) 1 (G A N c)) ((HF.out.1.set_ 0 (X Y 1)).set_ 1 (G A N c)) (by decide) 2 (X Y 0)) (((HF.out.1.set_ 0 (X Y 1)).set_ 1 (G A N c)).set_ 2 (X Y 0)) (by decide) 3 (X Y 0)) ((((HF.out.1.set_ 0 (X Y 1)).set_ 1 (G A N c)).set_ 2 (X Y 0)).set_ 3 (X Y 0)) (by decide) 4 (X Y 0)) (((((HF.out.1.set_ 0 (X Y 1)).set_ 1 (G A N c)).set_ 2 (X Y 0)).set_ 3 (X Y 0)).set_ 4 (X Y 0)) (by decide) 5 (G none 0 0)) ((((((HF.out.1.set_ 0 (X Y 1)).set_ 1 (G A N c)).set_ 2 (X Y 0)).set_ 3 (X Y 0)).set_ 4 (X Y 0)).set_ 5 (G none 0 0)) (by decide) 6 (G none 0 0)),(((((((HF.out.2.2.2.setCell (p:=⟨w.heap.size + 1,0,none⟩) (nS _) (X Y 1)).setCell (p:=⟨w.heap.size + 1,1,none⟩) (nS _) (G A N c)).setCell (p:=⟨w.heap.size + 1,2,none⟩) (nS _) (X Y 0)).setCell (p:=⟨w.heap.size + 1,3,none⟩) (nS _) (X Y 0)).setCell (p:=⟨w.heap.size + 1,4,none⟩) (nS _) (X Y 0)).setCell (p:=⟨w.heap.size + 1,5,none⟩) (nS _) (G none 0 0)).setCell (p:=⟨w.heap.size + 1,6,none⟩) (nS _) (G none 0 0))⟩
theorem primeAt_in (z:Int):primeAt z∈[3,7,13,61,127,251]:=by
 unfold primeAt
 have h:u64n z % 6 < 6:=Nat.mod_lt _ (by omega)
 generalize u64n z % 6=i at h⊢
 rcases i with _|_|_|_|_|_|i<;>simp at h⊢
theorem made_ok (z:Int)(w:World):
  Calls Pg 6 #[X Y z,X Y 2,X Y 2] w fun e w'=>(∃(base:Nat) (p:BP) (il:List It),e=rT (PT (some ⟨p.bp,0,none⟩))∧w.heap.size≤base∧BalAt w' base p (primeAt z) 2 51 316 32000 0 0 6 0 [] [] [] [] il 1)∧Below w.heap.size w w':=by
 have CC:=jH (cfg_any z 2 (by omega) w)
 rw[show ((2:Nat):Int)=2 from rfl] at CC
 have HN:=jH (bnew_ok (primeAt z) 2 51 316 32000 ⟨primeAt_in z,by omega,by omega,by omega,by omega,by omega,by omega,by omega⟩)
 go_enter func6,ntmps6
 go_wp2_with fail
 refine CC.out.mono ?_
 rintro e w1 ⟨rfl,hb1⟩
 have HB1:=jH hb1
 clear hb1 CC
 go_wp2_with fail
 refine(HN.out w1).mono ?_
 rintro e w2 ⟨⟨base,p,il,rfl,hbase,hbal⟩,hb2⟩
 have HF:Hid (w.heap.size≤base∧BalAt w2 base p (primeAt z) 2 51 316 32000 0 0 6 0 [] [] [] [] il 1∧Below w.heap.size w w2):=⟨nT HB1.out.size hbase,hbal,HB1.out.trans (hb2.mono HB1.out.size)⟩
 clear hbase hbal hb2 HB1 HN
 go_wp2_with fail
 go_ret
 exact⟨⟨base,p,il,rfl,HF.out.1,HF.out.2.1⟩,HF.out.2.2⟩
def out0:Value:=tU #[aG #[X Y 0,X Y 0,X Y 0,G none 0 0],X Y 0]
theorem top_gen {w:World}{base:Nat}{p:BP}{slots fl idle seg quota gen now ops s:Nat}{L:List Nat}{bl:List Be}{fms fm:List (Tu×Fl)}{il:List It}{made:Int}(h:BalAt w base p slots fl idle seg quota gen now ops s L bl fms fm il made)(A:Option Addr)(n c:Nat)(l:List Be)(hgen:gen + 1≤1000000)(hok:BesOk l)(hmay:MayBs l.length l)(hmd:0≤made∧made≤1000000)(hops:ops≤900000000000)(hfit:L.length=0∨L.length + (21 + l.length * 7)≤seg)(hQ:L.length + (47 + l.length * 7)≤quota)(hL:21 + l.length * 7 + L.length≤1048576)
  (CS:∀W,Below w.heap.size w W→Calls Pg 118 #[G A n c] W fun e w'=>∃A' c',e=rT (G A' l.length c')∧w'.ownsRow W.heap.size 34 3 (G A' l.length c') l.length (bks l)∧Below W.heap.size W w'):
  Calls Pg 7 #[PT (some ⟨p.bp,0,none⟩),aG #[X Y 3,G none 0 0,X Y 0,X Y 0,X Y 0,G A n c,G none 0 0]] w fun e w'=>e=rT out0∧BalAt w' base p slots fl idle seg quota (gen + 1) now (ops + 1) s (L++frameB 3 3 (genB (gen + 1) l)) l fms fm il (made + 1)∧Fr KB p.maps base w w':=by
 obtain⟨A0,c0,k1,k2⟩:=h.blk
 refine bdo_set base p.bp (G A n c) (fun w'=>BalAt w' base p slots fl idle seg quota (gen + 1) now (ops + 1) s (L++frameB 3 3 (genB (gen + 1) l)) l fms fm il (made + 1)) KB p.maps w k1 h.hi (by decide) (fun a b ha hf=>ha.fr hf (by decide)) (fun W hW=>?_)
 refine bother_set p.bp (G A n c) (fun w'=>BalAt w' base p slots fl idle seg quota (gen + 1) now (ops + 1) s (L++frameB 3 3 (genB (gen + 1) l)) l fms fm il (made + 1)∧Fr KB p.maps base W w') W (fun W2 hW2=>?_)
 have hb2:=hW.trans (hW2.mono hW.size)
 refine(bal_set (h.made hb2) A n c l hgen hok hmay hmd hops hfit hQ hL (CS W2 hb2)).mono ?_
 rintro e w' ⟨rfl,hb,hf⟩
 exact⟨rfl,hb,(Fr.of_below KB p.maps hW2 (nT h.hi hW.size)).trans hf⟩
theorem top_tick {w:World}{base:Nat}{p:BP}{slots fl idle seg quota gen now ops s:Nat}{L:List Nat}{bl:List Be}{fms fm:List (Tu×Fl)}{il:List It}{made:Int}(h:BalAt w base p slots fl idle seg quota gen now ops s L bl fms fm il made)(k:Nat)(hk:k≤1000000)(ht:now + k≤1099511627776)(hidle:idle≤1099511627776)(hmd:0≤made∧made≤1000000)
  (hfew:∀ks l',DueR (((now + k:Nat):Int) - (idle:Int)) il ks l'→ks.length≤1)(hops:ops≤900000000000)(hfit:L.length=0∨L.length + 29≤seg)(hQ:L.length + 55≤quota)(hL:29 + L.length≤1048576):
  Calls Pg 7 #[PT (some ⟨p.bp,0,none⟩),aG #[X Y 2,G none 0 0,X Y k,X Y 0,X Y 0,G none 0 0,G none 0 0]] w fun e w'=>e=rT out0∧(∃(fs:List Fl) (l':List It),DueR (((now + k:Nat):Int) - (idle:Int)) il (fs.map fun f=>keyT f.k) l'∧fs.length≤1∧(∀f∈fs,mget fm f.k=some f)∧BalAt w' base p slots fl idle seg quota gen (now + k) (ops + fs.length) s (L++fs.flatMap fun f=>frameB 2 3 (tupB f.k)) bl (dels fms (fs.map Fl.k)) (dels fm (fs.map Fl.k)) l' (made + 1))∧Fr KB p.maps base w w':=by
 obtain⟨A0,c0,k1,k2⟩:=h.blk
 refine bdo_tick base p.bp (k:Int) (fun w'=>∃(fs:List Fl) (l':List It),DueR (((now + k:Nat):Int) - (idle:Int)) il (fs.map fun f=>keyT f.k) l'∧fs.length≤1∧(∀f∈fs,mget fm f.k=some f)∧BalAt w' base p slots fl idle seg quota gen (now + k) (ops + fs.length) s (L++fs.flatMap fun f=>frameB 2 3 (tupB f.k)) bl (dels fms (fs.map Fl.k)) (dels fm (fs.map Fl.k)) l' (made + 1)) KB p.maps w k1 h.hi (by decide) (fun a b ⟨fs,l',h1,h2,h3,h4⟩ hf=>⟨fs,l',h1,h2,h3,h4.fr hf (by decide)⟩) (fun W hW=>?_)
 refine bother_tick p.bp (k:Int) (fun w'=>(∃(fs:List Fl) (l':List It),DueR (((now + k:Nat):Int) - (idle:Int)) il (fs.map fun f=>keyT f.k) l'∧fs.length≤1∧(∀f∈fs,mget fm f.k=some f)∧BalAt w' base p slots fl idle seg quota gen (now + k) (ops + fs.length) s (L++fs.flatMap fun f=>frameB 2 3 (tupB f.k)) bl (dels fms (fs.map Fl.k)) (dels fm (fs.map Fl.k)) l' (made + 1))∧Fr KB p.maps base W w') W (fun W2 hW2=>?_)
 have hb2:=hW.trans (hW2.mono hW.size)
 refine(bal_tick (h.made hb2) k hk ht hidle hmd hfew hops hfit hQ hL).mono ?_
 rintro e w' ⟨rfl,hb,hf⟩
 exact⟨rfl,hb,(Fr.of_below KB p.maps hW2 (nT h.hi hW.size)).trans hf⟩
theorem top_new {w:World}{base:Nat}{p:BP}{slots fl idle seg quota gen now ops s:Nat}{L:List Nat}{bl:List Be}{fms fm:List (Tu×Fl)}{il:List It}{made:Int}(h:BalAt w base p slots fl idle seg quota gen now ops s L bl fms fm il made)(k:Tu)(t:Nat)(hk:TuOk k)(hm:mayTu k=true)(h1:2≤t)(h2:t≤255)(A:Option Addr)(N c B:Nat)(hr:Reads w B 1 A N (bv (mkB k t)))(hB:B≤w.heap.size)(hnc:N≤c)(hg:mget fm k=none)(hlt:fm.length < fl)(hbl:0 < bl.length)(hgen:gen≤1000000)(hnow:now≤1099511627776)(hlen:fms.length < 256)(hops:ops≤900000000000)(hfit:L.length=0∨L.length + 43≤seg)(hQ:L.length + 69≤quota)(hL:43 + L.length≤1048576):
  ∃bid:Nat,(∃b,b∈bl∧findBe bl (bid:Int)=(b,true)∧b.id=(bid:Int))∧FlOk ⟨k,bid,gen,now⟩∧Calls Pg 7 #[PT (some ⟨p.bp,0,none⟩),stepP (G A N c)] w fun e w'=>(∃A' n' c',e=rT (tU #[aG #[X Y 2,X Y 0,X Y bid,G A' n' c'],X Y 0]))∧(∃l',QSet il (keyT k) now l'∧BalAt w' base p slots fl idle seg quota gen now (ops + 1) s (L++frameB 1 3 (putB ⟨k,bid,gen,now⟩)) bl (mput fms k ⟨k,bid,gen,now⟩) (mput fm k ⟨k,bid,gen,now⟩) l' made)∧Fr KB p.maps base w w':=by
 obtain⟨b,bid,g1,g2,g3,g4,g5,g6⟩:=pick_ok h.may h.ok hbl h.mayn hm
 have hfok:FlOk ⟨k,bid,gen,now⟩:=⟨hk,hm,g5,hgen,hnow⟩
 refine⟨bid,⟨b,g2,g4▸g3,g4⟩,hfok,?_⟩
 obtain⟨f1,f2,f3,f4⟩:=mkB_facts k t hk hm h1 h2
 have hl:=mkB_len k t
 have hn:=hr.length
 obtain⟨A0,c0,k1,k2⟩:=h.blk
 refine bdo_packet base p.bp (G A N c) bid (fun w'=>∃l',QSet il (keyT k) now l'∧BalAt w' base p slots fl idle seg quota gen now (ops + 1) s (L++frameB 1 3 (putB ⟨k,bid,gen,now⟩)) bl (mput fms k ⟨k,bid,gen,now⟩) (mput fm k ⟨k,bid,gen,now⟩) l' made) KB p.maps w k1 h.hi (by decide) (fun a b ⟨l',q1,q2⟩ hf=>⟨l',q1,q2.fr hf (by decide)⟩) (fun W hW=>?_)
 refine bpacket_one (h.made hW) (mput fm k ⟨k,bid,gen,now⟩) k bid ⟨k,bid,gen,now⟩ A N c hfok hlen hops hfit hQ hL (fun W2 hW2=>?_)
 have hb2:=hW.trans (hW2.mono hW.size)
 have hm2:=h.made hb2
 refine(pathpk_new base p.tp p.tm p.tk p.qp p.qm fl idle p.chp slots seg quota fl gen now fm il bl (tableF bl slots) made A N c B (mkB k t) k b bid W2 (hr.below (hb2.mono hB)) (nT hB hb2.size) (by omega) hnc (mkB_all k t) f1 f2 hk f3 hm2.fl hm2.ch h.mayn hm2.hi hg hlt g1 g4 hfok hnow (wrap_mk k t hk hm h1 h2 A N c B b.addr W2 (hr.below (hb2.mono hB)) (nT hB hb2.size) hnc g6)).mono ?_
 rintro e w' ⟨⟨A',n',c',g,rfl,_,hrec⟩,hq,hf⟩
 exact⟨⟨A',n',c',g,rfl,hrec⟩,hq,hf⟩
theorem top_known {w:World}{base:Nat}{p:BP}{slots fl idle seg quota gen now ops s:Nat}{L:List Nat}{bl:List Be}{fms fm:List (Tu×Fl)}{il:List It}{made:Int}(h:BalAt w base p slots fl idle seg quota gen now ops s L bl fms fm il made)(k:Tu)(f:Fl)(t:Nat)(hk:TuOk k)(hm:mayTu k=true)(h1:2≤t)(h2:t≤255)(A:Option Addr)(N c B:Nat)(hr:Reads w B 1 A N (bv (mkB k t)))(hB:B≤w.heap.size)(hnc:N≤c)(hg:mget fm k=some f)(hfk:f.k=k)(b:Be)(hb:b∈bl)(hfind:findBe bl (f.be:Int)=(b,true))(hbid:b.id=(f.be:Int))(hle:f.seen≤now)(hnow:now≤1099511627776):
  Calls Pg 7 #[PT (some ⟨p.bp,0,none⟩),stepP (G A N c)] w fun e w'=>(∃A' n' c',e=rT (tU #[aG #[X Y 2,X Y 0,X Y f.be,G A' n' c'],X Y 0]))∧(∃l',QSet il (keyT k) now l'∧BalAt w' base p slots fl idle seg quota gen now ops s L bl fms (mput fm k {f with seen:=now}) l' made)∧Fr KB p.maps base w w':=by
 obtain⟨f1,f2,f3,f4⟩:=mkB_facts k t hk hm h1 h2
 have hl:=mkB_len k t
 have hn:=hr.length
 obtain⟨A0,c0,k1,k2⟩:=h.blk
 refine bdo_packet base p.bp (G A N c) f.be (fun w'=>∃l',QSet il (keyT k) now l'∧BalAt w' base p slots fl idle seg quota gen now ops s L bl fms (mput fm k {f with seen:=now}) l' made) KB p.maps w k1 h.hi (by decide) (fun a b ⟨l',q1,q2⟩ hf=>⟨l',q1,q2.fr hf (by decide)⟩) (fun W hW=>?_)
 refine bpacket_none (h.made hW) (mput fm k {f with seen:=now}) k f.be A N c (fun W2 hW2=>?_)
 have hb2:=hW.trans (hW2.mono hW.size)
 have hm2:=h.made hb2
 exact pathpk_known base p.tp p.tm p.tk p.qp p.qm fl idle p.chp slots seg quota fl gen now fm il bl (tableF bl slots) made A N c B (mkB k t) k b f W2 (hr.below (hb2.mono hB)) (nT hB hb2.size) (by omega) hnc (mkB_all k t) f1 f2 hk f3 hm2.fl hm2.ch h.mayn hm2.hi hg hfk hfind hbid hle hnow (wrap_mk k t hk hm h1 h2 A N c B b.addr W2 (hr.below (hb2.mono hB)) (nT hB hb2.size) hnc (h.ok b hb).2.1)
def KS:List TypeId:=KB++[175]
theorem top_sync {w:World}{base:Nat}{p:BP}{slots fl idle seg quota gen now ops s:Nat}{L:List Nat}{bl:List Be}{fms fm:List (Tu×Fl)}{il:List It}{made:Int}(h:BalAt w base p slots fl idle seg quota gen now ops s L bl fms fm il made)(hops:ops≤900000000000)(hfms:fms.length≤1000000):
  Calls Pg 7 #[PT (some ⟨p.bp,0,none⟩),aG #[X Y 6,G none 0 0,X Y 0,X Y 0,X Y 0,G none 0 0,G none 0 0]] w fun e w'=>e=rT out0∧BalAt w' base p slots fl idle seg quota gen now (ops + 1) L.length L bl fms fm il made∧Fr KS p.maps base w w':=by
 obtain⟨A0,c0,k1,k2⟩:=h.blk
 obtain⟨gs,bls,k3,k4⟩:=h.sto
 refine bdo_sync base p.bp (fun w'=>BalAt w' base p slots fl idle seg quota gen now (ops + 1) L.length L bl fms fm il made) KS p.maps w k1 h.hi (by decide) (fun a b ha hf=>ha.fr hf (by decide)) (fun W hW=>?_)
 refine bother_sync p.bp p.ss (fun w'=>BalAt w' base p slots fl idle seg quota gen now (ops + 1) L.length L bl fms fm il made∧Fr KS p.maps base W w') W (k1.below hW k1.lt) (fun W2 hW2=>?_)
 have hb2:=hW.trans (hW2.mono hW.size)
 have h2:=h.made hb2
 refine(stosync_ok base p.ss p.lg p.sp p.sd p.sf p.d p.mn p.ms seg quota ops p.f1 p.f2 s L gs bls fms W2 (k3.made hb2) (by omega) hfms hops).mono ?_
 rintro e w' ⟨rfl,hs,hf⟩
 obtain⟨m1,m2,m3,m4,m5,-⟩:=BP.apart h.maps
 have mm:∀{x:Nat},x∉[p.mn,p.sf]→x∉[p.mn]:=fun hx hy=>hx (by simp only[List.mem_cons,List.not_mem_nil,or_false] at hy⊢;exact .inl hy)
 obtain⟨A,c,q1,q2⟩:=h2.blk
 refine⟨rfl,{h2 with hi:=nT h2.hi hf.size,blk:=⟨A,c,hf.blk _ _ _ q1 (by decide),hf.own q2 (by decide)⟩,sto:=⟨gs,bls,hs,k4⟩,fl:=h2.fl.fr hf (by decide) (by decide) (by decide) (by decide) (mm m3) (mm m1) (mm m2),ch:=h2.ch.fr hf (by decide) (by decide) (by decide),dr:=h2.dr.fr hf (by decide) (by decide) (mm m5) (mm m4)},?_⟩
 exact(Fr.of_below KS p.maps hW2 (nT h.hi hW.size)).trans (hf.mono (by decide) (fun b hb=>by simp only[BP.maps,List.mem_cons,List.not_mem_nil,or_false] at hb⊢;exact .inl hb))
theorem bal_8 {w:World}{bp slots fl idle seg quota d ss now:Nat}{v10 v11 v12 v13 v14:Value}{t:TypeId}(h:Blk w bp t (balG slots fl idle seg quota d ss v10 v11 v12 v13 v14 now)):w.cell? ⟨bp,8,none⟩=some (PT (some ⟨d,0,none⟩)):=by have:=h.cell 8;simpa [balG] using this
theorem bdo_crash (base bp:Nat)(A:Option Addr)(n c:Nat)(K1 K:List TypeId)(M:List Nat)(P1 P:World→Prop)(w:World){slots fl idle seg quota d ss now:Nat}{v10 v11 v12 v13 v14:Value}(hb:Blk w bp 69 (balG slots fl idle seg quota d ss v10 v11 v12 v13 v14 now))(hbase:base≤w.heap.size)(hK1:69∉K1)(hK2:37∉K1)(hK3:28∉K1)(hP:∀a b,P a→Fr [28] [] base a b→P b)
  (CK:∀W,Below w.heap.size w W→Calls Pg 16 #[PT (some ⟨d,0,none⟩),G A n c] W fun e w'=>e=rT (tU #[])∧P1 w'∧Fr K1 [] base W w')
  (CA:∀W,P1 W→Calls Pg 17 #[PT (some ⟨bp,0,none⟩)] W fun e w'=>e=rT (X Y 0)∧P w'∧Fr K M base w w'∧∀g cs,Blk W g 28 cs→Blk w' g 28 cs):
  Calls Pg 7 #[PT (some ⟨bp,0,none⟩),aG #[X Y 8,G none 0 0,X Y 0,X Y 0,X Y 0,G none 0 0,G A n c]] w fun e w'=>e=rT out0∧P w'∧Fr K M base w w':=by
 unfold out0
 have hx:=(Blk.new w 37 #[X Y 8,G none 0 0,X Y 0,X Y 0,X Y 0,G none 0 0,G A n c]).alloc (cL #[X Y 0,X Y 0,X Y 0,G none 0 0] 28)
 obtain⟨x0,x1,x2,x3,x4,x5,x6⟩:=hx.c7
 have ho:=Blk.new (w.alloc (cL #[X Y 8,G none 0 0,X Y 0,X Y 0,X Y 0,G none 0 0,G A n c] 37)) 28 #[X Y 0,X Y 0,X Y 0,G none 0 0]
 have hb1:=(hb.alloc (cL #[X Y 8,G none 0 0,X Y 0,X Y 0,X Y 0,G none 0 0,G A n c] 37)).alloc (cL #[X Y 0,X Y 0,X Y 0,G none 0 0] 28)
 have hbl:Below w.heap.size w ((w.alloc (cL #[X Y 8,G none 0 0,X Y 0,X Y 0,X Y 0,G none 0 0,G A n c] 37)).alloc (cL #[X Y 0,X Y 0,X Y 0,G none 0 0] 28)):=((bR w.heap.size w).alloc (nR _) _).alloc (by simp) _
 have hz:(w.alloc (cL #[X Y 8,G none 0 0,X Y 0,X Y 0,X Y 0,G none 0 0,G A n c] 37)).heap.size=w.heap.size + 1:=by simp
 rw[hz] at ho
 have HC:=jH (CK _ hbl.drew)
 have HCA:=jH CA
 have H:=jH (aI ho (aI hbl (aI hx hb1)))
 clear CK CA hx hb hb1 ho hbl
 go_enter func7,ntmps7
 go_wp2_with fail
 generalize ((w.alloc (cL #[X Y 8,G none 0 0,X Y 0,X Y 0,X Y 0,G none 0 0,G A n c] 37)).alloc (cL #[X Y 0,X Y 0,X Y 0,G none 0 0] 28))=w0 at *
 have d0:w0.drew.cell? ⟨bp,8,none⟩=some (PT (some ⟨d,0,none⟩))∧w0.drew.cell? ⟨w.heap.size,6,none⟩=some (G A n c):=⟨bal_8 H.out.2.2.2.drew,x6⟩
 go_region_held3 (fun wS=>wS.cell? ⟨bp,8,none⟩=some (PT (some ⟨d,0,none⟩))∧wS.cell? ⟨w.heap.size,6,none⟩=some (G A n c)) (first|with_reducible exact d0|with_reducible exact d1|fail)
  (first
   |(go_at_call 16;(with_reducible refine HC.out.mono ?_);rintro e w1 ⟨rfl,hP1,hF⟩;have d1:w1.cell? ⟨bp,8,none⟩=some (PT (some ⟨d,0,none⟩))∧w1.cell? ⟨w.heap.size,6,none⟩=some (G A n c):=⟨bal_8 (hF.blk _ _ _ H.out.2.2.2.drew hK1),(hF.blk _ _ _ H.out.2.2.1.drew hK2).cell 6⟩))
 have H1:Hid (Blk w1 (w.heap.size + 1) 28 #[X Y 0,X Y 0,X Y 0,G none 0 0]∧P1 w1):=⟨hF.blk _ _ _ H.out.1.drew hK3,hP1⟩
 clear hF hP1 HC H d0 d1 x0 x1 x2 x3 x4 x5 x6
 go_wp2_with fail
 refine(HCA.out _ H1.out.2).mono ?_
 rintro e w2 ⟨rfl,hP2,hF2,hB2⟩
 have HF:Hid (Blk w2 (w.heap.size + 1) 28 #[X Y 0,X Y 0,X Y 0,G none 0 0]∧P w2∧Fr K M base w w2):=⟨hB2 _ _ H1.out.1,hP2,hF2⟩
 clear hP2 hF2 hB2 H1 HCA
 obtain⟨o0,o1,o2,o3⟩:=HF.out.1.c4
 obtain⟨z0,z1,z2,z3⟩:=HF.out.1.f4
 go_wp2_with fail
 have hbq:base≤w.heap.size + 1:=nT hbase (nS _)
 have hfr:=(((((Fr.refl [28] [] base w2).set_ HF.out.1 (by simp) hbq 0 (X Y 0)).set_ (HF.out.1.set_ 0 (X Y 0)) (by simp) hbq 1 (X Y 0)).set_ ((HF.out.1.set_ 0 (X Y 0)).set_ 1 (X Y 0)) (by simp) hbq 2 (X Y 0)).set_ (((HF.out.1.set_ 0 (X Y 0)).set_ 1 (X Y 0)).set_ 2 (X Y 0)) (by simp) hbq 3 (G none 0 0))
 refine bodyPost_ret (results_row_tmp rfl _ _ (w.heap.size + 1) 28 #[X Y 0,X Y 0,X Y 0,G none 0 0] (0,0) _ rfl ((((HF.out.1.set_ 0 (X Y 0)).set_ 1 (X Y 0)).set_ 2 (X Y 0)).set_ 3 (G none 0 0)) underlying28 rfl infoOut) rfl ?_
 exact⟨rfl,hP _ _ HF.out.2.1 hfr,((((HF.out.2.2.set_new (nS _) hbase 0 (X Y 0)).set_new (nS _) hbase 1 (X Y 0)).set_new (nS _) hbase 2 (X Y 0)).set_new (nS _) hbase 3 (G none 0 0))⟩
def KC:List TypeId:=[102,111,23]++KA
theorem top_crash {w:World}{base:Nat}{p:BP}{slots fl idle seg quota gen now ops:Nat}{L:List Nat}{bl:List Be}{fms fm:List (Tu×Fl)}{il:List It}{made:Int}(h:BalAt w base p slots fl idle seg quota gen now ops L.length L bl fms fm il made)(rs:List RecS)
  (hL:L=logB 3 (rs.map RecS.fr))(hok:∀r∈rs,r.Ok)(hlen:rs.length≤200)(hfr:FrOk (rs.map RecS.fr))(hs1:16≤seg)(hs2:seg≤1048576)(hops:ops≤800000000000)
  (hfok:∀f∈(recSt rs).2.2.map (·.2),FlOk f)(hnd:(((recSt rs).2.2.map (·.2)).map Fl.k).Nodup)(hmost:(recSt rs).2.2.length≤fl)(hnow:now≤1099511627776)(h16:(recSt rs).2.1.length≤16)(hsl:slots≤1000000)(hfl:fl≤256)(hi1:1≤idle)(hi2:idle≤1099511627776):
  Calls Pg 7 #[PT (some ⟨p.bp,0,none⟩),aG #[X Y 8,G none 0 0,X Y 0,X Y 0,X Y 0,G none 0 0,G none 0 0]] w fun e w'=>e=rT out0∧(∃p' il' fs,p'.bp=p.bp∧fs.Perm ((recSt rs).2.2.map (·.2))∧BalAt w' base p' slots fl idle seg quota (recSt rs).1 now (ops + 2) L.length L (recSt rs).2.1 (recSt rs).2.2 (flm (seenAt now fs)) il' 1)∧Fr KC [] base w w':=by
 obtain⟨A0,c0,k1,k2⟩:=h.blk
 obtain⟨gs,bls,hs,h16'⟩:=h.sto
 have hbase:=h.hi
 refine bdo_crash base p.bp none 0 0 [102,111,23] KC [] (fun W=>∃mq mc,DiskAt W base p.d mq mc (diskL quota ops p.f1 p.f2 L L.length 3)∧Fr [102,111,23] [] base w W∧w.heap.size≤mq) (fun w'=>∃p' il' fs,p'.bp=p.bp∧fs.Perm ((recSt rs).2.2.map (·.2))∧BalAt w' base p' slots fl idle seg quota (recSt rs).1 now (ops + 2) L.length L (recSt rs).2.1 (recSt rs).2.2 (flm (seenAt now fs)) il' 1) w (v10:=PT (some ⟨p.tp,0,none⟩)) (v11:=PT (some ⟨p.chp,0,none⟩)) (v12:=PT (some ⟨p.dp,0,none⟩)) (v13:=X Y gen) (v14:=G A0 bl.length c0) k1 hbase (by decide) (by decide) (by decide) ?_ ?_ ?_
 ·rintro a b ⟨p',il',fs,q1,q2,q3⟩ hf
  exact⟨p',il',fs,q1,q2,q3.fr hf (by decide)⟩
 ·intro W hW
  refine(crash_sure base p.d p.mn p.ms base (diskL quota ops p.f1 p.f2 L L.length 3) none 0 0 [] W (hs.dk.made hW) rfl ?_ (by show 2≤100000;omega) ?_ Reads.none_ (nR _) (nR _) (by omega) (fun x hx=>by simp at hx)).mono ?_
  ·intro f q hq
   unfold diskL at hq
   rw[mget_cons] at hq
   split at hq
   ·injection hq with hq;subst hq;rfl
   ·rw[mget_cons] at hq
    split at hq
    ·injection hq with hq;subst hq;rfl
    ·simp[mget] at hq
  ·intro x hx
   unfold diskL at hx
   simp only[List.mem_cons,List.not_mem_nil,or_false] at hx
   rcases hx with rfl|rfl
   ·exact okS_of_named (nameS_ok 1)
   ·show (⟨#[109]⟩:ByteArray).size≤4096
    decide
  ·rintro e w' ⟨rfl,mq,mc,e1,e2,hD,hf⟩
   exact⟨rfl,⟨mq,mc,hD,(Fr.of_below _ _ hW hbase).trans hf,nT hW.size e1⟩,hf⟩
 ·rintro W ⟨mq,mc,hD,hf,hq⟩
  refine(anew_ok base p.bp slots fl idle seg quota p.d p.ss now mq mc ops p.f1 p.f2 L.length (PT (some ⟨p.tp,0,none⟩)) (PT (some ⟨p.chp,0,none⟩)) (PT (some ⟨p.dp,0,none⟩)) (X Y gen) (G A0 bl.length c0) rs L W (hf.blk _ _ _ k1 (by decide)) h.lob hL hok hlen hfr hD hs1 hs2 hs.nef hops hfok hnd hmost hnow h16 h.mayn hsl hfl hi1 hi2).mono ?_
  rintro e w' ⟨rfl,q1,q2⟩
  refine⟨rfl,q1,?_,fun g cs hg=>q2.blk _ _ _ hg (by decide)⟩
  have q3:Fr KC [mq] base w w':=(hf.mono (by decide) (by simp)).trans (q2.mono (by decide) (fun b hb=>hb))
  exact q3.offM (fun b hb=>by simp at hb;subst hb;exact hq)
end
section
open Go.RowKit
theorem zeros_list (m:Nat):(Builtin.zeroCells (X .u8 0).cells m).toList=bv (List.replicate m 0):=by
 rw[show (Value.int IntKind.u8 0).cells=#[X .u8 0] from rfl]
 rw[List.eq_replicate_iff.2 (⟨rfl,fun b hb=>?_⟩:_=_∧∀b∈(Builtin.zeroCells #[X .u8 0] m).toList,b=X .u8 0)]
 ·simp[Builtin.zeroCells,bv]
 ·simp[Builtin.zeroCells,Nat.mod_one] at hb
  exact hb.2.symm
theorem run_append_zeros_b {P:Program}{w:World}(base:Nat)(t tn ty e:TypeId)(kn kq:IntKind)(ht:P.underlying t=some (.slice e))(htn:P.underlying tn=some (.int kn))
  (hinfo:(P.info? e).map (fun i=>(i.zero,i.size,i.bytes))=some (some (X .u8 0),1,1))
  (v:Value)(n:Nat)(l:List Nat)(hown:w.ownsRow base e 1 v n (bv l))(m:Nat)(hbytes:n + m≤140737488355328)(hbase:base≤w.heap.size):
  ∃v' w',(Builtin.append_ #[t,tn] ty #[v,.int kq (m:Int)]).run P w=.ok v' w'∧w'.ownsRow base e 1 v' (n + m) (bv (l++List.replicate m 0))∧w.grownBy w' v.ownBlock:=by
 obtain⟨i,hi,hz,hsz,hby⟩:=info_parts hinfo
 have hzero:(zeroValue e).run P w=.ok (X .u8 0) w:=by simp[zeroValue,typeInfo,hi,hz]
 have hw:IntKind.i64.wrap (m:Int)=m:=by rw[IntKind.wrap_i64];omega
 have hneg:¬((m:Int) < 0):=by omega
 have h48i:¬(281474976710656 < (m:Int) * (i.bytes:Int)):=by rw[hby];omega
 have grown:∀(old:Nat) (row:Option Nat),(w.drew.alloc (cL ((bv l).toArray++Builtin.zeroCells (X .u8 0).cells m++Builtin.zeroCells (X .u8 0).cells (grownCap w (n + m) old e - (n + m))) e)).ownsRow base e 1
    (G (some ⟨w.heap.size,0,none⟩) (n + m) (grownCap w (n + m) old e)) (n + m) (bv (l++List.replicate m 0))∧
   w.grownBy (w.drew.alloc (cL ((bv l).toArray++Builtin.zeroCells (X .u8 0).cells m++Builtin.zeroCells (X .u8 0).cells (grownCap w (n + m) old e - (n + m))) e)) row:=by
  intro old row
  have hge:=grownCap_ge w (n + m) old e
  have hcm:grownCap w (n + m) old e≤maxLen:=grownCap_le_maxLen w (n + m) old e (by unfold maxLen;omega)
  have hl1:=hown.1
  refine⟨⟨?_,.inr ⟨w.heap.size,_,_,rfl,hbase,heap_alloc_new w.drew _,hge,hcm,?_,?_⟩⟩,⟨rfl,rfl,rfl,by simp,fun k hk _=>by first|exact heap_alloc_old w.drew _ k hk|exact heap_alloc_old w.drew _ hk⟩⟩
  ·rw[bv_length] at *;simp;omega
  ·rw[show (Value.int IntKind.u8 0).cells=#[X .u8 0] from rfl]
   simp only[Array.size_append,List.size_toArray,size_zeroCells]
   rw[bv_length] at *
   simp
   omega
  ·simp only[Array.toList_append,zeros_list,List.append_assoc]
   rw[bv_append]
   rw[show (n + m) * 1=((bv l)++bv (List.replicate m 0)).length from by simp[bv_length] at *;omega]
   rw[←List.append_assoc]
   exact List.take_left
 rcases hown.2 with⟨rfl,rfl⟩|⟨g,cap,cur,rfl,hbg,hg,hnc,hcm,hcs,htake⟩
 ·have hl0:l=[]:=by
   have:=hown.1
   rw[bv_length] at this
   exact List.eq_nil_of_length_eq_zero (by omega)
  subst hl0
  by_cases hm:m=0
  ·subst hm
   refine⟨G none 0 0,w,?_,by simpa [bv] using World.ownsRow_nil w base e 1,World.grownBy.refl w _⟩
   simp[Builtin.append_,run_underlying ht,run_underlying htn,sizeOf,typeInfo,hi,asInt,asIntOf,storeCells,IntKind.wrap_i64]
  ·have hr:=Lib.run_append_nil_zeros (P:=P) w t tn ty e i _ kq kn ht htn hi hz m (by omega) (by omega) (by omega) (by rw[hby];omega)
   have hgr:=grown 0 (Value.ownBlock (G none 0 0))
   simp only[Nat.zero_add] at hgr⊢
   simp only[bv_nil,List.nil_append] at hgr
   have e1:((#[]:Array Value)++Builtin.zeroCells (Value.int IntKind.u8 0).cells m)=Builtin.zeroCells (Value.int IntKind.u8 0).cells m:=Array.empty_append
   rw[e1] at hgr
   exact⟨_,_,hr,hgr.1,hgr.2⟩
 ·by_cases hroom:n + m≤cap
  ·have hst:=run_storeCells_at P g n e (bv (List.replicate m 0)) 0 cur w hg (by rw[bv_length];simp;omega) (bv_one _)
   simp only[Nat.add_zero] at hst
   refine⟨G (some ⟨g,0,none⟩) (n + m) cap,w.setRow g (cur.toList.take n++bv (List.replicate m 0)++cur.toList.drop (n + (bv (List.replicate m 0)).length)).toArray,?_,⟨?_,.inr ⟨g,cap,_,rfl,hbg,setRow_heap w g cur _ e _ hg,hroom,hcm,?_,?_⟩⟩,⟨rfl,rfl,rfl,by simp,fun k _ hk=>setRow_other w g k _ (fun e=>hk (by simp[Value.ownBlock,e]))⟩⟩
   ·by_cases hm:m=0
    ·subst hm
     have h2:Result.ok () w=Result.ok () (w.setRow g (cur.toList.take n++bv (List.replicate 0 0)++cur.toList.drop (n + (bv (List.replicate 0 0)).length)).toArray):=hst
     injection h2 with _ h2
     rw[←h2]
     simp[Builtin.append_,run_underlying ht,run_underlying htn,sizeOf,typeInfo,hi,hsz,asInt,asIntOf,hnc,storeCells,IntKind.wrap_i64]
    ·simp[Builtin.append_,run_underlying ht,run_underlying htn,sizeOf,typeInfo,hi,hsz,asInt,asIntOf,hw,hneg,h48i,hm,hroom,hzero,Addr.add_lit,zeros_list,hst]
   ·have:=hown.1;rw[bv_length] at *;simp;omega
   ·simp only[List.size_toArray,List.length_append,List.length_take,List.length_drop,Array.length_toList,bv_length,List.length_replicate]
    omega
   ·have h1:(cur.toList.take n)=bv l:=by simpa using htake
    rw[h1,bv_append]
    have hl:=hown.1
    rw[show (n + m) * 1=((bv l)++bv (List.replicate m 0)).length from by simp[bv_length] at *;omega]
    exact List.take_left
  ·have hold:∀j u,(bv l)[j]? =some u→w.drew.cell? ((⟨g,0,none⟩:Addr).add j)=some u:=hown.cells (g:=g) rfl
   have hlb:=hown.1
   have hf:=run_firstCells_some (P:=P) w.drew i.size n ⟨g,0,none⟩ n cap (bv l) (by rw[hsz];exact hlb) hold
   have hr:=Lib.run_append_grow_zeros (P:=P) w t tn ty e i _ kq kn ht htn hi hz (some ⟨g,0,none⟩) n cap (bv l) hf m (by omega) (by omega) (by omega) (by omega) (by rw[hby];omega)
    (by have:=growslice_fits (need:=n + m) (old:=cap) (bytes:=1) (by omega) (by omega);rw[hby];exact this)
   have hgr:=grown cap (Value.ownBlock (G (some ⟨g,0,none⟩) n cap))
   exact⟨_,_,hr,hgr.1,hgr.2⟩
theorem wpList_append_z {P:Program}{w:World}{ops:Array Oper}{rest:List Oper}{o:Oper}{a:Act}{Q:Exit→Act→World→Prop}(hw:Region.wanted o (yielded ops a.tmps)=true)(s x:Operand)(t tn:TypeId)
  (ho:o.op=.call {callee:=.builtin .append,args:=#[s,x],argTypes:=#[t,tn]})
  (e:TypeId)(hi:(P.info? e).map (fun i=>(i.zero,i.size,i.bytes))=some (some (X .u8 0),1,1))(ht:P.underlying t=some (.slice e))(kn kq:IntKind)(htn:P.underlying tn=some (.int kn))
  (base:Nat)(v:Value)(n:Nat)(l:List Nat)(hs:a.eval s=v)(hown:w.ownsRow base e 1 v n (bv l))
  (M:Int)(m:Nat)(hx:a.eval x=.int kq M)(hM:M=(m:Int))
  (k:Nat)(hk:n + m=k)(hbytes:k≤140737488355328)(hbase:base≤w.heap.size)
  (h:∀A' c' w',w'.ownsRow base e 1 (G A' k c') k (bv (l++List.replicate m 0))→Below base w w'→w.grownBy w' v.ownBlock→wpList P ops Q rest (a.put o.dst (G A' k c')) w'):
  wpList P ops Q (o::rest) a w:=by
 subst hk hM
 obtain⟨v',w',hrun,h1,h2⟩:=run_append_zeros_b (P:=P) (w:=w) base t tn o.type e kn kq ht htn hi v n l hown m hbytes hbase
 obtain⟨A',c',rfl⟩:=own_slice h1
 exact BigFrame.wpList_want hw fun _ hK=>Lib.wp_append_run w s x t tn ho v _ hs hx _ _ hrun (hK _ _ (h A' c' w' h1 ((bR _ _).grown h2 hbase (fun k hk=>(hown.lt k hk).1)) h2))
theorem own_take0 {w:World}{base n c:Nat}{A:Option Addr}{e:TypeId}{xs:List Value}(h:w.ownsRow base e 1 (G A n c) n xs)(hn:0 < n):∃g,A=some ⟨g,0,none⟩∧w.ownsRow base e 1 (G A 0 c) 0 []:=by
 rcases h.2 with⟨h1,_⟩|⟨g,cap,cur,hv,hb,hg,hnc,hcm,hcs,htk⟩
 ·injection h1 with h1 h2
  omega
 ·injection hv with h1 h2 h3
  subst h1
  subst h3
  exact⟨g,rfl,⟨by simp,.inr ⟨g,c,cur,rfl,hb,hg,Nat.zero_le _,hcm,hcs,by simp⟩⟩⟩
theorem grow_nil (n:Nat)(hn:0 < n)(hn2:n≤1000000)(w:World):
  Calls Pg 265 #[G none 0 0,X Y n] w fun e w'=>∃g c,e=rT (G (some ⟨g,0,none⟩) 0 c)∧w'.ownsRow w.heap.size 5 1 (G (some ⟨g,0,none⟩) 0 c) 0 []∧Below w.heap.size w w':=by
 have d1:decide ((n:Int) < 0)=false:=decide_eq_false (by omega)
 have d2:decide ((0:Int) < (n:Int))=true:=decide_eq_true (by omega)
 go_enter func265,ntmps265
 go_wp2_with (at_builtin;refine stop_ ?_)
 refine on_ ?_
 refine wpList_append_z rfl (.tmp 20) (.tmp 21) _ _ rfl 5 infoB underlying23 .i64 .i64 underlying3 w.heap.size (G none 0 0) 0 [] rfl (World.ownsRow_nil _ _ _ _) (n:Int) n rfl rfl n (by omega) (by omega) (nR _) ?_
 intro A c w1 hown hb _
 have hlen:=hown
 obtain⟨g,rfl,h0⟩:=own_take0 hown hn
 have hc:=(own_capp hown)
 have H:=jH (aI h0 hb)
 have hc1:n≤c:=hc.1
 have hc0:¬c=0:=by omega
 clear hown hlen h0 hb hc
 go_wp2_with fail
 go_ret
 exact⟨g,c,rfl,H.out⟩
theorem concat2_ok (g0:Nat)(A1 A2:Option Addr)(n1 n2 c1 c2 B:Nat)(l1 l2:List Nat)(w:World)(hrow:Blk w g0 23 #[G A1 n1 c1,G A2 n2 c2])(hr1:Reads w B 1 A1 n1 (bv l1))(hr2:Reads w B 1 A2 n2 (bv l2))(hB:B≤w.heap.size)(h1:n1≤100000)(h2:n2≤100000)(h0:0 < n1):
  Calls Pg 162 #[G (some ⟨g0,0,none⟩) 2 2] w fun e w'=>∃A c,e=rT (G A (n1 + n2) c)∧w'.ownsRow w.heap.size 5 1 (G A (n1 + n2) c) (n1 + n2) (bv (l1++l2))∧Below w.heap.size w w':=by
 obtain⟨k0,k1⟩:=hrow.c2
 have CG:=jH (grow_nil (n1 + n2) (by omega) (by omega) w)
 rw[Int.natCast_add] at CG
 have H0:=jH (aI hrow (aI hr1 (aI hr2 hB)))
 clear hrow hr1 hr2
 go_enter func162,ntmps162
 go_wp2_with fail
 refine wp_loop_rounds 3 ?_
 rw[rounds_succ]
 go_wp2_with fail
 rw[rounds_succ]
 go_wp2_with fail
 rw[rounds_succ]
 go_wp2_with fail
 refine CG.out.mono ?_
 rintro e w1 ⟨g,c,rfl,hown,hb⟩
 have H1:Hid (Blk w1 g0 23 #[G A1 n1 c1,G A2 n2 c2]∧w1.ownsRow w.heap.size 5 1 (G (some ⟨g,0,none⟩) 0 c) 0 (bv [])∧Reads w1 B 1 A1 n1 (bv l1)∧Reads w1 B 1 A2 n2 (bv l2)∧Below w.heap.size w w1):=by
  obtain⟨g1,g2,g3,g4⟩:=H0.out
  exact⟨g1.below hb g1.lt,hown,g2.below (hb.mono hB),g3.below (hb.mono hB),hb⟩
 clear hown hb CG k0 k1
 obtain⟨k0,k1⟩:=H1.out.1.c2
 go_wp2_with fail
 refine wp_loop_rounds 3 ?_
 rw[rounds_succ]
 go_wp2_with (at_builtin;refine stop_ ?_)
 refine on_ ?_
 refine wpList_append_b rfl (.tmp 31) (.tmp 32) _ rfl 5 infoB underlying23 w.heap.size (G (some ⟨g,0,none⟩) 0 c) 0 [] rfl H1.out.2.1 B A1 n1 c1 l1 rfl H1.out.2.2.1 (n1) (by omega) (by omega) (by have:=H1.out.2.2.2.2.size;exact this) ?_
 intro Aa1 ca1 wa1 hown hbw hg _
 have H2:Hid (Blk wa1 g0 23 #[G A1 n1 c1,G A2 n2 c2]∧wa1.ownsRow w.heap.size 5 1 (G Aa1 (n1) ca1) (n1) (bv ([]++l1))∧Reads wa1 B 1 A1 n1 (bv l1)∧Reads wa1 B 1 A2 n2 (bv l2)∧Below w.heap.size w wa1):=by
  obtain⟨g1,g2,g3,g4,g5⟩:=H1.out
  have hlt:=H0.out.1.lt
  exact⟨g1.below hbw hlt,hown,g3.below (hbw.mono hB),g4.below (hbw.mono hB),g5.trans hbw⟩
 clear hown hbw hg H1 k0 k1
 obtain⟨k0,k1⟩:=H2.out.1.c2
 go_wp2_with fail
 rw[rounds_succ]
 go_wp2_with (at_builtin;refine stop_ ?_)
 refine on_ ?_
 refine wpList_append_b rfl (.tmp 31) (.tmp 32) _ rfl 5 infoB underlying23 w.heap.size (G Aa1 n1 ca1) n1 ([]++l1) rfl H2.out.2.1 B A2 n2 c2 l2 rfl H2.out.2.2.2.1 (n1 + n2) (by omega) (by omega) (by have:=H2.out.2.2.2.2.size;exact this) ?_
 intro Aa2 ca2 wa2 hown hbw hg _
 have H3:Hid (Blk wa2 g0 23 #[G A1 n1 c1,G A2 n2 c2]∧wa2.ownsRow w.heap.size 5 1 (G Aa2 (n1 + n2) ca2) (n1 + n2) (bv (([]++l1)++l2))∧Reads wa2 B 1 A1 n1 (bv l1)∧Reads wa2 B 1 A2 n2 (bv l2)∧Below w.heap.size w wa2):=by
  obtain⟨g1,g2,g3,g4,g5⟩:=H2.out
  have hlt:=H0.out.1.lt
  exact⟨g1.below hbw hlt,hown,g3.below (hbw.mono hB),g4.below (hbw.mono hB),g5.trans hbw⟩
 clear hown hbw hg H2 k0 k1
 go_wp2_with fail
 rw[rounds_succ]
 go_wp2_with fail
 go_ret
 exact⟨Aa2,ca2,rfl,by have:=H3.out.2.1;rwa [List.nil_append] at this,H3.out.2.2.2.2⟩
def udpL (sport dport:Int):List Nat:=[]++be (u64n sport) 2++be (u64n dport) 2++be (u64n 8) 2++be (u64n 0) 2
theorem udpL_len (a b:Int):(udpL a b).length=8:=by simp[udpL,be_length]
theorem udp_mk (src dst:Nat)(sport dport:Int):buildB ⟨0,0,28,0,0,0,64,17,0,src,dst⟩++udpL sport dport=mkB ⟨src,dst,17,sport,dport⟩ 64:=by
 have e:madeP ⟨src,dst,17,sport,dport⟩ 0 []=udpL sport dport:=by
  unfold madeP udpL
  simp[udpHead,two8,be_two,u64n]
 unfold mkB madeB
 rw[e]
 have e2:madeHd ⟨src,dst,17,sport,dport⟩ ((64:Nat):Int) (udpL sport dport).length=⟨0,0,28,0,0,0,64,17,0,src,dst⟩:=by rw[udpL_len];rfl
 rw[e2]
theorem cpacket_ok (src dst:Nat)(sport dport:Int)(hs:src < 4294967296)(hd:dst < 4294967296)(w:World):
  Calls Pg 76 #[aG #[X Z src,X Z dst,X Y 17,X Y sport,X Y dport]] w fun e w'=>∃A N c,e=rT (G A N c)∧N=(mkB ⟨src,dst,17,sport,dport⟩ 64).length∧w'.ownsRow w.heap.size 5 1 (G A N c) N (bv (mkB ⟨src,dst,17,sport,dport⟩ 64))∧Below w.heap.size w w':=by
 have k1:=(Blk.new w 39 #[X Z src,X Z dst,X Y 17,X Y sport,X Y dport]).alloc (cL #[G none 0 0] 251)
 have hb:Below w.heap.size w ((w.alloc (cL #[X Z src,X Z dst,X Y 17,X Y sport,X Y dport] 39)).alloc (cL #[G none 0 0] 251)):=((bR w.heap.size w).alloc (nR _) _).alloc (by simp) _
 have kw:=Blk.new (w.alloc (cL #[X Z src,X Z dst,X Y 17,X Y sport,X Y dport] 39)) 251 #[G none 0 0]
 rw[show (w.alloc (cL #[X Z src,X Z dst,X Y 17,X Y sport,X Y dport] 39)).heap.size=w.heap.size + 1 by simp] at kw
 have hw:WBuf ((w.alloc (cL #[X Z src,X Z dst,X Y 17,X Y sport,X Y dport] 39)).alloc (cL #[G none 0 0] 251)) (w.heap.size + 1) (w.heap.size + 1) []:=⟨nR _,none,0,kw,World.ownsRow_nil _ _ _ _⟩
 obtain⟨x0,x1,x2,x3,x4⟩:=k1.c5
 have hsz:((w.alloc (cL #[X Z src,X Z dst,X Y 17,X Y sport,X Y dport] 39)).alloc (cL #[G none 0 0] 251)).heap.size=w.heap.size + 2:=by simp
 have H0:(fun Vv:World=>Hid (WBuf Vv (w.heap.size + 1) (w.heap.size + 1) []∧Blk Vv w.heap.size 39 #[X Z src,X Z dst,X Y 17,X Y sport,X Y dport]∧Below w.heap.size w Vv∧w.heap.size + 1≤Vv.heap.size)) ((w.alloc (cL #[X Z src,X Z dst,X Y 17,X Y sport,X Y dport] 39)).alloc (cL #[G none 0 0] 251)):=⟨hw,k1,hb,by omega⟩
 clear k1 hb kw hw hsz
 go_enter func76,ntmps76
 go_wp2_with fail
 generalize ((w.alloc (cL #[X Z src,X Z dst,X Y 17,X Y sport,X Y dport] 39)).alloc (cL #[G none 0 0] 251))=w0 at *
 refine(u16w_any (w.heap.size + 1) (w.heap.size + 1) sport ([]:List Nat) w0 (by simp[be_length]) H0.out.1 H0.out.2.2.2).mono ?_
 rintro e w1 ⟨rfl,hwb,hbw⟩
 have H1:Hid (WBuf w1 (w.heap.size + 1) (w.heap.size + 1) (([]:List Nat)++be (u64n sport) 2)∧Blk w1 w.heap.size 39 #[X Z src,X Z dst,X Y 17,X Y sport,X Y dport]∧Below w.heap.size w w1∧w.heap.size + 1≤w1.heap.size):=⟨hwb,H0.out.2.1.below hbw (by omega),H0.out.2.2.1.trans (hbw.mono (by omega)),nT H0.out.2.2.2 hbw.size⟩
 clear hwb hbw H0 x0 x1 x2 x3 x4
 obtain⟨-,-,y2,y3,y4⟩:=H1.out.2.1.c5
 go_wp2_with fail
 clear y2 y3 y4
 refine(u16w_any (w.heap.size + 1) (w.heap.size + 1) dport ([]++be (u64n sport) 2) w1 (by simp[be_length]) H1.out.1 H1.out.2.2.2).mono ?_
 rintro e w2 ⟨rfl,hwb,hbw⟩
 have H2:Hid (WBuf w2 (w.heap.size + 1) (w.heap.size + 1) (([]++be (u64n sport) 2)++be (u64n dport) 2)∧Blk w2 w.heap.size 39 #[X Z src,X Z dst,X Y 17,X Y sport,X Y dport]∧Below w.heap.size w w2∧w.heap.size + 1≤w2.heap.size):=⟨hwb,H1.out.2.1.below hbw (by omega),H1.out.2.2.1.trans (hbw.mono (by omega)),nT H1.out.2.2.2 hbw.size⟩
 clear hwb hbw H1
 obtain⟨-,-,y2,y3,y4⟩:=H2.out.2.1.c5
 go_wp2_with fail
 clear y2 y3 y4
 refine(u16w_any (w.heap.size + 1) (w.heap.size + 1) 8 ([]++be (u64n sport) 2++be (u64n dport) 2) w2 (by simp[be_length]) H2.out.1 H2.out.2.2.2).mono ?_
 rintro e w3 ⟨rfl,hwb,hbw⟩
 have H3:Hid (WBuf w3 (w.heap.size + 1) (w.heap.size + 1) (([]++be (u64n sport) 2++be (u64n dport) 2)++be (u64n 8) 2)∧Blk w3 w.heap.size 39 #[X Z src,X Z dst,X Y 17,X Y sport,X Y dport]∧Below w.heap.size w w3∧w.heap.size + 1≤w3.heap.size):=⟨hwb,H2.out.2.1.below hbw (by omega),H2.out.2.2.1.trans (hbw.mono (by omega)),nT H2.out.2.2.2 hbw.size⟩
 clear hwb hbw H2
 obtain⟨-,-,y2,y3,y4⟩:=H3.out.2.1.c5
 go_wp2_with fail
 clear y2 y3 y4
 refine(u16w_any (w.heap.size + 1) (w.heap.size + 1) 0 ([]++be (u64n sport) 2++be (u64n dport) 2++be (u64n 8) 2) w3 (by simp[be_length]) H3.out.1 H3.out.2.2.2).mono ?_
 rintro e w4 ⟨rfl,hwb,hbw⟩
 have H4:Hid (WBuf w4 (w.heap.size + 1) (w.heap.size + 1) (([]++be (u64n sport) 2++be (u64n dport) 2++be (u64n 8) 2)++be (u64n 0) 2)∧Blk w4 w.heap.size 39 #[X Z src,X Z dst,X Y 17,X Y sport,X Y dport]∧Below w.heap.size w w4∧w.heap.size + 1≤w4.heap.size):=⟨hwb,H3.out.2.1.below hbw (by omega),H3.out.2.2.1.trans (hbw.mono (by omega)),nT H3.out.2.2.2 hbw.size⟩
 clear hwb hbw H3
 have H5:Hid (WBuf w4 (w.heap.size + 1) (w.heap.size + 1) (udpL sport dport)∧Blk w4 w.heap.size 39 #[X Z src,X Z dst,X Y 17,X Y sport,X Y dport]∧Below w.heap.size w w4∧w.heap.size + 1≤w4.heap.size):=H4.out
 clear H4
 have CL:Hid (Calls Pg 161 #[PT (some ⟨w.heap.size + 1,0,none⟩)] w4.drew fun e w'=>e=rT (X Y 8)∧w4.drew=w'):=by
  have h1:=wlen_any (w.heap.size + 1) (w.heap.size + 1) (udpL sport dport) w4.drew (H5.out.1.below (bR _ _).drew)
  rw[udpL_len] at h1
  exact h1
 have CB:=jH (build_any ⟨0,0,28,0,0,0,64,17,0,src,dst⟩ w4.drew ⟨by simp,by simp,by simp,by simp,by simp,by simp,by simp,by simp,by simp,hs,hd⟩)
 unfold Hd.vals at CB
 dsimp only at CB
 have e28:IntKind.i64.wrap 28=28:=by decide
 have d0:w4.drew.cell? ⟨w.heap.size,0,none⟩=some (X Z src)∧w4.drew.cell? ⟨w.heap.size,1,none⟩=some (X Z dst)∧w4.drew.cell? ⟨w.heap.size,2,none⟩=some (X Y 17):=⟨H5.out.2.1.drew.cell 0,H5.out.2.1.drew.cell 1,H5.out.2.1.drew.cell 2⟩
 go_wp2_with fail
 go_region_held3 (fun wS=>wS.cell? ⟨w.heap.size,0,none⟩=some (X Z src)∧wS.cell? ⟨w.heap.size,1,none⟩=some (X Z dst)∧wS.cell? ⟨w.heap.size,2,none⟩=some (X Y 17)) (first|with_reducible exact d0|with_reducible exact d1|fail)
  (first
   |(go_at_call 161;(with_reducible refine CL.out.mono ?_);rintro e w5 ⟨rfl,rfl⟩)
   |(go_at_call 160;(with_reducible refine CB.out.mono ?_);rintro e w6 ⟨A6,c6,rfl,hown6,hb6⟩;have k6:=H5.out.2.1.drew.below hb6 H5.out.2.1.lt;have d1:w6.cell? ⟨w.heap.size,0,none⟩=some (X Z src)∧w6.cell? ⟨w.heap.size,1,none⟩=some (X Z dst)∧w6.cell? ⟨w.heap.size,2,none⟩=some (X Y 17):=⟨k6.cell 0,k6.cell 1,k6.cell 2⟩))
 have H6:Hid (WBuf w6 (w.heap.size + 1) (w.heap.size + 1) (udpL sport dport)∧Below w.heap.size w w6∧w6.ownsRow w.heap.size 5 1 (G A6 20 c6) 20 (bv (buildB ⟨0,0,28,0,0,0,64,17,0,src,dst⟩))):=by
  obtain⟨g1,g2,g3,g4⟩:=H5.out
  have hq:w.heap.size≤w4.drew.heap.size:=by show w.heap.size≤w4.heap.size;omega
  exact⟨(g1.below (bR _ _).drew).below hb6,g3.drew.trans (hb6.mono hq),own_base hown6 hq⟩
 clear hown6 hb6 k6 d0 d1 CL CB H5 e28
 go_wp2_with fail
 refine(bytes_any (w.heap.size + 1) (w.heap.size + 1) (udpL sport dport) w6 H6.out.1 (by rw[udpL_len];omega)).mono ?_
 rintro e w7 ⟨A7,c7,rfl,hown7,hb7⟩
 rw[udpL_len] at *
 have hbr:Below w7.heap.size w7 (w7.alloc (cL #[G A6 20 c6,G A7 8 c7] 23)):=(bR _ _).alloc (nR _) _
 have hz7:=H6.out.2.1.size
 have H7:(fun Vv:World=>Hid (Below w.heap.size w Vv∧Blk Vv w7.heap.size 23 #[G A6 20 c6,G A7 8 c7]∧Reads Vv w7.heap.size 1 A6 20 (bv (buildB ⟨0,0,28,0,0,0,64,17,0,src,dst⟩))∧Reads Vv w7.heap.size 1 A7 8 (bv (udpL sport dport)))) (w7.alloc (cL #[G A6 20 c6,G A7 8 c7] 23)):=by
  have hl:=H6.out.2.1.trans (hb7.mono hz7)
  exact⟨hl.alloc hl.size _,Blk.new _ _ _,(Reads.of_own (own_below H6.out.2.2 hb7)).alloc (nR _) _,(Reads.of_own hown7).alloc (nR _) _⟩
 clear hown7 hb7 hbr hz7 H6
 go_wp2_with fail
 refine(concat2_ok w7.heap.size A6 A7 20 8 c6 c7 w7.heap.size _ _ _ H7.out.2.1 H7.out.2.2.1 H7.out.2.2.2 (by simp) (by omega) (by omega) (by omega)).mono ?_
 rintro e w8 ⟨A8,c8,rfl,hown8,hb8⟩
 have hlen:(mkB ⟨src,dst,17,sport,dport⟩ 64).length=28:=by rw[←udp_mk,List.length_append,buildB_length,udpL_len]
 have H8:Hid ((20 + 8)=(mkB ⟨src,dst,17,sport,dport⟩ 64).length∧w8.ownsRow w.heap.size 5 1 (G A8 (20 + 8) c8) (20 + 8) (bv (mkB ⟨src,dst,17,sport,dport⟩ 64))∧Below w.heap.size w w8):=by
  rw[udp_mk] at hown8
  exact⟨hlen.symm,own_base hown8 H7.out.1.size,H7.out.1.trans (hb8.mono H7.out.1.size)⟩
 clear hown8 hb8 hlen H7
 go_wp2_with fail
 go_ret
 exact⟨A8,28,c8,rfl,H8.out⟩
end
section
open Go.Shelf
def sh_lays156_ren:Go.Shelf.Ren:=⟨fun|156=>66|165=>148|166=>149|169=>150|240=>255|241=>256|276=>379|277=>380|n=>n,fun|31=>82|9=>9|3=>3|4=>4|0=>0|20=>20|72=>241|76=>244|70=>239|37=>23|75=>243|127=>340|164=>441|5=>5|80=>155|n=>n,fun|n=>n⟩
theorem sh_lays156:Go.Proofs.Lays.n156 Pg sh_lays156_ren:={
 mixed:=by kernel_rfl
 f156:=func66.trans (congrArg some (by kernel_rfl))
 f165:=func148.trans (congrArg some (by kernel_rfl))
 f166:=func149.trans (congrArg some (by kernel_rfl))
 f169:=func150.trans (congrArg some (by kernel_rfl))
 f240:=func255.trans (congrArg some (by kernel_rfl))
 f241:=func256.trans (congrArg some (by kernel_rfl))
 f276:=func379.trans (congrArg some (by kernel_rfl))
 f277:=func380.trans (congrArg some (by kernel_rfl))
 t0:=underlying0
 a0:=Tryz.isAgg0
 z0:=Tryz.sizeOf0
 v0:=Tryz.zeroValue0
 t3:=underlying3
 a3:=Tryz.isAgg3
 z3:=Tryz.sizeOf3
 v3:=Tryz.zeroValue3
 t4:=underlying4
 a4:=Tryz.isAgg4
 z4:=Tryz.sizeOf4
 v4:=Tryz.zeroValue4
 t9:=underlying9
 a9:=Tryz.isAgg9
 z9:=Tryz.sizeOf9
 v9:=Tryz.zeroValue9
 t20:=underlying20
 a20:=Tryz.isAgg20
 z20:=Tryz.sizeOf20
 v20:=Tryz.zeroValue20
 t31:=underlying82
 a31:=Tryz.isAgg82
 z31:=Tryz.sizeOf82
 v31:=Tryz.zeroValue82
 t37:=underlying23
 a37:=Tryz.isAgg23
 z37:=Tryz.sizeOf23
 v37:=Tryz.zeroValue23
 t70:=underlying239
 a70:=Tryz.isAgg239
 z70:=Tryz.sizeOf239
 v70:=Tryz.zeroValue239
 t72:=underlying241
 a72:=Tryz.isAgg241
 z72:=Tryz.sizeOf241
 v72:=Tryz.zeroValue241
 t75:=underlying243
 a75:=Tryz.isAgg243
 z75:=Tryz.sizeOf243
 v75:=Tryz.zeroValue243
 t76:=underlying244
 a76:=Tryz.isAgg244
 z76:=Tryz.sizeOf244
 v76:=Tryz.zeroValue244
 t127:=underlying340
 a127:=Tryz.isAgg340
 z127:=Tryz.sizeOf340
 v127:=Tryz.zeroValue340
 t164:=underlying441
 a164:=Tryz.isAgg441
 z164:=Tryz.sizeOf441
 v164:=Tryz.zeroValue441}
theorem sh_Builder_Extra_156:Builder.Extra Pg sh_lays156_ren:={
 sizeBuilder:=by kernel_rfl
 liesBuilder:=by kernel_rfl
 t5:=underlying5
 a5:=Tryz.isAgg5
 z5:=Tryz.sizeOf5
 v5:=Tryz.zeroValue5
 infoByte:=by kernel_rfl
 cellsByte:=by kernel_rfl
 sizeByte:=by kernel_rfl
 neB5:=by decide}
open Go.RowKit in
theorem sh_strings_Join (bk o c:Nat)(xs:List ByteArray)(sep:ByteArray)(w:World)(hcells:∀(j:Nat) x,xs[j]? =some x→w.cell? ⟨bk,o + j,none⟩=some (.string x))(hbk:bk < w.heap.size)(hN:xs.length≤140737488355328)(hcap:xs.length≤c)(hlen:(Lib.join (xs.map (·.data.toList)) sep.data.toList).length≤140737488355328):
  Calls Pg 66 #[G (some ⟨bk,o,none⟩) xs.length c,.string sep] w fun e w'=>e=rT (.string ⟨(Lib.join (xs.map (·.data.toList)) sep.data.toList).toArray⟩)∧Below w.heap.size w w':=Any.strings_Join sh_lays156 sh_Builder_Extra_156 bk o c xs sep w hcells hbk hN hcap hlen
def sh_lays172_ren:Go.Shelf.Ren:=⟨fun|172=>165|244=>269|245=>270|247=>389|279=>390|280=>391|281=>392|282=>393|287=>437|316=>438|171=>61|205=>439|321=>448|322=>449|243=>142|246=>151|283=>257|284=>258|285=>259|286=>260|129=>302|317=>381|318=>382|319=>383|320=>384|337=>434|338=>435|n=>n,fun|9=>9|3=>3|75=>243|76=>244|4=>4|5=>5|167=>447|37=>23|0=>0|85=>448|2=>2|168=>450|53=>53|175=>489|46=>224|210=>492|127=>340|145=>507|143=>505|21=>21|171=>341|173=>344|212=>444|51=>32|20=>20|213=>445|232=>502|233=>503|80=>155|n=>n,fun|15=>4|16=>5|17=>1|18=>6|19=>7|n=>n⟩
theorem sh_lays172:Go.Proofs.Lays.n172 Pg sh_lays172_ren:={
 mixed:=by kernel_rfl
 f129:=func302.trans (congrArg some (by kernel_rfl))
 f171:=func61.trans (congrArg some (by kernel_rfl))
 f172:=func165.trans (congrArg some (by kernel_rfl))
 f205:=func439.trans (congrArg some (by kernel_rfl))
 f243:=func142.trans (congrArg some (by kernel_rfl))
 f244:=func269.trans (congrArg some (by kernel_rfl))
 f245:=func270.trans (congrArg some (by kernel_rfl))
 f246:=func151.trans (congrArg some (by kernel_rfl))
 f247:=func389.trans (congrArg some (by kernel_rfl))
 f279:=func390.trans (congrArg some (by kernel_rfl))
 f280:=func391.trans (congrArg some (by kernel_rfl))
 f281:=func392.trans (congrArg some (by kernel_rfl))
 f282:=func393.trans (congrArg some (by kernel_rfl))
 f283:=func257.trans (congrArg some (by kernel_rfl))
 f284:=func258.trans (congrArg some (by kernel_rfl))
 f285:=func259.trans (congrArg some (by kernel_rfl))
 f286:=func260.trans (congrArg some (by kernel_rfl))
 f287:=func437.trans (congrArg some (by kernel_rfl))
 f316:=func438.trans (congrArg some (by kernel_rfl))
 f317:=func381.trans (congrArg some (by kernel_rfl))
 f318:=func382.trans (congrArg some (by kernel_rfl))
 f319:=func383.trans (congrArg some (by kernel_rfl))
 f320:=func384.trans (congrArg some (by kernel_rfl))
 f321:=func448.trans (congrArg some (by kernel_rfl))
 f322:=func449.trans (congrArg some (by kernel_rfl))
 f337:=func434.trans (congrArg some (by kernel_rfl))
 f338:=func435.trans (congrArg some (by kernel_rfl))
 t0:=underlying0
 a0:=Tryz.isAgg0
 z0:=Tryz.sizeOf0
 v0:=Tryz.zeroValue0
 t2:=underlying2
 a2:=Tryz.isAgg2
 z2:=Tryz.sizeOf2
 v2:=Tryz.zeroValue2
 t3:=underlying3
 a3:=Tryz.isAgg3
 z3:=Tryz.sizeOf3
 v3:=Tryz.zeroValue3
 t4:=underlying4
 a4:=Tryz.isAgg4
 z4:=Tryz.sizeOf4
 v4:=Tryz.zeroValue4
 t5:=underlying5
 a5:=Tryz.isAgg5
 z5:=Tryz.sizeOf5
 v5:=Tryz.zeroValue5
 t9:=underlying9
 a9:=Tryz.isAgg9
 z9:=Tryz.sizeOf9
 v9:=Tryz.zeroValue9
 t20:=underlying20
 a20:=Tryz.isAgg20
 z20:=Tryz.sizeOf20
 v20:=Tryz.zeroValue20
 t21:=underlying21
 a21:=Tryz.isAgg21
 z21:=Tryz.sizeOf21
 v21:=Tryz.zeroValue21
 t37:=underlying23
 a37:=Tryz.isAgg23
 z37:=Tryz.sizeOf23
 v37:=Tryz.zeroValue23
 t46:=underlying224
 a46:=Tryz.isAgg224
 z46:=Tryz.sizeOf224
 v46:=Tryz.zeroValue224
 t51:=underlying32
 a51:=Tryz.isAgg32
 z51:=Tryz.sizeOf32
 v51:=Tryz.zeroValue32
 t53:=underlying53
 a53:=Tryz.isAgg53
 z53:=Tryz.sizeOf53
 v53:=Tryz.zeroValue53
 t75:=underlying243
 a75:=Tryz.isAgg243
 z75:=Tryz.sizeOf243
 v75:=Tryz.zeroValue243
 t76:=underlying244
 a76:=Tryz.isAgg244
 z76:=Tryz.sizeOf244
 v76:=Tryz.zeroValue244
 t85:=underlying448
 a85:=Tryz.isAgg448
 z85:=Tryz.sizeOf448
 v85:=Tryz.zeroValue448
 t127:=underlying340
 a127:=Tryz.isAgg340
 z127:=Tryz.sizeOf340
 v127:=Tryz.zeroValue340
 t143:=underlying505
 a143:=Tryz.isAgg505
 z143:=Tryz.sizeOf505
 v143:=Tryz.zeroValue505
 t145:=underlying507
 a145:=Tryz.isAgg507
 z145:=Tryz.sizeOf507
 v145:=Tryz.zeroValue507
 t167:=underlying447
 a167:=Tryz.isAgg447
 z167:=Tryz.sizeOf447
 v167:=Tryz.zeroValue447
 t168:=underlying450
 a168:=Tryz.isAgg450
 z168:=Tryz.sizeOf450
 v168:=Tryz.zeroValue450
 t171:=underlying341
 a171:=Tryz.isAgg341
 z171:=Tryz.sizeOf341
 v171:=Tryz.zeroValue341
 t173:=underlying344
 a173:=Tryz.isAgg344
 z173:=Tryz.sizeOf344
 v173:=Tryz.zeroValue344
 t175:=underlying489
 a175:=Tryz.isAgg489
 z175:=Tryz.sizeOf489
 v175:=Tryz.zeroValue489
 t210:=underlying492
 a210:=Tryz.isAgg492
 z210:=Tryz.sizeOf492
 v210:=Tryz.zeroValue492
 t212:=underlying444
 a212:=Tryz.isAgg444
 z212:=Tryz.sizeOf444
 v212:=Tryz.zeroValue444
 t213:=underlying445
 a213:=Tryz.isAgg445
 z213:=Tryz.sizeOf445
 t232:=underlying502
 a232:=Tryz.isAgg502
 z232:=Tryz.sizeOf502
 v232:=Tryz.zeroValue502
 t233:=underlying503
 a233:=Tryz.isAgg503
 z233:=Tryz.sizeOf503
 v233:=Tryz.zeroValue503
 g15:=by kernel_rfl
 g16:=by kernel_rfl
 g17:=by kernel_rfl
 g18:=by kernel_rfl
 g19:=by kernel_rfl}
open Go.RowKit in
theorem sh_strconv_Atoi (s:ByteArray)(n:Int)(hl:s.size≤18)(h:Lib.atoi s.data.toList=some n)(w:World):
  Calls Pg 165 #[.string s] w fun e w'=>e=rT (tU #[X Y n,.nilIface])∧∃t,w'=Lib.bytesWorld w 5 t:=Any.strconv_Atoi sh_lays172 s n hl h w
def sh_lays171_ren:Go.Shelf.Ren:=⟨fun|171=>61|243=>142|246=>151|283=>257|284=>258|285=>259|286=>260|129=>302|317=>381|318=>382|319=>383|320=>384|337=>434|338=>435|n=>n,fun|3=>3|9=>9|2=>2|4=>4|171=>341|0=>0|53=>53|37=>23|5=>5|173=>344|212=>444|51=>32|20=>20|213=>445|46=>224|232=>502|233=>503|n=>n,fun|17=>1|18=>6|19=>7|n=>n⟩
theorem sh_lays171:Go.Proofs.Lays.n171 Pg sh_lays171_ren:={
 mixed:=by kernel_rfl
 f129:=func302.trans (congrArg some (by kernel_rfl))
 f171:=func61.trans (congrArg some (by kernel_rfl))
 f243:=func142.trans (congrArg some (by kernel_rfl))
 f246:=func151.trans (congrArg some (by kernel_rfl))
 f283:=func257.trans (congrArg some (by kernel_rfl))
 f284:=func258.trans (congrArg some (by kernel_rfl))
 f285:=func259.trans (congrArg some (by kernel_rfl))
 f286:=func260.trans (congrArg some (by kernel_rfl))
 f317:=func381.trans (congrArg some (by kernel_rfl))
 f318:=func382.trans (congrArg some (by kernel_rfl))
 f319:=func383.trans (congrArg some (by kernel_rfl))
 f320:=func384.trans (congrArg some (by kernel_rfl))
 f337:=func434.trans (congrArg some (by kernel_rfl))
 f338:=func435.trans (congrArg some (by kernel_rfl))
 t0:=underlying0
 a0:=Tryz.isAgg0
 z0:=Tryz.sizeOf0
 v0:=Tryz.zeroValue0
 t2:=underlying2
 a2:=Tryz.isAgg2
 z2:=Tryz.sizeOf2
 v2:=Tryz.zeroValue2
 t3:=underlying3
 a3:=Tryz.isAgg3
 z3:=Tryz.sizeOf3
 v3:=Tryz.zeroValue3
 t4:=underlying4
 a4:=Tryz.isAgg4
 z4:=Tryz.sizeOf4
 v4:=Tryz.zeroValue4
 t5:=underlying5
 a5:=Tryz.isAgg5
 z5:=Tryz.sizeOf5
 v5:=Tryz.zeroValue5
 t9:=underlying9
 a9:=Tryz.isAgg9
 z9:=Tryz.sizeOf9
 v9:=Tryz.zeroValue9
 t20:=underlying20
 a20:=Tryz.isAgg20
 z20:=Tryz.sizeOf20
 v20:=Tryz.zeroValue20
 t37:=underlying23
 a37:=Tryz.isAgg23
 z37:=Tryz.sizeOf23
 v37:=Tryz.zeroValue23
 t46:=underlying224
 a46:=Tryz.isAgg224
 z46:=Tryz.sizeOf224
 v46:=Tryz.zeroValue224
 t51:=underlying32
 a51:=Tryz.isAgg32
 z51:=Tryz.sizeOf32
 v51:=Tryz.zeroValue32
 t53:=underlying53
 a53:=Tryz.isAgg53
 z53:=Tryz.sizeOf53
 v53:=Tryz.zeroValue53
 t171:=underlying341
 a171:=Tryz.isAgg341
 z171:=Tryz.sizeOf341
 v171:=Tryz.zeroValue341
 t173:=underlying344
 a173:=Tryz.isAgg344
 z173:=Tryz.sizeOf344
 v173:=Tryz.zeroValue344
 t212:=underlying444
 a212:=Tryz.isAgg444
 z212:=Tryz.sizeOf444
 v212:=Tryz.zeroValue444
 t213:=underlying445
 a213:=Tryz.isAgg445
 z213:=Tryz.sizeOf445
 t232:=underlying502
 a232:=Tryz.isAgg502
 z232:=Tryz.sizeOf502
 v232:=Tryz.zeroValue502
 t233:=underlying503
 a233:=Tryz.isAgg503
 z233:=Tryz.sizeOf503
 v233:=Tryz.zeroValue503
 g17:=by kernel_rfl
 g18:=by kernel_rfl
 g19:=by kernel_rfl}
open Go.RowKit Go.Sort Go.Lib in
theorem sh_strconv_Itoa_small (i:Nat)(hi:i < 100)(w:World):
  Calls Pg 61 #[X Y i] w fun e w'=>e=rT (.string ⟨(Lib.decDigits i).toArray⟩)∧w'=w:=Any.strconv_Itoa_small sh_lays171 i hi w
def sh_lays173_ren:Go.Shelf.Ren:=⟨fun|173=>69|246=>151|283=>257|284=>258|285=>259|286=>260|129=>302|317=>381|318=>382|319=>383|320=>384|337=>434|338=>435|n=>n,fun|2=>2|3=>3|9=>9|4=>4|171=>341|0=>0|53=>53|37=>23|5=>5|173=>344|212=>444|51=>32|20=>20|213=>445|46=>224|232=>502|233=>503|n=>n,fun|17=>1|18=>6|19=>7|n=>n⟩
theorem sh_lays173:Go.Proofs.Lays.n173 Pg sh_lays173_ren:={
 mixed:=by kernel_rfl
 f129:=func302.trans (congrArg some (by kernel_rfl))
 f173:=func69.trans (congrArg some (by kernel_rfl))
 f246:=func151.trans (congrArg some (by kernel_rfl))
 f283:=func257.trans (congrArg some (by kernel_rfl))
 f284:=func258.trans (congrArg some (by kernel_rfl))
 f285:=func259.trans (congrArg some (by kernel_rfl))
 f286:=func260.trans (congrArg some (by kernel_rfl))
 f317:=func381.trans (congrArg some (by kernel_rfl))
 f318:=func382.trans (congrArg some (by kernel_rfl))
 f319:=func383.trans (congrArg some (by kernel_rfl))
 f320:=func384.trans (congrArg some (by kernel_rfl))
 f337:=func434.trans (congrArg some (by kernel_rfl))
 f338:=func435.trans (congrArg some (by kernel_rfl))
 t0:=underlying0
 a0:=Tryz.isAgg0
 z0:=Tryz.sizeOf0
 v0:=Tryz.zeroValue0
 t2:=underlying2
 a2:=Tryz.isAgg2
 z2:=Tryz.sizeOf2
 v2:=Tryz.zeroValue2
 t3:=underlying3
 a3:=Tryz.isAgg3
 z3:=Tryz.sizeOf3
 v3:=Tryz.zeroValue3
 t4:=underlying4
 a4:=Tryz.isAgg4
 z4:=Tryz.sizeOf4
 v4:=Tryz.zeroValue4
 t5:=underlying5
 a5:=Tryz.isAgg5
 z5:=Tryz.sizeOf5
 v5:=Tryz.zeroValue5
 t9:=underlying9
 a9:=Tryz.isAgg9
 z9:=Tryz.sizeOf9
 v9:=Tryz.zeroValue9
 t20:=underlying20
 a20:=Tryz.isAgg20
 z20:=Tryz.sizeOf20
 v20:=Tryz.zeroValue20
 t37:=underlying23
 a37:=Tryz.isAgg23
 z37:=Tryz.sizeOf23
 v37:=Tryz.zeroValue23
 t46:=underlying224
 a46:=Tryz.isAgg224
 z46:=Tryz.sizeOf224
 v46:=Tryz.zeroValue224
 t51:=underlying32
 a51:=Tryz.isAgg32
 z51:=Tryz.sizeOf32
 v51:=Tryz.zeroValue32
 t53:=underlying53
 a53:=Tryz.isAgg53
 z53:=Tryz.sizeOf53
 v53:=Tryz.zeroValue53
 t171:=underlying341
 a171:=Tryz.isAgg341
 z171:=Tryz.sizeOf341
 v171:=Tryz.zeroValue341
 t173:=underlying344
 a173:=Tryz.isAgg344
 z173:=Tryz.sizeOf344
 v173:=Tryz.zeroValue344
 t212:=underlying444
 a212:=Tryz.isAgg444
 z212:=Tryz.sizeOf444
 v212:=Tryz.zeroValue444
 t213:=underlying445
 a213:=Tryz.isAgg445
 z213:=Tryz.sizeOf445
 t232:=underlying502
 a232:=Tryz.isAgg502
 z232:=Tryz.sizeOf502
 v232:=Tryz.zeroValue502
 t233:=underlying503
 a233:=Tryz.isAgg503
 z233:=Tryz.sizeOf503
 v233:=Tryz.zeroValue503
 g17:=by kernel_rfl
 g18:=by kernel_rfl
 g19:=by kernel_rfl}
open Go.RowKit Go.Sort Go.Lib in
theorem sh_strconv_FormatInt_10_small (i:Nat)(hi:i < 100)(w:World):
  Calls Pg 69 #[X Y i,X Y 10] w fun e w'=>e=rT (.string ⟨(Lib.decDigits i).toArray⟩)∧w'=w:=Any.strconv_FormatInt_10_small sh_lays173 i hi w
def sh_lays145_ren:Go.Shelf.Ren:=⟨fun|145=>267|220=>387|219=>253|217=>375|225=>376|224=>377|267=>378|266=>432|314=>433|n=>n,fun|9=>9|4=>4|59=>351|3=>3|5=>5|46=>224|146=>487|51=>32|n=>n,fun|1=>0|n=>n⟩
theorem sh_lays145:Go.Proofs.Lays.n145 Pg sh_lays145_ren:={
 mixed:=by kernel_rfl
 f145:=func267.trans (congrArg some (by kernel_rfl))
 f217:=func375.trans (congrArg some (by kernel_rfl))
 f219:=func253.trans (congrArg some (by kernel_rfl))
 f220:=func387.trans (congrArg some (by kernel_rfl))
 f224:=func377.trans (congrArg some (by kernel_rfl))
 f225:=func376.trans (congrArg some (by kernel_rfl))
 f266:=func432.trans (congrArg some (by kernel_rfl))
 f267:=func378.trans (congrArg some (by kernel_rfl))
 f314:=func433.trans (congrArg some (by kernel_rfl))
 t3:=underlying3
 a3:=Tryz.isAgg3
 z3:=Tryz.sizeOf3
 v3:=Tryz.zeroValue3
 t4:=underlying4
 a4:=Tryz.isAgg4
 z4:=Tryz.sizeOf4
 v4:=Tryz.zeroValue4
 t5:=underlying5
 a5:=Tryz.isAgg5
 z5:=Tryz.sizeOf5
 v5:=Tryz.zeroValue5
 t9:=underlying9
 a9:=Tryz.isAgg9
 z9:=Tryz.sizeOf9
 v9:=Tryz.zeroValue9
 t46:=underlying224
 a46:=Tryz.isAgg224
 z46:=Tryz.sizeOf224
 v46:=Tryz.zeroValue224
 t51:=underlying32
 a51:=Tryz.isAgg32
 z51:=Tryz.sizeOf32
 v51:=Tryz.zeroValue32
 t59:=underlying351
 a59:=Tryz.isAgg351
 z59:=Tryz.sizeOf351
 v59:=Tryz.zeroValue351
 t146:=underlying487
 a146:=Tryz.isAgg487
 z146:=Tryz.sizeOf487
 v146:=Tryz.zeroValue487
 g1:=by kernel_rfl}
open Go.RowKit Go.Lib in
theorem sh_strings_Cut (s sep:ByteArray)(m:Int)(w:World)(hs:s.size < 4294967281)(hm:w.cell? ⟨0,0,none⟩=some (X Y m)):
  Calls Pg 267 #[.string s,.string sep] w fun e w'=>e=rT (tU #[.string ⟨(Lib.cut s.data.toList sep.data.toList).1.toArray⟩,.string ⟨(Lib.cut s.data.toList sep.data.toList).2.1.toArray⟩,bL (Lib.cut s.data.toList sep.data.toList).2.2])∧∃n,w'=w.drewN n:=Any.strings_Cut sh_lays145 s sep m w hs hm
def sh_lays146_ren:Go.Shelf.Ren:=⟨fun|146=>26|221=>62|268=>143|138=>144|143=>145|195=>250|197=>251|218=>252|219=>253|260=>374|217=>375|225=>376|224=>377|267=>378|266=>432|314=>433|n=>n,fun|9=>9|31=>82|3=>3|4=>4|0=>0|105=>337|21=>21|5=>5|46=>224|119=>483|139=>486|138=>485|146=>487|51=>32|n=>n,fun|1=>0|3=>2|4=>3|n=>n⟩
theorem sh_lays146:Go.Proofs.Lays.n146 Pg sh_lays146_ren:={
 mixed:=by kernel_rfl
 f138:=func144.trans (congrArg some (by kernel_rfl))
 f143:=func145.trans (congrArg some (by kernel_rfl))
 f146:=func26.trans (congrArg some (by kernel_rfl))
 f195:=func250.trans (congrArg some (by kernel_rfl))
 f197:=func251.trans (congrArg some (by kernel_rfl))
 f217:=func375.trans (congrArg some (by kernel_rfl))
 f218:=func252.trans (congrArg some (by kernel_rfl))
 f219:=func253.trans (congrArg some (by kernel_rfl))
 f221:=func62.trans (congrArg some (by kernel_rfl))
 f224:=func377.trans (congrArg some (by kernel_rfl))
 f225:=func376.trans (congrArg some (by kernel_rfl))
 f260:=func374.trans (congrArg some (by kernel_rfl))
 f266:=func432.trans (congrArg some (by kernel_rfl))
 f267:=func378.trans (congrArg some (by kernel_rfl))
 f268:=func143.trans (congrArg some (by kernel_rfl))
 f314:=func433.trans (congrArg some (by kernel_rfl))
 t0:=underlying0
 a0:=Tryz.isAgg0
 z0:=Tryz.sizeOf0
 v0:=Tryz.zeroValue0
 t3:=underlying3
 a3:=Tryz.isAgg3
 z3:=Tryz.sizeOf3
 v3:=Tryz.zeroValue3
 t4:=underlying4
 a4:=Tryz.isAgg4
 z4:=Tryz.sizeOf4
 v4:=Tryz.zeroValue4
 t5:=underlying5
 a5:=Tryz.isAgg5
 z5:=Tryz.sizeOf5
 v5:=Tryz.zeroValue5
 t9:=underlying9
 a9:=Tryz.isAgg9
 z9:=Tryz.sizeOf9
 v9:=Tryz.zeroValue9
 t21:=underlying21
 a21:=Tryz.isAgg21
 z21:=Tryz.sizeOf21
 v21:=Tryz.zeroValue21
 t31:=underlying82
 a31:=Tryz.isAgg82
 z31:=Tryz.sizeOf82
 v31:=Tryz.zeroValue82
 t46:=underlying224
 a46:=Tryz.isAgg224
 z46:=Tryz.sizeOf224
 v46:=Tryz.zeroValue224
 t51:=underlying32
 a51:=Tryz.isAgg32
 z51:=Tryz.sizeOf32
 v51:=Tryz.zeroValue32
 t105:=underlying337
 a105:=Tryz.isAgg337
 z105:=Tryz.sizeOf337
 v105:=Tryz.zeroValue337
 t119:=underlying483
 a119:=Tryz.isAgg483
 z119:=Tryz.sizeOf483
 t138:=underlying485
 a138:=Tryz.isAgg485
 z138:=Tryz.sizeOf485
 v138:=Tryz.zeroValue485
 t139:=underlying486
 a139:=Tryz.isAgg486
 z139:=Tryz.sizeOf486
 v139:=Tryz.zeroValue486
 t146:=underlying487
 a146:=Tryz.isAgg487
 z146:=Tryz.sizeOf487
 v146:=Tryz.zeroValue487
 g1:=by kernel_rfl
 g3:=by kernel_rfl
 g4:=by kernel_rfl}
open Go.RowKit Go.Lib in
theorem sh_strings_Split (s sep:ByteArray)(m:Int)(w:World)(hs:s.size < 4294967281)(hm:w.cell? ⟨0,0,none⟩=some (X Y m))(h1:1≤sep.size):
  Calls Pg 26 #[.string s,.string sep] w fun e w'=>
   e=rT (G (some ⟨w.heap.size,0,none⟩) (Lib.countB s sep + 1) (Lib.countB s sep + 1))∧w'=w.alloc (cL ((Lib.splitB sep 0 (Lib.countB s sep) s).map Value.string).toArray 9):=Any.strings_Split sh_lays146 (by kernel_rfl) s sep m w hs hm h1
end
section
open Go.RowKit
def decL (i:Nat):List UInt8:=if i < 10 then [UInt8.ofNat (48 + i)] else [UInt8.ofNat (48 + i / 10),UInt8.ofNat (48 + i % 10)]
def decS (i:Nat):ByteArray:=⟨(decL i).toArray⟩
theorem dec_small {i:Nat}(hi:i < 100):Lib.decDigits i=decL i:=by
 unfold Lib.decDigits decL
 by_cases h:i < 10
 ·simp[h]
 ·rw[dif_neg h,if_neg h]
  unfold Lib.decDigits
  rw[dif_pos (by omega)]
  rfl
theorem atoi_dec (i:Nat)(hi:i < 100):Lib.atoi (decL i)=some (i:Int):=by
 have:∀j:Fin 100,Lib.atoi (decL j.val)=some (j.val:Int):=by decide +kernel
 exact this ⟨i,hi⟩
theorem decS_size (i:Nat):(decS i).size≤2:=by
 unfold decS decL
 show (List.toArray _).size≤2
 split<;>simp
theorem bytes_below (w:World)(e:TypeId)(s:ByteArray):Below w.heap.size w (Lib.bytesWorld w e s):=by
 have h1:Below w.heap.size w (w.drew.alloc (cL (Lib.bytesCells w e s) e)):=((bR _ w).drew).alloc (nR _) _
 unfold Lib.bytesWorld World.freeze
 split
 ·exact h1
 ·refine⟨h1.os,h1.tape,h1.output,by simp,fun k hk=>?_⟩
  rw[←h1.block k hk]
  simp only[Array.getElem?_modify]
  rw[if_neg (by show ¬w.heap.size=k;omega)]
theorem itoa_ok (i:Nat)(hi:i < 100)(w:World):Calls Pg 61 #[X Y i] w fun e w'=>e=rT (.string (decS i))∧w=w':=by
 refine(sh_strconv_Itoa_small i hi w).mono ?_
 rintro e w' ⟨rfl,rfl⟩
 rw[dec_small hi]
 exact⟨rfl,rfl⟩
theorem atoi_ok (i:Nat)(hi:i < 100)(w:World):Calls Pg 165 #[.string (decS i)] w fun e w'=>e=rT (tU #[X Y i,.nilIface])∧Below w.heap.size w w':=by
 refine(sh_strconv_Atoi (decS i) (i:Int) (by have:=decS_size i;omega) (atoi_dec i hi) w).mono ?_
 rintro e w' ⟨rfl,t,rfl⟩
 exact⟨rfl,bytes_below w _ t⟩
theorem fmt_ok (i:Nat)(hi:i < 100)(w:World):Calls Pg 69 #[X Y i,X Y 10] w fun e w'=>e=rT (.string (decS i))∧w=w':=by
 refine(sh_strconv_FormatInt_10_small i hi w).mono ?_
 rintro e w' ⟨rfl,rfl⟩
 rw[dec_small hi]
 exact⟨rfl,rfl⟩
def ML (w:World):Prop:=∃m,w.cell? ⟨0,0,none⟩=some (X Y m)
theorem ML.lt {w:World}(h:ML w):0 < w.heap.size:=by
 obtain⟨m,hm⟩:=h
 exact World.block_lt_of_cell? w _ hm
theorem ML.below {w w':World}{B:Nat}(h:ML w)(hb:Below B w w')(hB:0 < B):ML w':=by
 obtain⟨m,hm⟩:=h
 exact⟨m,(hb.cell hB).trans hm⟩
theorem below_drewN {B:Nat}{a w:World}(h:Below B a w):∀n,Below B a (w.drewN n):=fun n=>⟨h.os,h.tape,h.output,h.size,h.block⟩
theorem cut_ok (s sep a b:ByteArray)(w:World)(hs:s.size≤4000)(hm:ML w)(h:Lib.cut s.data.toList sep.data.toList=(a.data.toList,b.data.toList,true)):
  Calls Pg 267 #[.string s,.string sep] w fun e w'=>e=rT (tU #[.string a,.string b,bL true])∧Below w.heap.size w w':=by
 obtain⟨m,hm⟩:=hm
 refine(sh_strings_Cut s sep m w (by omega) hm).mono ?_
 rintro e w' ⟨rfl,n,rfl⟩
 rw[h]
 exact⟨rfl,below_drewN (bR _ _) n⟩
def svs (l:List ByteArray):List Value:=l.map Value.string
theorem split_ok (s sep:ByteArray)(l:List ByteArray)(w:World)(hs:s.size≤4000)(h1:1≤sep.size)(hm:ML w)(hc:Lib.countB s sep + 1=l.length)(h:Lib.splitB sep 0 (Lib.countB s sep) s=l):
  Calls Pg 26 #[.string s,.string sep] w fun e w'=>e=rT (G (some ⟨w.heap.size,0,none⟩) l.length l.length)∧w'=w.alloc (cL (svs l).toArray 9):=by
 obtain⟨m,hm⟩:=hm
 refine(sh_strings_Split s sep m w (by omega) hm h1).mono ?_
 rintro e w' ⟨rfl,rfl⟩
 rw[h,hc]
 exact⟨rfl,rfl⟩
theorem tnum_ok (i most:Nat)(hi:i < 100)(hm:i≤most)(hmm:most≤65535)(w:World):
  Calls Pg 388 #[.string (decS i),X Y most] w fun e w'=>e=rT (tU #[X Y i,bL true])∧Below w.heap.size w w':=by
 have CA:=jH (atoi_ok i hi)
 have CI:=jH (itoa_ok i hi)
 have d1:decide (i≤most)=true:=decide_eq_true hm
 have hq:∀W:World,(binOp .eql 243 .nilIface .nilIface).run Pg W=.ok (bL true) W:=fun W=>by kernel_rfl
 generalize decS i=s at *
 go_enter func388,ntmps388
 go_wp2_with fail
 refine(CA.out w).mono ?_
 rintro e w1 ⟨rfl,hb1⟩
 have HB:=jH hb1
 clear hb1 CA
 go_wp2_with fail
 refine(CI.out w1).mono ?_
 rintro e w2 ⟨rfl,rfl⟩
 clear CI
 go_wp2_with fail
 go_ret2
 exact⟨rfl,HB.out⟩
theorem gnum_ok (i:Nat)(hi:i < 100)(w:World):
  Calls Pg 271 #[.string (decS i)] w fun e w'=>e=rT (tU #[X Y i,bL true])∧Below w.heap.size w w':=by
 have CA:=jH (atoi_ok i hi)
 have CI:=jH (itoa_ok i hi)
 have hq:∀W:World,(binOp .eql 243 .nilIface .nilIface).run Pg W=.ok (bL true) W:=fun W=>by kernel_rfl
 generalize decS i=s at *
 go_enter func271,ntmps271
 go_wp2_with fail
 refine(CA.out w).mono ?_
 rintro e w1 ⟨rfl,hb1⟩
 have HB:=jH hb1
 clear hb1 CA
 go_wp2_with fail
 refine(CI.out w1).mono ?_
 rintro e w2 ⟨rfl,rfl⟩
 clear CI
 go_wp2_with fail
 go_ret2
 exact⟨rfl,HB.out⟩
theorem or_byte (a b:Nat)(ha:a < 16777216)(hb:b < 256):bits .or .u32 ((a:Int) * 256) (b:Int)=((a * 256 + b:Nat):Int):=by
 have:=u32_or_nat (a * 256) b (by omega) (by omega)
 rw[nat_join 8 (a * 256) b (by omega) (by omega)] at this
 exact this
theorem or_byte2 (a b:Nat)(ha:a < 16777216)(hb:b < 256):bits .or .u32 ((a:Int) * 256 % 4294967296) (b:Int)=((a * 256 + b:Nat):Int):=by
 rw[show (a:Int) * 256 % 4294967296=(a:Int) * 256 by omega]
 exact or_byte a b ha hb
theorem or_zero (b:Nat)(hb:b < 256):bits .or .u32 0 (b:Int)=(b:Int):=by
 have:=u32_or_nat 0 b (by omega) (by omega)
 simpa using this
def adN (n0 n1 n2 n3:Nat):Nat:=((n0 * 256 + n1) * 256 + n2) * 256 + n3
theorem paddr_ok (s:ByteArray)(n0 n1 n2 n3:Nat)(h0:n0 < 100)(h1:n1 < 100)(h2:n2 < 100)(h3:n3 < 100)(w:World)(hm:ML w)(hs:s.size≤4000)(hc:Lib.countB s ⟨#[46]⟩ + 1=4)(hsp:Lib.splitB ⟨#[46]⟩ 0 (Lib.countB s ⟨#[46]⟩) s=[decS n0,decS n1,decS n2,decS n3]):
  Calls Pg 272 #[.string s] w fun e w'=>e=rT (tU #[X Z (adN n0 n1 n2 n3:Nat),bL true])∧Below w.heap.size w w':=by
 have CS:=jH (split_ok s ⟨#[46]⟩ [decS n0,decS n1,decS n2,decS n3] w hs (by decide) hm hc hsp)
 have N0:=jH (tnum_ok n0 255 h0 (by omega) (by omega))
 have N1:=jH (tnum_ok n1 255 h1 (by omega) (by omega))
 have N2:=jH (tnum_ok n2 255 h2 (by omega) (by omega))
 have N3:=jH (tnum_ok n3 255 h3 (by omega) (by omega))
 rw[show ((255:Nat):Int)=255 from rfl] at N0 N1 N2 N3
 have hx:=Blk.new w 9 (svs [decS n0,decS n1,decS n2,decS n3]).toArray
 have hb:=(bR w.heap.size w).alloc (nR _) (cL (svs [decS n0,decS n1,decS n2,decS n3]).toArray 9)
 have HM:=jH (ML.lt hm)
 clear hm hc hsp hs
 generalize decS n0=s0 at *
 generalize decS n1=s1 at *
 generalize decS n2=s2 at *
 generalize decS n3=s3 at *
 simp only[svs,List.map_cons,List.map_nil,List.length_cons,List.length_nil] at *
 go_enter func272,ntmps272
 go_wp2_with fail
 refine CS.out.mono ?_
 rintro e w1 ⟨rfl,rfl⟩
 obtain⟨q,hq⟩:∃q,q=w.heap.size:=⟨_,rfl⟩
 rw[←hq] at hx hb⊢
 have HQ:=jH hq
 clear hq CS
 generalize w.alloc (.cells [Value.string s0,Value.string s1,Value.string s2,Value.string s3].toArray 9)=w1 at *
 have H0:Hid (Blk w1 q 9 [Value.string s0,Value.string s1,Value.string s2,Value.string s3].toArray∧Below q w w1):=⟨hx,hb⟩
 clear hx hb
 have c0:=H0.out.1.c1
 go_wp2_with fail
 refine wp_loop_rounds 5 ?_
 rw[rounds_succ]
 go_wp2_with fail
 refine(N0.out w1).mono ?_
 rintro e w2 ⟨rfl,hb⟩
 have H1:Hid (Blk w2 q 9 [Value.string s0,Value.string s1,Value.string s2,Value.string s3].toArray∧Below q w w2):=⟨H0.out.1.below hb H0.out.1.lt,H0.out.2.trans (hb.mono (Nat.le_of_lt H0.out.1.lt))⟩
 clear hb H0 c0 N0
 obtain⟨-,c1⟩:=H1.out.1.c2
 go_wp2_with fail
 rw[rounds_succ]
 go_wp2_with fail
 refine(N1.out w2).mono ?_
 rintro e w3 ⟨rfl,hb⟩
 have H2:Hid (Blk w3 q 9 [Value.string s0,Value.string s1,Value.string s2,Value.string s3].toArray∧Below q w w3):=⟨H1.out.1.below hb H1.out.1.lt,H1.out.2.trans (hb.mono (Nat.le_of_lt H1.out.1.lt))⟩
 clear hb H1 c1 N1
 obtain⟨-,-,c2⟩:=H2.out.1.c3
 go_wp2_with fail
 rw[rounds_succ]
 go_wp2_with fail
 refine(N2.out w3).mono ?_
 rintro e w4 ⟨rfl,hb⟩
 have H3:Hid (Blk w4 q 9 [Value.string s0,Value.string s1,Value.string s2,Value.string s3].toArray∧Below q w w4):=⟨H2.out.1.below hb H2.out.1.lt,H2.out.2.trans (hb.mono (Nat.le_of_lt H2.out.1.lt))⟩
 clear hb H2 c2 N2
 have c3:=H3.out.1.cell 3
 simp only[ga,gz,gN] at c3
 go_wp2_with fail
 rw[rounds_succ]
 go_wp2_with fail
 refine(N3.out w4).mono ?_
 rintro e w5 ⟨rfl,hb⟩
 have H4:Hid (Blk w5 q 9 [Value.string s0,Value.string s1,Value.string s2,Value.string s3].toArray∧Below q w w5):=⟨H3.out.1.below hb H3.out.1.lt,H3.out.2.trans (hb.mono (Nat.le_of_lt H3.out.1.lt))⟩
 clear hb H3 c3 N3
 go_wp2_with fail
 rw[rounds_succ]
 go_wp2_with fail
 go_ret2
 refine⟨?_,HQ.out▸H4.out.2⟩
 rw[or_zero n0 (by omega),or_byte2 n0 n1 (by omega) (by omega),or_byte2 _ n2 (by omega) (by omega),or_byte2 _ n3 (by omega) (by omega)]
 rfl
theorem tend_ok (s a:ByteArray)(ad port:Nat)(hp:port < 100)(w:World)(hm:ML w)(hs:s.size≤4000)(hc:Lib.cut s.data.toList (⟨#[58]⟩:ByteArray).data.toList=(a.data.toList,(decS port).data.toList,true))
  (PA:∀W,ML W→Calls Pg 272 #[.string a] W fun e w'=>e=rT (tU #[X Z ad,bL true])∧Below W.heap.size W w'):
  Calls Pg 268 #[.string s] w fun e w'=>e=rT (tU #[X Z ad,X Y port,bL true])∧Below w.heap.size w w':=by
 have CC:=jH (cut_ok s ⟨#[58]⟩ a (decS port) w hs hm hc)
 have CN:=jH (tnum_ok port 65535 hp (by omega) (by omega))
 rw[show ((65535:Nat):Int)=65535 from rfl] at CN
 have HM:=jH hm
 have HP:=jH PA
 clear hm hc PA
 generalize decS port=ps at *
 go_enter func268,ntmps268
 go_wp2_with fail
 refine CC.out.mono ?_
 rintro e w1 ⟨rfl,hb1⟩
 have H1:Hid (Below w.heap.size w w1):=hb1
 clear hb1 CC
 go_wp2_with fail
 refine(HP.out w1 (HM.out.below H1.out HM.out.lt)).mono ?_
 rintro e w2 ⟨rfl,hb2⟩
 have H2:Hid (Below w.heap.size w w2):=H1.out.trans (hb2.mono H1.out.size)
 clear hb2 H1 HP
 go_wp2_with fail
 refine(CN.out w2).mono ?_
 rintro e w3 ⟨rfl,hb3⟩
 have H3:Hid (Below w.heap.size w w3):=H2.out.trans (hb3.mono H2.out.size)
 clear hb3 H2 CN
 go_wp2_with fail
 go_ret3
 exact⟨rfl,H3.out⟩
theorem tparse_ok (s rest frm tt:ByteArray)(src dst sp dp:Nat)(w:World)(hm:ML w)(hs:s.size≤4000)(hr:rest.size≤4000)(hmay:mayTu ⟨src,dst,17,sp,dp⟩=true)
  (hc1:Lib.cut s.data.toList (⟨#[32]⟩:ByteArray).data.toList=((⟨#[117,100,112]⟩:ByteArray).data.toList,rest.data.toList,true))(hc2:Lib.cut rest.data.toList (⟨#[62]⟩:ByteArray).data.toList=(frm.data.toList,tt.data.toList,true))
  (EA:∀W,ML W→Calls Pg 268 #[.string frm] W fun e w'=>e=rT (tU #[X Z src,X Y sp,bL true])∧Below W.heap.size W w')
  (EB:∀W,ML W→Calls Pg 268 #[.string tt] W fun e w'=>e=rT (tU #[X Z dst,X Y dp,bL true])∧Below W.heap.size W w'):
  Calls Pg 164 #[.string s] w fun e w'=>e=rT (tU #[aG #[X Z src,X Z dst,X Y 17,X Y sp,X Y dp],bL true])∧Below w.heap.size w w':=by
 have h0:=Blk.new w 39 #[X Z 0,X Z 0,X Y 0,X Y 0,X Y 0]
 have hb0:=(bR w.heap.size w).alloc (nR _) (cL #[X Z 0,X Z 0,X Y 0,X Y 0,X Y 0] 39)
 have CM:=jH (fun W=>tupmay_any ⟨src,dst,17,sp,dp⟩ W)
 unfold Tu.vals at CM
 dsimp only at CM
 rw[hmay] at CM
 have HM:=jH hm
 obtain⟨q,hq⟩:∃q,q=w.heap.size:=⟨_,rfl⟩
 have hq0:0 < q:=by rw[hq];exact hm.lt
 rw[←hq] at h0 hb0
 have HX:=jH (aI hc1 (aI hc2 (aI EA (aI EB hr))))
 clear hm hc1 hc2 EA EB hr
 go_enter func164,ntmps164
 go_wp2_with fail
 rw[←hq]
 have HQ:=jH (aI hq hq0)
 clear hq hq0
 generalize w.alloc (cL #[X Z 0,X Z 0,X Y 0,X Y 0,X Y 0] 39)=w1 at *
 have H1:Hid (Blk w1 q 39 #[X Z 0,X Z 0,X Y 0,X Y 0,X Y 0]∧Below q w w1∧ML w1):=⟨h0,hb0,HM.out.below hb0 HQ.out.2⟩
 clear h0 hb0
 refine(cut_ok s ⟨#[32]⟩ ⟨#[117,100,112]⟩ rest w1 hs H1.out.2.2 HX.out.1).mono ?_
 rintro e w2 ⟨rfl,hb⟩
 have H2:Hid (Blk w2 q 39 #[X Z 0,X Z 0,X Y 0,X Y 0,X Y 0]∧Below q w w2∧ML w2):=⟨H1.out.1.below hb H1.out.1.lt,H1.out.2.1.trans (hb.mono (Nat.le_of_lt H1.out.1.lt)),H1.out.2.2.below hb H1.out.2.2.lt⟩
 clear hb H1
 go_wp2_with fail
 refine(cut_ok rest ⟨#[62]⟩ frm tt w2 HX.out.2.2.2.2 H2.out.2.2 HX.out.2.1).mono ?_
 rintro e w3 ⟨rfl,hb⟩
 have H3:Hid (Blk w3 q 39 #[X Z 0,X Z 0,X Y 0,X Y 0,X Y 0]∧Below q w w3∧ML w3):=⟨H2.out.1.below hb H2.out.1.lt,H2.out.2.1.trans (hb.mono (Nat.le_of_lt H2.out.1.lt)),H2.out.2.2.below hb H2.out.2.2.lt⟩
 clear hb H2
 go_wp2_with fail
 have hb4:Below w3.heap.size w3 (w3.alloc (cL #[X Z 0,X Z 0,X Y 17,X Y 0,X Y 0] 39)):=(bR _ _).alloc (nR _) _
 have n4:=Blk.new w3 39 #[X Z 0,X Z 0,X Y 17,X Y 0,X Y 0]
 obtain⟨q2,hq2⟩:∃q2,q2=w3.heap.size:=⟨_,rfl⟩
 rw[←hq2] at n4⊢
 have H4:(fun Vv:World=>Hid (Blk Vv q 39 #[X Z 0,X Z 0,X Y 0,X Y 0,X Y 0]∧Below q w Vv∧ML Vv∧Blk Vv q2 39 #[X Z 0,X Z 0,X Y 17,X Y 0,X Y 0]∧q < q2)) (w3.alloc (cL #[X Z 0,X Z 0,X Y 17,X Y 0,X Y 0] 39)):=⟨H3.out.1.alloc _,H3.out.2.1.trans (hb4.mono (Nat.le_of_lt H3.out.1.lt)),H3.out.2.2.below hb4 H3.out.2.2.lt,n4,by rw[hq2];exact H3.out.1.lt⟩
 clear hb4 n4 hq2 H3
 generalize w3.alloc (cL #[X Z 0,X Z 0,X Y 17,X Y 0,X Y 0] 39)=w4 at *
 refine(HX.out.2.2.1 w4 H4.out.2.2.1).mono ?_
 rintro e w5 ⟨rfl,hb⟩
 have H5:Hid (Blk w5 q 39 #[X Z 0,X Z 0,X Y 0,X Y 0,X Y 0]∧Below q w w5∧ML w5∧Blk w5 q2 39 #[X Z 0,X Z 0,X Y 17,X Y 0,X Y 0]∧q < q2):=⟨H4.out.1.below hb H4.out.1.lt,H4.out.2.1.trans (hb.mono (Nat.le_of_lt H4.out.1.lt)),H4.out.2.2.1.below hb H4.out.2.2.1.lt,H4.out.2.2.2.1.below hb H4.out.2.2.2.1.lt,H4.out.2.2.2.2⟩
 clear hb H4
 obtain⟨a0,-,-,a3⟩:=H5.out.2.2.2.1.c4
 obtain⟨z0,-,-,z3⟩:=H5.out.2.2.2.1.f4
 go_wp2_with fail
 have H6:(fun Vv:World=>Hid (Blk Vv q 39 #[X Z 0,X Z 0,X Y 0,X Y 0,X Y 0]∧Below q w Vv∧ML Vv∧Blk Vv q2 39 #[X Z src,X Z 0,X Y 17,X Y sp,X Y 0]∧q < q2)) ((w5.setCell ⟨q2,0,none⟩ (X Z src)).setCell ⟨q2,3,none⟩ (X Y sp)):=by
  obtain⟨g1,g2,g3,g4,g5⟩:=H5.out
  have hbs:Below q2 w5 ((w5.setCell ⟨q2,0,none⟩ (X Z src)).setCell ⟨q2,3,none⟩ (X Y sp)):=((bR _ _).setCell (p:=⟨q2,0,none⟩) (nR _) _).setCell (p:=⟨q2,3,none⟩) (nR _) _
  exact⟨g1.below hbs g5,g2.trans (hbs.mono (Nat.le_of_lt g5)),g3.below hbs (by omega),(g4.set_ 0 _).set_ 3 _,g5⟩
 clear H5 a0 a3 z0 z3
 generalize (w5.setCell ⟨q2,0,none⟩ (X Z src)).setCell ⟨q2,3,none⟩ (X Y sp)=w6 at *
 refine(HX.out.2.2.2.1 w6 H6.out.2.2.1).mono ?_
 rintro e w7 ⟨rfl,hb⟩
 have H7:Hid (Blk w7 q 39 #[X Z 0,X Z 0,X Y 0,X Y 0,X Y 0]∧Below q w w7∧Blk w7 q2 39 #[X Z src,X Z 0,X Y 17,X Y sp,X Y 0]∧q < q2):=⟨H6.out.1.below hb H6.out.1.lt,H6.out.2.1.trans (hb.mono (Nat.le_of_lt H6.out.1.lt)),H6.out.2.2.2.1.below hb H6.out.2.2.2.1.lt,H6.out.2.2.2.2⟩
 clear hb H6
 obtain⟨-,a1,-,-,a4⟩:=H7.out.2.2.1.c5
 obtain⟨-,z1,-,-,z4⟩:=H7.out.2.2.1.f5
 have n8:=(H7.out.2.2.1.set_ 1 (X Z dst)).set_ 4 (X Y dp)
 have hbs:Below q2 w7 ((w7.setCell ⟨q2,1,none⟩ (X Z dst)).setCell ⟨q2,4,none⟩ (X Y dp)):=((bR _ _).setCell (p:=⟨q2,1,none⟩) (nR _) _).setCell (p:=⟨q2,4,none⟩) (nR _) _
 have H8:(fun Vv:World=>Hid (Blk Vv q 39 #[X Z 0,X Z 0,X Y 0,X Y 0,X Y 0]∧Below q w Vv∧Blk Vv q2 39 #[X Z src,X Z dst,X Y 17,X Y sp,X Y dp])) ((w7.setCell ⟨q2,1,none⟩ (X Z dst)).setCell ⟨q2,4,none⟩ (X Y dp)):=⟨H7.out.1.below hbs H7.out.2.2.2,H7.out.2.1.trans (hbs.mono (Nat.le_of_lt H7.out.2.2.2)),n8⟩
 have b0:=n8.cell 0
 have b1:=n8.cell 1
 have b2:=n8.cell 2
 have b3:=n8.cell 3
 have b4:=n8.cell 4
 simp at b0 b1 b2 b3 b4
 clear n8 hbs
 go_wp2_with fail
 refine(CM.out _).mono ?_
 rintro e w9 ⟨rfl,hb⟩
 have H9:Hid (Blk w9 q 39 #[X Z 0,X Z 0,X Y 0,X Y 0,X Y 0]∧Below q w w9∧Blk w9 q2 39 #[X Z src,X Z dst,X Y 17,X Y sp,X Y dp]):=⟨H8.out.1.below hb H8.out.1.lt,H8.out.2.1.trans (hb.mono (Nat.le_of_lt H8.out.1.lt)),H8.out.2.2.below hb H8.out.2.2.lt⟩
 clear hb H8 H7 CM b0 b1 b2 b3 b4 a1 a4 z1 z4
 obtain⟨b0,b1,b2,b3,b4⟩:=H9.out.2.2.c5
 obtain⟨r0,r1,r2,r3,r4⟩:=H9.out.1.c5
 obtain⟨z0,z1,z2,z3,z4⟩:=H9.out.1.f5
 go_wp2_with fail
 have n9:=(((((H9.out.1.set_ 0 (X Z src)).set_ 1 (X Z dst)).set_ 2 (X Y 17)).set_ 3 (X Y sp)).set_ 4 (X Y dp))
 have d0:=n9.cell 0
 have d1:=n9.cell 1
 have d2:=n9.cell 2
 have d3:=n9.cell 3
 have d4:=n9.cell 4
 refine bodyPost_ret (v:=tU #[aG #[X Z src,X Z dst,X Y 17,X Y sp,X Y dp],bL true]) (by simp[results,results164,go_sem,d0,d1,d2,d3,d4]) rfl ?_
 exact⟨rfl,HQ.out.1▸(((((H9.out.2.1.setCell (p:=⟨q,0,none⟩) (nR _) (X Z src)).setCell (p:=⟨q,1,none⟩) (nR _) (X Z dst)).setCell (p:=⟨q,2,none⟩) (nR _) (X Y 17)).setCell (p:=⟨q,3,none⟩) (nR _) (X Y sp)).setCell (p:=⟨q,4,none⟩) (nR _) (X Y dp))⟩
theorem gparse_ok (s rest addr:ByteArray)(id wt ad:Nat)(hid:id < 100)(hw1:1≤wt)(hw2:wt≤10)(had:ad < 4294967296)(w:World)(hm:ML w)(hs:s.size≤4000)(hr:rest.size≤4000)
  (hq:(s.toList==[45])=false)
  (hc:Lib.countB s ⟨#[44]⟩ + 1=1)(hsp:Lib.splitB ⟨#[44]⟩ 0 (Lib.countB s ⟨#[44]⟩) s=[s])
  (hc1:Lib.cut s.data.toList (⟨#[64]⟩:ByteArray).data.toList=((decS id).data.toList,rest.data.toList,true))(hc2:Lib.cut rest.data.toList (⟨#[42]⟩:ByteArray).data.toList=(addr.data.toList,(decS wt).data.toList,true))
  (PA:∀W,ML W→Calls Pg 272 #[.string addr] W fun e w'=>e=rT (tU #[X Z ad,bL true])∧Below W.heap.size W w'):
  Calls Pg 166 #[.string s] w fun e w'=>∃A c,e=rT (tU #[G A 1 c,bL true])∧w'.ownsRow w.heap.size 34 3 (G A 1 c) 1 (bks [⟨(id:Int),ad,(wt:Int)⟩])∧Below w.heap.size w w':=by
 have CS:=jH (split_ok s ⟨#[44]⟩ [s] w hs (by decide) hm hc hsp)
 have C1:=jH (fun W hW=>cut_ok s ⟨#[64]⟩ (decS id) rest W hs hW hc1)
 have C2:=jH (fun W hW=>cut_ok rest ⟨#[42]⟩ addr (decS wt) W hr hW hc2)
 have N1:=jH (gnum_ok id hid)
 have N2:=jH (gnum_ok wt (by omega))
 have HP:=jH PA
 have hx:=Blk.new w 9 (svs [s]).toArray
 have hb:=(bR w.heap.size w).alloc (nR _) (cL (svs [s]).toArray 9)
 have hm1:=hm.below hb hm.lt
 clear hm hc hsp hc1 hc2 PA hr hs
 generalize decS id=ids at *
 generalize decS wt=ws at *
 simp only[svs,List.map_cons,List.map_nil,List.length_cons,List.length_nil] at *
 go_enter func166,ntmps166
 go_wp2_with fail
 refine CS.out.mono ?_
 rintro e w1 ⟨rfl,rfl⟩
 have c0:=hx.c1
 have H1:(fun Vv:World=>Hid (Below w.heap.size w Vv∧ML Vv)) (w.alloc (.cells [Value.string s].toArray 9)):=⟨hb,hm1⟩
 clear hx hb hm1 CS
 go_wp2_with fail
 refine wp_loop_rounds 2 ?_
 rw[rounds_succ]
 go_wp2_with fail
 generalize w.alloc (.cells [Value.string s].toArray 9)=w1 at *
 clear c0
 refine(C1.out w1 H1.out.2).mono ?_
 rintro e w2 ⟨rfl,hb⟩
 have H2:Hid (Below w.heap.size w w2∧ML w2):=⟨H1.out.1.trans (hb.mono H1.out.1.size),H1.out.2.below hb H1.out.2.lt⟩
 clear hb H1
 clear C1
 go_wp2_with fail
 refine(C2.out w2 H2.out.2).mono ?_
 rintro e w3 ⟨rfl,hb⟩
 have H3:Hid (Below w.heap.size w w3∧ML w3):=⟨H2.out.1.trans (hb.mono H2.out.1.size),H2.out.2.below hb H2.out.2.lt⟩
 clear hb H2
 clear C2
 go_wp2_with fail
 refine(N1.out w3).mono ?_
 rintro e w4 ⟨rfl,hb⟩
 have H4:Hid (Below w.heap.size w w4∧ML w4):=⟨H3.out.1.trans (hb.mono H3.out.1.size),H3.out.2.below hb H3.out.2.lt⟩
 clear hb H3
 clear N1
 go_wp2_with fail
 refine(N2.out w4).mono ?_
 rintro e w5 ⟨rfl,hb⟩
 have H5:Hid (Below w.heap.size w w5∧ML w5):=⟨H4.out.1.trans (hb.mono H4.out.1.size),H4.out.2.below hb H4.out.2.lt⟩
 clear hb H4
 clear N2
 go_wp2_with fail
 refine(HP.out w5 H5.out.2).mono ?_
 rintro e w6 ⟨rfl,hb⟩
 have H6:Hid (Below w.heap.size w w6∧ML w6):=⟨H5.out.1.trans (hb.mono H5.out.1.size),H5.out.2.below hb H5.out.2.lt⟩
 clear hb H5 HP
 go_wp2_with (at_builtin;refine stop_ ?_)
 refine on_ ?_
 have hb7:Below w6.heap.size w6 (w6.alloc (cL #[X Y id,X Z ad,X Y wt] 34)):=(bR _ _).alloc (nR _) _
 refine wpList_append_k rfl (.tmp 78) (.tmp 83) _ rfl 3 24 34 _ infoBe rfl (by omega) (by omega) underlying35 w.heap.size (G none 0 0) 0 [] rfl (World.ownsRow_nil _ _ _ _) (w6.heap.size + 1) (some ⟨w6.heap.size,0,none⟩) 1 1 (bks [⟨(id:Int),ad,(wt:Int)⟩]) rfl (by rw[bks_single];exact reads_news _ _ _ _ 1 3 _ _ (by rfl) rfl rfl _ rfl) (by rw[bks_single];intro u hu;simp at hu;rcases hu with rfl|rfl|rfl<;>rfl) 1 rfl (by omega) (by have:=H6.out.1.size;simp;omega) ?_
 intro A4 c4 w7 hown hbw _ _
 rw[List.nil_append] at hown
 have H7:Hid (w7.ownsRow w.heap.size 34 3 (G A4 1 c4) 1 (bks [⟨(id:Int),ad,(wt:Int)⟩])∧Below w.heap.size w w7):=⟨hown,(H6.out.1.trans (hb7.mono H6.out.1.size)).trans hbw⟩
 clear hown hbw hb7 H6
 have hmay:MayBs 1 [⟨(id:Int),ad,(wt:Int)⟩]:=by
  refine⟨by omega,fun j hj=>?_⟩
  have:j=0:=by omega
  subst this
  simp[okAt]
  omega
 have hok:BesOk [⟨(id:Int),ad,(wt:Int)⟩]:=fun b hb=>by
  simp only[List.mem_cons,List.not_mem_nil,or_false] at hb
  subst hb
  simp
  omega
 have CM:=jH (gmay_any A4 1 c4 w7.heap.size [⟨(id:Int),ad,(wt:Int)⟩] w7 (Reads.of_own H7.out.1) (nR _) hok (by omega) (own_capp H7.out.1).1)
 have HY:=jH hmay
 clear hmay hok
 go_wp2_with fail
 rw[rounds_succ]
 go_wp2_with fail
 refine CM.out.mono ?_
 rintro e w8 ⟨⟨b,rfl,hb⟩,hb8⟩
 obtain rfl:=hb.2 HY.out
 have H8:Hid (w8.ownsRow w.heap.size 34 3 (G A4 1 c4) 1 (bks [⟨(id:Int),ad,(wt:Int)⟩])∧Below w.heap.size w w8):=⟨own_below H7.out.1 hb8,H7.out.2.trans (hb8.mono H7.out.2.size)⟩
 clear hb hb8 CM H7
 go_wp2_with fail
 go_ret2
 exact⟨A4,c4,rfl,H8.out⟩
def WordsAt (w:World)(wp:Nat)(ss:List ByteArray):Prop:=∃A c,Blk w wp 89 #[G A ss.length c,bL false]∧Reads w wp 1 A ss.length (svs ss)∧ss.length≤c
theorem WordsAt.lt {w:World}{wp:Nat}{ss:List ByteArray}(h:WordsAt w wp ss):wp < w.heap.size:=by obtain⟨A,c,h1,_⟩:=h;exact h1.lt
theorem WordsAt.below {w w':World}{wp:Nat}{ss:List ByteArray}(h:WordsAt w wp ss)(hb:Below w.heap.size w w'):WordsAt w' wp ss:=by
 obtain⟨A,c,h1,h2,h3⟩:=h
 exact⟨A,c,h1.below hb h1.lt,h2.below (hb.mono (Nat.le_of_lt h1.lt)),h3⟩
theorem WordsAt.far {w:World}{wp q:Nat}{ss:List ByteArray}(h:WordsAt w wp ss)(hq:wp < q)(i:Nat)(v:Value):WordsAt (w.setCell ⟨q,i,none⟩ v) wp ss:=by
 obtain⟨A,c,h1,h2,h3⟩:=h
 exact⟨A,c,h1.far (p:=⟨q,i,none⟩) (Nat.ne_of_lt hq) v,h2.setCell (p:=⟨q,i,none⟩) (Nat.le_of_lt hq) v,h3⟩
theorem WordsAt.bad {w:World}{wp:Nat}{ss:List ByteArray}(h:WordsAt w wp ss):WordsAt (w.setCell ⟨wp,1,none⟩ (bL false)) wp ss:=by
 obtain⟨A,c,h1,h2,h3⟩:=h
 exact⟨A,c,h1.set_ 1 (bL false),h2.setCell (p:=⟨wp,1,none⟩) (nR _) _,h3⟩
theorem wnext_ok (wp:Nat)(s:ByteArray)(ss:List ByteArray)(w:World)(hn:ss.length≤10000)(h:WordsAt w wp (s::ss)):
  Calls Pg 155 #[PT (some ⟨wp,0,none⟩)] w fun e w'=>e=rT (.string s)∧WordsAt w' wp ss∧Below wp w w'∧w.grownBy w' (some wp):=by
 obtain⟨A,c,hblk,hr,hlc⟩:=h
 have hcut:=hr.cut (k:=1) (by simp) hlc
 obtain⟨ad,u,hA,_,hu,hcell⟩:=hr.at_ (k:=0) (by simp)
 subst hA
 simp[svs] at hu
 subst hu
 rw[Addr.add_zero'] at hcell
 have hc0:=hblk.cell 0
 have hf0:=hblk.frozen 0
 simp only[ga,gz,gN,List.length_cons] at hc0
 have H:Hid (∀c',ss.length≤c'→WordsAt (w.setCell ⟨wp,0,none⟩ (G (if c=1 then some ad else (some ad).map (·.add 1)) ss.length c')) wp ss):=by
  intro c' hc'
  refine⟨(if c=1 then some ad else (some ad).map (·.add 1)),c',?_,?_,hc'⟩
  ·exact hblk.set_ 0 _
  ·have h1:Reads w wp 1 (if c=1 then some ad else (some ad).map (·.add 1)) ss.length (svs ss):=by
    have h2:=hcut
    simp only[List.length_cons,Nat.add_sub_cancel,Nat.mul_one,svs,List.map_cons,List.drop_succ_cons,List.drop_zero] at h2
    exact h2
   exact h1.setCell (p:=⟨wp,0,none⟩) (nR _) _
 have hb:∀v,Below wp w (w.setCell ⟨wp,0,none⟩ v):=fun v=>(bR _ _).setCell (p:=⟨wp,0,none⟩) (nR _) v
 have HB:=jH hb
 have hl1:1≤c:=by simp at hlc;omega
 have hlc':ss.length + 1≤c:=by simpa using hlc
 clear hcut hblk hr hb hlc
 generalize ss.length=m at *
 by_cases hc1:c=1
 ·subst hc1
  have hm0:m=0:=by omega
  subst hm0
  have H':=jH (H.out 0 (nR _))
  rw[if_pos rfl] at H'
  clear H
  go_enter func155,ntmps155
  go_wp2_with fail
  go_ret
  exact⟨rfl,H'.out,HB.out _,grown_set w wp 0 _⟩
 ·have H':=jH (H.out (c - 1) (by omega))
  rw[if_neg hc1] at H'
  clear H
  go_enter func155,ntmps155
  go_wp2_with fail
  go_ret
  exact⟨rfl,H'.out,HB.out _,grown_set w wp 0 _⟩
theorem wdone_ok (wp:Nat)(w:World)(h:WordsAt w wp []):
  Calls Pg 153 #[PT (some ⟨wp,0,none⟩)] w fun e w'=>e=rT (bL true)∧w=w':=by
 obtain⟨A,c,hblk,hr,hlc⟩:=h
 obtain⟨g0,g1⟩:=hblk.c2
 clear hblk hr
 go_enter func153,ntmps153
 go_wp2_with fail
 go_ret
 exact⟨rfl,rfl⟩
theorem wbytes_ok (wp:Nat)(w:World)(h:WordsAt w wp [⟨#[45]⟩]):
  Calls Pg 75 #[PT (some ⟨wp,0,none⟩)] w fun e w'=>e=rT (G none 0 0)∧WordsAt w' wp []∧Below wp w w':=by
 have CN:=jH (wnext_ok wp ⟨#[45]⟩ [] w (by simp) h)
 clear h
 go_enter func75,ntmps75
 go_wp2_with fail
 refine CN.out.mono ?_
 rintro e w1 ⟨rfl,h1,hb,-⟩
 have H1:=jH (aI h1 hb)
 clear h1 hb CN
 go_wp2_with fail
 go_ret
 exact⟨rfl,H1.out⟩
theorem wbackends_ok (wp:Nat)(s:ByteArray)(b:Be)(w:World)(h:WordsAt w wp [s])
  (GP:∀W,Below wp w W→Calls Pg 166 #[.string s] W fun e w'=>∃A c,e=rT (tU #[G A 1 c,bL true])∧w'.ownsRow W.heap.size 34 3 (G A 1 c) 1 (bks [b])∧Below W.heap.size W w'):
  Calls Pg 80 #[PT (some ⟨wp,0,none⟩)] w fun e w'=>∃A c,e=rT (G A 1 c)∧w'.ownsRow w.heap.size 34 3 (G A 1 c) 1 (bks [b])∧WordsAt w' wp []∧Below wp w w':=by
 have hlt:=h.lt
 have CN:=jH (wnext_ok wp s [] w (by simp) h)
 have HP:=jH GP
 have HL:=jH hlt
 clear h GP hlt
 go_enter func80,ntmps80
 go_wp2_with fail
 refine CN.out.mono ?_
 rintro e w1 ⟨rfl,h1,hb,-⟩
 have H1:=jH (aI h1 hb)
 clear h1 hb CN
 go_wp2_with fail
 refine(HP.out w1 H1.out.2).mono ?_
 rintro e w2 ⟨A,c,rfl,hown,hb⟩
 have H2:Hid (w2.ownsRow w.heap.size 34 3 (G A 1 c) 1 (bks [b])∧WordsAt w2 wp []∧Below wp w w2):=⟨own_base hown H1.out.2.size,H1.out.1.below hb,H1.out.2.trans (hb.mono (Nat.le_of_lt H1.out.1.lt))⟩
 clear hown hb H1 HP
 obtain⟨A2,c2,g1,g2,g3⟩:=H2.out.2.1
 obtain⟨-,x1⟩:=g1.c2
 have z1:=g1.frozen 1
 have H3:(fun Vv:World=>Hid (Vv.ownsRow w.heap.size 34 3 (G A 1 c) 1 (bks [b])∧WordsAt Vv wp []∧Below wp w Vv)) (w2.setCell ⟨wp,1,none⟩ (bL false)):=⟨own_set_far H2.out.1 g1 (by decide) 1 _,H2.out.2.1.bad,H2.out.2.2.setCell (p:=⟨wp,1,none⟩) (nR _) _⟩
 clear g1 g2 g3 H2
 go_wp2_with fail
 go_ret
 exact⟨A,c,rfl,H3.out⟩
theorem wtuple_ok (wp:Nat)(n r:ByteArray)(src dst:Nat)(proto sp dp:Int)(w:World)(h:WordsAt w wp [n,r])(hsz:n.size + r.size≤4000)
  (TP:∀W,Below wp w W→Calls Pg 164 #[.string (n++⟨#[32]⟩++r)] W fun e w'=>e=rT (tU #[aG #[X Z src,X Z dst,X Y proto,X Y sp,X Y dp],bL true])∧Below W.heap.size W w'):
  Calls Pg 77 #[PT (some ⟨wp,0,none⟩)] w fun e w'=>e=rT (aG #[X Z src,X Z dst,X Y proto,X Y sp,X Y dp])∧WordsAt w' wp []∧Below wp w w':=by
 have h0:=Blk.new w 39 #[X Z 0,X Z 0,X Y 0,X Y 0,X Y 0]
 have hb0:=(bR w.heap.size w).alloc (nR _) (cL #[X Z 0,X Z 0,X Y 0,X Y 0,X Y 0] 39)
 have hw0:=h.below hb0
 have hlt:=h.lt
 obtain⟨q,hq⟩:∃q,q=w.heap.size:=⟨_,rfl⟩
 rw[←hq] at h0 hb0
 have HP:=jH TP
 have hq1:wp < q:=by rw[hq];exact hlt
 clear h TP hlt
 go_enter func77,ntmps77
 go_wp2_with fail
 rw[←hq]
 clear hq
 generalize w.alloc (cL #[X Z 0,X Z 0,X Y 0,X Y 0,X Y 0] 39)=w1 at *
 have H1:Hid (WordsAt w1 wp [n,r]∧Blk w1 q 39 #[X Z 0,X Z 0,X Y 0,X Y 0,X Y 0]∧Below wp w w1∧wp < q):=⟨hw0,h0,hb0.mono (Nat.le_of_lt hq1),hq1⟩
 clear hw0 h0 hb0 hq1
 refine(wnext_ok wp n [r] w1 (by simp) H1.out.1).mono ?_
 rintro e w2 ⟨rfl,h2,hb,hg⟩
 have H2:Hid (WordsAt w2 wp [r]∧Blk w2 q 39 #[X Z 0,X Z 0,X Y 0,X Y 0,X Y 0]∧Below wp w w2∧wp < q):=⟨h2,H1.out.2.1.grown hg (fun e=>by injection e with e;have:=H1.out.2.2.2;omega),H1.out.2.2.1.trans hb,H1.out.2.2.2⟩
 clear h2 hb hg H1
 go_wp2_with fail
 refine(wnext_ok wp r [] w2 (by simp) H2.out.1).mono ?_
 rintro e w3 ⟨rfl,h3,hb,hg⟩
 have H3:Hid (WordsAt w3 wp []∧Blk w3 q 39 #[X Z 0,X Z 0,X Y 0,X Y 0,X Y 0]∧Below wp w w3∧wp < q):=⟨h3,H2.out.2.1.grown hg (fun e=>by injection e with e;have:=H2.out.2.2.2;omega),H2.out.2.2.1.trans hb,H2.out.2.2.2⟩
 clear h3 hb hg H2
 have hz:n.size + 1 + r.size≤4001:=by omega
 go_wp2_with fail
 refine(HP.out w3 H3.out.2.2.1).mono ?_
 rintro e w4 ⟨rfl,hb⟩
 have hb4:Below w4.heap.size w4 (w4.alloc (cL #[X Z src,X Z dst,X Y proto,X Y sp,X Y dp] 39)):=(bR _ _).alloc (nR _) _
 have n4:=Blk.new w4 39 #[X Z src,X Z dst,X Y proto,X Y sp,X Y dp]
 have H4:(fun Vv:World=>Hid (WordsAt Vv wp []∧Blk Vv q 39 #[X Z 0,X Z 0,X Y 0,X Y 0,X Y 0]∧Below wp w Vv∧wp < q∧Blk Vv w4.heap.size 39 #[X Z src,X Z dst,X Y proto,X Y sp,X Y dp]∧q < w4.heap.size)) (w4.alloc (cL #[X Z src,X Z dst,X Y proto,X Y sp,X Y dp] 39)):=by
  obtain⟨g1,g2,g3,g4⟩:=H3.out
  have hq:=g2.lt
  have:=hb.size
  exact⟨(g1.below hb).below hb4,(g2.below hb g2.lt).alloc _,(g3.trans (hb.mono (Nat.le_of_lt g1.lt))).trans (hb4.mono (by have:=g1.lt;omega)),g4,n4,by omega⟩
 clear hb hb4 n4 H3 HP
 obtain⟨q2,hq2⟩:∃q2,q2=w4.heap.size:=⟨_,rfl⟩
 obtain⟨A5,c5,g1,g2,g3⟩:=H4.out.1
 obtain⟨-,y1⟩:=g1.c2
 have z1:=g1.frozen 1
 have HG:=jH g1
 clear g1 g2 g3
 go_upto_region 4 with fail
 have H6:(fun Vv:World=>Hid (WordsAt Vv wp []∧Blk Vv q 39 #[X Z 0,X Z 0,X Y 0,X Y 0,X Y 0]∧Below wp w Vv∧wp < q∧Blk Vv w4.heap.size 39 #[X Z src,X Z dst,X Y proto,X Y sp,X Y dp])) ((w4.alloc (cL #[X Z src,X Z dst,X Y proto,X Y sp,X Y dp] 39)).setCell ⟨wp,1,none⟩ (bL false)):=by
  obtain⟨g1,g2,g3,g4,g5,g6⟩:=H4.out
  exact⟨g1.bad,g2.far (p:=⟨wp,1,none⟩) (by show q≠wp;omega) _,g3.setCell (p:=⟨wp,1,none⟩) (nR _) _,g4,g5.far (p:=⟨wp,1,none⟩) (by show w4.heap.size≠wp;omega) _⟩
 rw[←hq2] at H6⊢
 clear hq2 H4 HG y1 z1
 generalize ((w4.alloc (cL #[X Z src,X Z dst,X Y proto,X Y sp,X Y dp] 39)).setCell ⟨wp,1,none⟩ (bL false))=w6 at *
 obtain⟨b0,b1,b2,b3,b4⟩:=H6.out.2.2.2.2.c5
 obtain⟨r0,r1,r2,r3,r4⟩:=H6.out.2.1.c5
 obtain⟨z0,z1,z2,z3,z4⟩:=H6.out.2.1.f5
 go_wp2_with fail
 have n9:=(((((H6.out.2.1.set_ 0 (X Z src)).set_ 1 (X Z dst)).set_ 2 (X Y proto)).set_ 3 (X Y sp)).set_ 4 (X Y dp))
 have d0:=n9.cell 0
 have d1:=n9.cell 1
 have d2:=n9.cell 2
 have d3:=n9.cell 3
 have d4:=n9.cell 4
 refine bodyPost_ret (v:=aG #[X Z src,X Z dst,X Y proto,X Y sp,X Y dp]) (by simp[results,results77,go_sem,d0,d1,d2,d3,d4]) rfl ?_
 exact⟨rfl,(WordsAt.far (WordsAt.far (WordsAt.far (WordsAt.far (WordsAt.far H6.out.1 H6.out.2.2.2.1 0 (X Z src)) H6.out.2.2.2.1 1 (X Z dst)) H6.out.2.2.2.1 2 (X Y proto)) H6.out.2.2.2.1 3 (X Y sp)) H6.out.2.2.2.1 4 (X Y dp)),(((((H6.out.2.2.1.setCell (p:=⟨q,0,none⟩) (Nat.le_of_lt H6.out.2.2.2.1) (X Z src)).setCell (p:=⟨q,1,none⟩) (Nat.le_of_lt H6.out.2.2.2.1) (X Z dst)).setCell (p:=⟨q,2,none⟩) (Nat.le_of_lt H6.out.2.2.2.1) (X Y proto)).setCell (p:=⟨q,3,none⟩) (Nat.le_of_lt H6.out.2.2.2.1) (X Y sp)).setCell (p:=⟨q,4,none⟩) (Nat.le_of_lt H6.out.2.2.2.1) (X Y dp))⟩
end
section
open Go.RowKit Go.Maps
theorem conS_of {W:World}{cp bp q:Nat}{t t':TypeId}{v0 v1 v2 v3 v4 v5 v6:Value}(h1:Blk W cp t #[PT (some ⟨bp,0,none⟩)])(h2:Blk W q t' #[v0,v1,v2,v3,v4,v5,v6]):W.cell? ⟨cp,0,none⟩=some (PT (some ⟨bp,0,none⟩))∧W.cell? ⟨q,0,none⟩=some v0∧W.cell? ⟨q,1,none⟩=some v1∧W.cell? ⟨q,2,none⟩=some v2∧W.cell? ⟨q,3,none⟩=some v3∧W.cell? ⟨q,4,none⟩=some v4∧W.cell? ⟨q,5,none⟩=some v5∧W.cell? ⟨q,6,none⟩=some v6:=
 ⟨h1.cell 0,h2.cell 0,h2.cell 1,h2.cell 2,h2.cell 3,h2.cell 4,h2.cell 5,h2.cell 6⟩
theorem cstep_ok (base cp bp wp:Nat)(v0 v1 v2 v3 v4 v5 v6:Value)(P:World→Prop)(K:List TypeId)(M:List Nat)(w:World)(hc:Blk w cp 80 #[PT (some ⟨bp,0,none⟩)])(hw:WordsAt w wp [])(hbase:base≤w.heap.size)(hK1:28∉K)(hK2:80∉K)(hK3:37∉K)(hP:∀a b,P a→Fr [28] [] base a b→P b)
  (DO:∀W,Below w.heap.size w W→Calls Pg 7 #[PT (some ⟨bp,0,none⟩),aG #[v0,v1,v2,v3,v4,v5,v6]] W fun e w'=>e=rT out0∧P w'∧Fr K M base W w'):
  Calls Pg 78 #[PT (some ⟨cp,0,none⟩),PT (some ⟨wp,0,none⟩),aG #[v0,v1,v2,v3,v4,v5,v6]] w fun e w'=>e=rT (.string ⟨#[111,107]⟩)∧P w'∧Fr K M base w w':=by
 have hx:=Blk.new w 37 #[v0,v1,v2,v3,v4,v5,v6]
 have hb1:Below w.heap.size w (w.alloc (cL #[v0,v1,v2,v3,v4,v5,v6] 37)):=(bR _ _).alloc (nR _) _
 have c1:=hc.alloc (cL #[v0,v1,v2,v3,v4,v5,v6] 37)
 have hw1:=hw.below hb1
 have hsz:(w.alloc (cL #[v0,v1,v2,v3,v4,v5,v6] 37)).heap.size=w.heap.size + 1:=by simp
 have HB:=jH hbase
 have HP:=jH hP
 unfold out0 at DO
 clear hc hw hbase hP
 go_enter func78,ntmps78
 go_wp2_with fail
 refine(wdone_ok wp _ hw1).mono ?_
 rintro e w1 ⟨rfl,rfl⟩
 have d0:=conS_of c1.drew hx.drew
 have hbB:Below (w.heap.size + 1) (w.alloc (cL #[v0,v1,v2,v3,v4,v5,v6] 37)) ((w.alloc (cL #[v0,v1,v2,v3,v4,v5,v6] 37)).alloc (cL #[X Y 0,X Y 0,X Y 0,G none 0 0] 28)).drew:=((bR _ _).alloc (by rw[hsz];exact nR _) _).drew
 have hbw:Below w.heap.size w ((w.alloc (cL #[v0,v1,v2,v3,v4,v5,v6] 37)).alloc (cL #[X Y 0,X Y 0,X Y 0,G none 0 0] 28)).drew:=hb1.trans (hbB.mono (nS _))
 have a0:=conS_of (c1.alloc (cL #[X Y 0,X Y 0,X Y 0,G none 0 0] 28)).drew (hx.alloc (cL #[X Y 0,X Y 0,X Y 0,G none 0 0] 28)).drew
 have nA:Blk ((w.alloc (cL #[v0,v1,v2,v3,v4,v5,v6] 37)).alloc (cL #[X Y 0,X Y 0,X Y 0,G none 0 0] 28)).drew (w.heap.size + 1) 28 #[X Y 0,X Y 0,X Y 0,G none 0 0]:=by
  have:=(Blk.new (w.alloc (cL #[v0,v1,v2,v3,v4,v5,v6] 37)) 28 #[X Y 0,X Y 0,X Y 0,G none 0 0]).drew
  rwa [hsz] at this
 have CA:=jH (DO (w.alloc (cL #[v0,v1,v2,v3,v4,v5,v6] 37)).drew hb1.drew)
 have CB:=jH (DO ((w.alloc (cL #[v0,v1,v2,v3,v4,v5,v6] 37)).alloc (cL #[X Y 0,X Y 0,X Y 0,G none 0 0] 28)).drew hbw)
 have HQ:=jH (aI c1 (aI hx (aI hb1 hbw)))
 have HN:=jH nA
 clear c1 hx hb1 hbw hbB hw1 DO nA hsz
 go_wp2_with fail
 go_region_held3 (fun wS=>wS.cell? ⟨cp,0,none⟩=some (PT (some ⟨bp,0,none⟩))∧wS.cell? ⟨w.heap.size,0,none⟩=some v0∧wS.cell? ⟨w.heap.size,1,none⟩=some v1∧wS.cell? ⟨w.heap.size,2,none⟩=some v2∧wS.cell? ⟨w.heap.size,3,none⟩=some v3∧wS.cell? ⟨w.heap.size,4,none⟩=some v4∧wS.cell? ⟨w.heap.size,5,none⟩=some v5∧wS.cell? ⟨w.heap.size,6,none⟩=some v6) (first|with_reducible exact d0|with_reducible exact a0|with_reducible exact e0|with_reducible exact h1 _|with_reducible exact h2 _ _ _ _|fail)
  (first
   |(go_at_call 7;(with_reducible refine CA.out.mono ?_);rintro e w2 ⟨rfl,hPw,hF⟩;have k1:=hF.blk _ _ _ HQ.out.1.drew hK2;have k2:=hF.blk _ _ _ HQ.out.2.1.drew hK3;have e0:=conS_of k1 k2;have h1:=fun o=>conS_of (k1.alloc o) (k2.alloc o))
   |(go_at_call 7;(with_reducible refine CB.out.mono ?_);rintro e w2 ⟨rfl,hPw,hF⟩;have k1:=hF.blk _ _ _ (HQ.out.1.alloc _).drew hK2;have k2:=hF.blk _ _ _ (HQ.out.2.1.alloc _).drew hK3;have e0:=conS_of k1 k2;have n2:=hF.blk _ _ _ HN.out hK1;have s0:=n2.cell 0;have s1:=n2.cell 1;have s2:=n2.cell 2;have s3:=n2.cell 3;have z0:=n2.frozen 0;have z1:=n2.frozen 1;have z2:=n2.frozen 2;have z3:=n2.frozen 3;(simp only[ga,gz,gN] at s0 s1 s2 s3);have m1:=k1.ne_ n2 (by decide);have m2:=k2.ne_ n2 (by decide);have h2:=fun u0 u1 u2 u3=>conS_of ((((k1.far (p:=⟨w.heap.size + 1,0,none⟩) m1 u0).far (p:=⟨w.heap.size + 1,1,none⟩) m1 u1).far (p:=⟨w.heap.size + 1,2,none⟩) m1 u2).far (p:=⟨w.heap.size + 1,3,none⟩) m1 u3) ((((k2.far (p:=⟨w.heap.size + 1,0,none⟩) m2 u0).far (p:=⟨w.heap.size + 1,1,none⟩) m2 u1).far (p:=⟨w.heap.size + 1,2,none⟩) m2 u2).far (p:=⟨w.heap.size + 1,3,none⟩) m2 u3)))
 ·have HF:(fun Vv:World=>Hid (P Vv∧Fr K M base w Vv)) (w2.alloc (cL #[X Y 0,X Y 0,X Y 0,G none 0 0] 28)):=by
   have hb2:Below w2.heap.size w2 (w2.alloc (cL #[X Y 0,X Y 0,X Y 0,G none 0 0] 28)):=(bR _ _).alloc (nR _) _
   have hw2:Fr K M base w w2:=(Fr.of_below K M HQ.out.2.2.1.drew HB.out).trans hF
   have hbs:base≤w2.heap.size:=nT HB.out hw2.size
   exact⟨HP.out _ _ hPw (Fr.of_below _ _ hb2 hbs),hw2.trans (Fr.of_below K M hb2 hbs)⟩
  clear k1 k2 e0 h1 CA CB d0 a0 HQ HN hPw hF
  generalize (w2.alloc (cL #[X Y 0,X Y 0,X Y 0,G none 0 0] 28))=wF at *
  go_wp2_with fail
  go_ret
  exact⟨rfl,HF.out⟩
 ·have HF:(fun Vv:World=>Hid (P Vv∧Fr K M base w Vv)) ((((w2.setCell ⟨w.heap.size + 1,0,none⟩ (X Y 0)).setCell ⟨w.heap.size + 1,1,none⟩ (X Y 0)).setCell ⟨w.heap.size + 1,2,none⟩ (X Y 0)).setCell ⟨w.heap.size + 1,3,none⟩ (G none 0 0)):=by
   have hw2:Fr K M base w w2:=(Fr.of_below K M HQ.out.2.2.2 HB.out).trans hF
   have hbq:base≤w.heap.size + 1:=nT HB.out (nS _)
   have hfr:=(((((Fr.refl [28] [] base w2).set_ n2 (by simp) hbq 0 (X Y 0)).set_ (n2.set_ 0 (X Y 0)) (by simp) hbq 1 (X Y 0)).set_ ((n2.set_ 0 (X Y 0)).set_ 1 (X Y 0)) (by simp) hbq 2 (X Y 0)).set_ (((n2.set_ 0 (X Y 0)).set_ 1 (X Y 0)).set_ 2 (X Y 0)) (by simp) hbq 3 (G none 0 0))
   exact⟨HP.out _ _ hPw hfr,((((hw2.set_new (nS _) HB.out 0 (X Y 0)).set_new (nS _) HB.out 1 (X Y 0)).set_new (nS _) HB.out 2 (X Y 0)).set_new (nS _) HB.out 3 (G none 0 0))⟩
  clear k1 k2 e0 h2 CA CB d0 a0 HQ HN hPw hF n2 s0 s1 s2 s3 z0 z1 z2 z3 m1 m2
  generalize ((((w2.setCell ⟨w.heap.size + 1,0,none⟩ (X Y 0)).setCell ⟨w.heap.size + 1,1,none⟩ (X Y 0)).setCell ⟨w.heap.size + 1,2,none⟩ (X Y 0)).setCell ⟨w.heap.size + 1,3,none⟩ (G none 0 0))=wF at *
  go_wp2_with fail
  go_ret
  exact⟨rfl,HF.out⟩
theorem csent_ok (base cp bp wp bid:Nat)(hbid:bid < 100)(Ad:Option Addr)(nd cd:Nat)(P:World→Prop)(K:List TypeId)(M:List Nat)(w:World)(hc:Blk w cp 80 #[PT (some ⟨bp,0,none⟩)])(hw:WordsAt w wp [])(hbase:base≤w.heap.size)(hP:∀a b,P a→Fr [28] [] base a b→P b)
  (DO:Calls Pg 7 #[PT (some ⟨bp,0,none⟩),stepP (G Ad nd cd)] w fun e w'=>(∃A' n' c',e=rT (tU #[aG #[X Y 2,X Y 0,X Y bid,G A' n' c'],X Y 0]))∧P w'∧Fr K M base w w'):
  Calls Pg 74 #[PT (some ⟨cp,0,none⟩),PT (some ⟨wp,0,none⟩),G Ad nd cd,bL false] w fun e w'=>e=rT (.string (⟨#[116,111,32]⟩++decS bid))∧P w'∧Fr K M base w w':=by
 have k0:=hc.c1
 have HB:=jH hbase
 have HP:=jH hP
 have HD:=jH DO
 have hsz:=decS_size bid
 have CI:=jH (itoa_ok bid hbid)
 generalize decS bid=sb at *
 unfold stepP at HD
 clear hc hbase hP DO
 go_enter func74,ntmps74
 go_wp2_with fail
 refine(wdone_ok wp _ hw).mono ?_
 rintro e w1 ⟨rfl,rfl⟩
 clear hw
 go_wp2_with fail
 refine HD.out.mono ?_
 rintro e w2 ⟨⟨A',n',c',rfl⟩,hPw,hF⟩
 have HF:(fun Vv:World=>Hid (P Vv∧Fr K M base w Vv)) (w2.alloc (cL #[X Y 2,X Y 0,X Y bid,G A' n' c'] 28)):=by
  have hb2:Below w2.heap.size w2 (w2.alloc (cL #[X Y 2,X Y 0,X Y bid,G A' n' c'] 28)):=(bR _ _).alloc (nR _) _
  have hbs:base≤w2.heap.size:=nT HB.out hF.size
  exact⟨HP.out _ _ hPw (Fr.of_below _ _ hb2 hbs),hF.trans (Fr.of_below K M hb2 hbs)⟩
 clear hPw hF HD k0 HP
 go_wp2_with fail
 refine(CI.out _).mono ?_
 rintro e w3 ⟨rfl,rfl⟩
 clear CI
 go_wp2_with fail
 go_ret
 exact⟨rfl,HF.out⟩
theorem run_sync (cp wp:Nat)(o:ByteArray)(P:World→Prop)(w:World)(SP:Calls Pg 78 #[PT (some ⟨cp,0,none⟩),PT (some ⟨wp,0,none⟩),aG #[X Y 6,G none 0 0,X Y 0,X Y 0,X Y 0,G none 0 0,G none 0 0]] w fun e w'=>e=rT (.string o)∧P w'):
  Calls Pg 28 #[PT (some ⟨cp,0,none⟩),.string ⟨#[115,121,110,99]⟩,PT (some ⟨wp,0,none⟩)] w fun e w'=>e=rT (.string o)∧P w':=by
 have HS:=jH SP
 clear SP
 go_enter func28,ntmps28
 go_wp2_with fail
 refine HS.out.mono ?_
 rintro e w1 ⟨rfl,hP⟩
 have HP:=jH hP
 clear hP HS
 go_wp2_with fail
 go_ret
 exact⟨rfl,HP.out⟩
theorem run_gen (cp wp:Nat)(o:ByteArray)(Q:Option Addr→Nat→World→Prop)(P:World→Prop)(w:World)(WB:Calls Pg 80 #[PT (some ⟨wp,0,none⟩)] w fun e w'=>∃A c,e=rT (G A 1 c)∧Q A c w')
  (SP:∀A c W,Q A c W→Calls Pg 78 #[PT (some ⟨cp,0,none⟩),PT (some ⟨wp,0,none⟩),aG #[X Y 3,G none 0 0,X Y 0,X Y 0,X Y 0,G A 1 c,G none 0 0]] W fun e w'=>e=rT (.string o)∧P w'):
  Calls Pg 28 #[PT (some ⟨cp,0,none⟩),.string ⟨#[103,101,110]⟩,PT (some ⟨wp,0,none⟩)] w fun e w'=>e=rT (.string o)∧P w':=by
 have HW:=jH WB
 have HS:=jH SP
 clear SP WB
 go_enter func28,ntmps28
 go_wp2_with fail
 refine HW.out.mono ?_
 rintro e w1 ⟨A,c,rfl,hQ⟩
 have HQ:=jH hQ
 clear hQ HW
 go_wp2_with fail
 refine(HS.out A c w1 HQ.out).mono ?_
 rintro e w2 ⟨rfl,hP⟩
 have HP:=jH hP
 clear hP HS HQ
 go_wp2_with fail
 go_ret
 exact⟨rfl,HP.out⟩
theorem run_crash (cp wp:Nat)(o:ByteArray)(Q:World→Prop)(P:World→Prop)(w:World)(WB:Calls Pg 75 #[PT (some ⟨wp,0,none⟩)] w fun e w'=>e=rT (G none 0 0)∧Q w')
  (SP:∀W,Q W→Calls Pg 78 #[PT (some ⟨cp,0,none⟩),PT (some ⟨wp,0,none⟩),aG #[X Y 8,G none 0 0,X Y 0,X Y 0,X Y 0,G none 0 0,G none 0 0]] W fun e w'=>e=rT (.string o)∧P w'):
  Calls Pg 28 #[PT (some ⟨cp,0,none⟩),.string ⟨#[99,114,97,115,104]⟩,PT (some ⟨wp,0,none⟩)] w fun e w'=>e=rT (.string o)∧P w':=by
 have HW:=jH WB
 have HS:=jH SP
 clear SP WB
 go_enter func28,ntmps28
 go_wp2_with fail
 refine HW.out.mono ?_
 rintro e w1 ⟨rfl,hQ⟩
 have HQ:=jH hQ
 clear hQ HW
 go_wp2_with fail
 refine(HS.out w1 HQ.out).mono ?_
 rintro e w2 ⟨rfl,hP⟩
 have HP:=jH hP
 clear hP HS HQ
 go_wp2_with fail
 go_ret
 exact⟨rfl,HP.out⟩
theorem run_send (cp wp:Nat)(o:ByteArray)(kv:Array Value)(Q:World→Prop)(Q2:Option Addr→Nat→Nat→World→Prop)(P:World→Prop)(w:World)(WB:Calls Pg 77 #[PT (some ⟨wp,0,none⟩)] w fun e w'=>e=rT (.agg kv)∧Q w')
  (PK:∀W,Q W→Calls Pg 76 #[.agg kv] W fun e w'=>∃A n c,e=rT (G A n c)∧Q2 A n c w')
  (SP:∀A n c W,Q2 A n c W→Calls Pg 74 #[PT (some ⟨cp,0,none⟩),PT (some ⟨wp,0,none⟩),G A n c,bL false] W fun e w'=>e=rT (.string o)∧P w'):
  Calls Pg 28 #[PT (some ⟨cp,0,none⟩),.string ⟨#[115,101,110,100]⟩,PT (some ⟨wp,0,none⟩)] w fun e w'=>e=rT (.string o)∧P w':=by
 have HW:=jH WB
 have HS:=jH SP
 have HK:=jH PK
 clear SP WB PK
 go_enter func28,ntmps28
 go_wp2_with fail
 refine HW.out.mono ?_
 rintro e w1 ⟨rfl,hQ⟩
 have HQ:=jH hQ
 clear hQ HW
 go_wp2_with fail
 refine(HK.out w1 HQ.out).mono ?_
 rintro e w2 ⟨A,n,c,rfl,hQ⟩
 have HQ2:=jH hQ
 clear hQ HK HQ
 go_wp2_with fail
 refine(HS.out A n c w2 HQ2.out).mono ?_
 rintro e w3 ⟨rfl,hP⟩
 have HP:=jH hP
 clear hP HS HQ2
 go_wp2_with fail
 go_ret
 exact⟨rfl,HP.out⟩
theorem asked_send (cp:Nat)(w:World):Calls Pg 27 #[PT (some ⟨cp,0,none⟩),.string ⟨#[115,101,110,100]⟩] w fun e w'=>e=rT (tU #[.string ⟨#[]⟩,bL false])∧w=w':=by
 go_enter func27,ntmps27
 go_wp2_with fail
 go_ret2
 exact⟨rfl,rfl⟩
theorem asked_sync (cp:Nat)(w:World):Calls Pg 27 #[PT (some ⟨cp,0,none⟩),.string ⟨#[115,121,110,99]⟩] w fun e w'=>e=rT (tU #[.string ⟨#[]⟩,bL false])∧w=w':=by
 go_enter func27,ntmps27
 go_wp2_with fail
 go_ret2
 exact⟨rfl,rfl⟩
theorem asked_crash (cp:Nat)(w:World):Calls Pg 27 #[PT (some ⟨cp,0,none⟩),.string ⟨#[99,114,97,115,104]⟩] w fun e w'=>e=rT (tU #[.string ⟨#[]⟩,bL false])∧w=w':=by
 go_enter func27,ntmps27
 go_wp2_with fail
 go_ret2
 exact⟨rfl,rfl⟩
theorem asked_gen (cp bp g:Nat)(hg:g < 100)(w:World)(hc:Blk w cp 80 #[PT (some ⟨bp,0,none⟩)])(CS:Calls Pg 9 #[PT (some ⟨bp,0,none⟩)] w fun e w'=>(∃A1 n1 c1 A2 n2 c2,e=rT (aG #[X Y g,G A1 n1 c1,G none 0 0,G A2 n2 c2]))∧Below w.heap.size w w'):
  Calls Pg 27 #[PT (some ⟨cp,0,none⟩),.string ⟨#[103,101,110]⟩] w fun e w'=>(∃t,e=rT (tU #[.string t,bL true]))∧Below w.heap.size w w':=by
 have k0:=hc.c1
 have HC:=jH CS
 have CI:=jH (itoa_ok g hg)
 generalize decS g=sg at *
 clear hc CS
 go_enter func27,ntmps27
 go_wp2_with fail
 refine HC.out.mono ?_
 rintro e w1 ⟨⟨A1,n1,c1,A2,n2,c2,rfl⟩,hb⟩
 have HB:=jH hb
 have hfd:∀W,(Instr.field 44 (aG #[X Y g,G A1 n1 c1,G none 0 0,G A2 n2 c2]) 0).run Pg W=.ok (X Y g) W:=fun _=>by kernel_rfl
 clear hb HC k0
 go_wp2_with fail
 refine(CI.out w1).mono ?_
 rintro e w2 ⟨rfl,rfl⟩
 clear CI hfd
 go_wp2_with fail
 go_ret2
 exact⟨⟨sg,rfl⟩,HB.out⟩
theorem asked_flows (cp:Nat)(o:ByteArray)(w:World)(CF:Calls Pg 63 #[PT (some ⟨cp,0,none⟩)] w fun e w'=>e=rT (.string o)∧Below w.heap.size w w'):
  Calls Pg 27 #[PT (some ⟨cp,0,none⟩),.string ⟨#[102,108,111,119,115]⟩] w fun e w'=>e=rT (tU #[.string o,bL true])∧Below w.heap.size w w':=by
 have HC:=jH CF
 clear CF
 go_enter func27,ntmps27
 go_wp2_with fail
 refine HC.out.mono ?_
 rintro e w1 ⟨rfl,hb⟩
 have HB:=jH hb
 clear hb HC
 go_wp2_with fail
 go_ret2
 exact⟨rfl,HB.out⟩
theorem svs_get {l:List ByteArray}{j:Nat}{x:ByteArray}(h:l[j]? =some x):(svs l)[j]? =some (.string x):=by unfold svs;rw[List.getElem?_map,h];rfl
theorem line_ask (cp:Nat)(s x:ByteArray)(rest:List ByteArray)(o:ByteArray)(P:World→Prop)(w:World)(hs:s.size≤4000)(hm:ML w)(hl:rest.length≤1000)
  (hc:Lib.countB s ⟨#[32]⟩ + 1=(x::rest).length)(hsp:Lib.splitB ⟨#[32]⟩ 0 (Lib.countB s ⟨#[32]⟩) s=x::rest)(hne:∀y∈x::rest,(y.toList==[])=false)(hr:rest=[])
  (AS:∀W,Below w.heap.size w W→Calls Pg 27 #[PT (some ⟨cp,0,none⟩),.string x] W fun e w'=>e=rT (tU #[.string o,bL true])∧P w'):
  Calls Pg 13 #[PT (some ⟨cp,0,none⟩),.string s] w fun e w'=>e=rT (.string o)∧P w':=by
 have HA:=jH AS
 clear AS
 have hd:((rest.length:Int) + 1==1)=true:=by rw[hr];rfl
 clear hr
 obtain⟨ws,hws⟩:∃ws,ws=x::rest:=⟨_,rfl⟩
 rw[←hws] at hc hsp hne
 have CS:=jH (split_ok s ⟨#[32]⟩ ws w hs (by decide) hm hc hsp)
 have hx:=Blk.new w 9 (svs ws).toArray
 have hb:=(bR w.heap.size w).alloc (nR _) (cL (svs ws).toArray 9)
 have hlw:ws.length≤1001:=by rw[hws];simp;omega
 have HW:=jH (aI hws hne)
 clear hc hsp hm hws hne
 go_enter func13,ntmps13
 go_wp2_with fail
 refine CS.out.mono ?_
 rintro e w1 ⟨rfl,rfl⟩
 clear CS
 obtain⟨q,hq⟩:∃q,q=w.heap.size:=⟨_,rfl⟩
 rw[←hq] at hx hb⊢
 have HQ:=jH hq
 clear hq
 generalize w.alloc (cL (svs ws).toArray 9)=w1 at *
 have HX:=jH (aI hx hb)
 clear hx hb
 go_wp2_with fail
 go_loopg [5,19] ws.length (fun gk r i wr=>∃(j:Nat) (A2:Option Addr) (c2:Nat),r=G A2 j c2∧i=X Y j∧Hid (j + gk=ws.length)∧Hid (wr.ownsRow w1.heap.size 9 1 (G A2 j c2) j (svs (ws.take j)))∧Hid (Below w1.heap.size w1 wr))
 case atStart=>exact⟨0,none,0,rfl,rfl,(by show _=_;omega),World.ownsRow_nil _ _ _ _,bR _ _⟩
 case round=>
  obtain⟨j,A2,c2,rfl,rfl,hgk,hown,hbr⟩:=hrel
  by_cases hlt:j < ws.length
  ·obtain⟨y,hy⟩:∃y,ws[j]? =some y:=⟨_,List.getElem?_eq_getElem hlt⟩
   have hyne:=HW.out.2 y (List.mem_of_getElem? hy)
   have hc0:wr.cell? ⟨q,j,none⟩=some (.string y):=by
    have h1:=(HX.out.1.below hbr.out HX.out.1.lt).cell j
    rw[ga,svs_get hy] at h1
    exact h1
   have htk:svs (ws.take (j + 1))=svs (ws.take j)++[.string y]:=by rw[List.take_add_one,hy];simp[svs]
   have HT:=jH htk
   clear hy htk
   go_wp2_with (at_builtin;refine stop_ ?_)
   refine on_ ?_
   have hb5:Below wr.heap.size wr (wr.alloc (cL #[.string y] 9)):=(bR _ _).alloc (nR _) _
   refine wpList_append_s rfl (.tmp 25) (.tmp 27) _ rfl 9 _ infoStr rfl underlying82 w1.heap.size (G A2 j c2) j (svs (ws.take j)) rfl (own_below hown.out hb5) (wr.heap.size + 1) (some ⟨wr.heap.size,0,none⟩) 1 1 [.string y] rfl (reads_news _ _ _ _ 1 1 _ _ (by rfl) rfl rfl _ rfl) (by intro u hu;simp at hu;subst hu;rfl) (j + 1) rfl (by omega) (by have:=hbr.out.size;simp;omega) ?_
   intro A3 c3 w3 hown3 hb3 _ _
   have H3:Hid (w3.ownsRow w1.heap.size 9 1 (G A3 (j + 1) c3) (j + 1) (svs (ws.take (j + 1)))∧Below w1.heap.size w1 w3):=by
    rw[HT.out]
    exact⟨hown3,(hbr.out.trans (hb5.mono hbr.out.size)).trans hb3⟩
   clear hown3 hb3 hb5 hown hbr
   go_wp2_with fail
   go_roundg (gk - 1)
   case measure=>have:=hgk.out;omega
   case rel=>exact⟨j + 1,A3,c3,rfl,by go_num,(by show _=_;have:=hgk.out;omega),H3.out.1,H3.out.2⟩
  ·have hj:j=ws.length:=by have:=hgk.out;omega
   have hrow:Hid (wr.ownsRow w1.heap.size 9 1 (G A2 (rest.length + 1) c2) (rest.length + 1) (svs (x::rest))∧Below w.heap.size w wr):=by
    have h1:=hown.out
    rw[hj,List.take_of_length_le (nR _),HW.out.1] at h1
    exact⟨by simpa using h1,HQ.out▸(HX.out.2.trans (hbr.out.mono (by rw[HQ.out];exact HX.out.2.size)))⟩
   have hj2:j=rest.length + 1:=by rw[hj,HW.out.1];simp
   obtain⟨g,hA⟩:∃g,A2=some ⟨g,0,none⟩:=by
    obtain⟨g,h1,_,_⟩:=own_head hrow.out.1 (by omega)
    exact⟨g,h1⟩
   subst hA
   have hc1:wr.cell? ⟨g,0,none⟩=some (.string x):=own_cell1 hrow.out.1 (by simp[svs])
   have hlr:rest.length≤1000:=hl
   have hcap:=(own_capp hrow.out.1).1
   clear hown hbr hgk hj
   subst hj2
   go_wp2_with fail
   refine(HA.out wr hrow.out.2).mono ?_
   rintro e w4 ⟨rfl,hP⟩
   have HP:=jH hP
   clear hP hrow HA hc1
   go_wp2_with fail
   go_ret
   exact⟨rfl,HP.out⟩
theorem line_run (cp:Nat)(s x:ByteArray)(rest:List ByteArray)(o:ByteArray)(P:World→Prop)(w:World)(hs:s.size≤4000)(hm:ML w)(hl:rest.length≤1000)
  (hc:Lib.countB s ⟨#[32]⟩ + 1=(x::rest).length)(hsp:Lib.splitB ⟨#[32]⟩ 0 (Lib.countB s ⟨#[32]⟩) s=x::rest)(hne:∀y∈x::rest,(y.toList==[])=false)
  (AS:∀W,Below w.heap.size w W→Calls Pg 27 #[PT (some ⟨cp,0,none⟩),.string x] W fun e w'=>(∃(t:ByteArray) (b:Bool),e=rT (tU #[.string t,.bool b])∧(b=true→0 < rest.length))∧Below W.heap.size W w')
  (RN:∀W wp,Below w.heap.size w W→WordsAt W wp rest→w.heap.size≤wp→Calls Pg 28 #[PT (some ⟨cp,0,none⟩),.string x,PT (some ⟨wp,0,none⟩)] W fun e w'=>e=rT (.string o)∧P w'):
  Calls Pg 13 #[PT (some ⟨cp,0,none⟩),.string s] w fun e w'=>e=rT (.string o)∧P w':=by
 have HA:=jH AS
 have HR:=jH RN
 clear AS RN
 obtain⟨ws,hws⟩:∃ws,ws=x::rest:=⟨_,rfl⟩
 rw[←hws] at hc hsp hne
 have CS:=jH (split_ok s ⟨#[32]⟩ ws w hs (by decide) hm hc hsp)
 have hx:=Blk.new w 9 (svs ws).toArray
 have hb:=(bR w.heap.size w).alloc (nR _) (cL (svs ws).toArray 9)
 have hlw:ws.length≤1001:=by rw[hws];simp;omega
 have HW:=jH (aI hws hne)
 clear hc hsp hm hws hne
 go_enter func13,ntmps13
 go_wp2_with fail
 refine CS.out.mono ?_
 rintro e w1 ⟨rfl,rfl⟩
 clear CS
 obtain⟨q,hq⟩:∃q,q=w.heap.size:=⟨_,rfl⟩
 rw[←hq] at hx hb⊢
 have HQ:=jH hq
 clear hq
 generalize w.alloc (cL (svs ws).toArray 9)=w1 at *
 have HX:=jH (aI hx hb)
 clear hx hb
 go_wp2_with fail
 go_loopg [5,19] ws.length (fun gk r i wr=>∃(j:Nat) (A2:Option Addr) (c2:Nat),r=G A2 j c2∧i=X Y j∧Hid (j + gk=ws.length)∧Hid (wr.ownsRow w1.heap.size 9 1 (G A2 j c2) j (svs (ws.take j)))∧Hid (Below w1.heap.size w1 wr))
 case atStart=>exact⟨0,none,0,rfl,rfl,(by show _=_;omega),World.ownsRow_nil _ _ _ _,bR _ _⟩
 case round=>
  obtain⟨j,A2,c2,rfl,rfl,hgk,hown,hbr⟩:=hrel
  by_cases hlt:j < ws.length
  ·obtain⟨y,hy⟩:∃y,ws[j]? =some y:=⟨_,List.getElem?_eq_getElem hlt⟩
   have hyne:=HW.out.2 y (List.mem_of_getElem? hy)
   have hc0:wr.cell? ⟨q,j,none⟩=some (.string y):=by
    have h1:=(HX.out.1.below hbr.out HX.out.1.lt).cell j
    rw[ga,svs_get hy] at h1
    exact h1
   have htk:svs (ws.take (j + 1))=svs (ws.take j)++[.string y]:=by rw[List.take_add_one,hy];simp[svs]
   have HT:=jH htk
   clear hy htk
   go_wp2_with (at_builtin;refine stop_ ?_)
   refine on_ ?_
   have hb5:Below wr.heap.size wr (wr.alloc (cL #[.string y] 9)):=(bR _ _).alloc (nR _) _
   refine wpList_append_s rfl (.tmp 25) (.tmp 27) _ rfl 9 _ infoStr rfl underlying82 w1.heap.size (G A2 j c2) j (svs (ws.take j)) rfl (own_below hown.out hb5) (wr.heap.size + 1) (some ⟨wr.heap.size,0,none⟩) 1 1 [.string y] rfl (reads_news _ _ _ _ 1 1 _ _ (by rfl) rfl rfl _ rfl) (by intro u hu;simp at hu;subst hu;rfl) (j + 1) rfl (by omega) (by have:=hbr.out.size;simp;omega) ?_
   intro A3 c3 w3 hown3 hb3 _ _
   have H3:Hid (w3.ownsRow w1.heap.size 9 1 (G A3 (j + 1) c3) (j + 1) (svs (ws.take (j + 1)))∧Below w1.heap.size w1 w3):=by
    rw[HT.out]
    exact⟨hown3,(hbr.out.trans (hb5.mono hbr.out.size)).trans hb3⟩
   clear hown3 hb3 hb5 hown hbr
   go_wp2_with fail
   go_roundg (gk - 1)
   case measure=>have:=hgk.out;omega
   case rel=>exact⟨j + 1,A3,c3,rfl,by go_num,(by show _=_;have:=hgk.out;omega),H3.out.1,H3.out.2⟩
  ·have hj:j=ws.length:=by have:=hgk.out;omega
   have hrow:Hid (wr.ownsRow w1.heap.size 9 1 (G A2 (rest.length + 1) c2) (rest.length + 1) (svs (x::rest))∧Below w.heap.size w wr):=by
    have h1:=hown.out
    rw[hj,List.take_of_length_le (nR _),HW.out.1] at h1
    exact⟨by simpa using h1,HQ.out▸(HX.out.2.trans (hbr.out.mono (by rw[HQ.out];exact HX.out.2.size)))⟩
   have hj2:j=rest.length + 1:=by rw[hj,HW.out.1];simp
   obtain⟨g,hA⟩:∃g,A2=some ⟨g,0,none⟩:=by
    obtain⟨g,h1,_,_⟩:=own_head hrow.out.1 (by omega)
    exact⟨g,h1⟩
   subst hA
   have hc1:wr.cell? ⟨g,0,none⟩=some (.string x):=own_cell1 hrow.out.1 (by simp[svs])
   have hlr:rest.length≤1000:=hl
   have hcap:=(own_capp hrow.out.1).1
   clear hown hbr hgk hj
   subst hj2
   go_wp2_with fail
   refine(HA.out wr hrow.out.2).mono ?_
   rintro e w4 ⟨⟨t,b,rfl,hbl⟩,hb4⟩
   have H4:Hid (w4.ownsRow w1.heap.size 9 1 (G (some ⟨g,0,none⟩) (rest.length + 1) c2) (rest.length + 1) (svs (x::rest))∧Below w.heap.size w w4):=⟨own_below hrow.out.1 hb4,hrow.out.2.trans (hb4.mono hrow.out.2.size)⟩
   clear hb4 hrow HA hc1
   have hc4:w4.cell? ⟨g,0,none⟩=some (.string x):=own_cell1 H4.out.1 (by simp[svs])
   have hb1:b=true→((rest.length:Int) + 1==1)=false:=fun h=>by
    have:=hbl h
    simp
    omega
   have hreads:Reads w4 w4.heap.size 1 (some ⟨g,0,none⟩) (rest.length + 1) (svs (x::rest)):=Reads.of_own H4.out.1
   have hcut:=hreads.cut (k:=1) (by omega) hcap
   have hcut2:Reads w4 w4.heap.size 1 (if c2=1 then some ⟨g,0,none⟩ else (some (⟨g,0,none⟩:Addr)).map (·.add (1 * 1))) rest.length (svs rest):=by
    simp only[Nat.add_sub_cancel,Nat.mul_one,svs,List.map_cons,List.drop_succ_cons,List.drop_zero] at hcut
    exact hcut
   have hb2:b=true→rest=[]→False:=fun h1 h2=>by have:=hbl h1;rw[h2] at this;simp at this
   clear hcut hreads hbl
   by_cases hcc:c2=1
   ·have hr0:rest.length=0:=by omega
    have hnil:rest=[]:=List.eq_nil_of_length_eq_zero hr0
    subst hcc
    subst hnil
    clear hcut2
    have hcut2:Reads w4 w4.heap.size 1 (some ⟨g,0,none⟩) 0 (svs []):=⟨by simp[svs],fun h=>absurd h (by omega)⟩
    simp only[List.length_nil] at *
    have hbw:Below w4.heap.size w4 (w4.alloc (cL #[G (some ⟨g,0,none⟩) 0 0,bL false] 89)).drew:=((bR _ _).alloc (nR _) _).drew
    have hww:WordsAt (w4.alloc (cL #[G (some ⟨g,0,none⟩) 0 0,bL false] 89)).drew w4.heap.size []:=⟨some ⟨g,0,none⟩,0,(Blk.new w4 89 #[G (some ⟨g,0,none⟩) 0 0,bL false]).drew,(hcut2.alloc (nR _) _).drew,by simp⟩
    have CR:=jH (HR.out (w4.alloc (cL #[G (some ⟨g,0,none⟩) 0 0,bL false] 89)).drew w4.heap.size (H4.out.2.trans (hbw.mono H4.out.2.size)) hww H4.out.2.size)
    have g1:(w4.alloc (cL #[G (some ⟨g,0,none⟩) 0 0,bL false] 89)).drew.cell? ⟨g,0,none⟩=some (.string x):=(hbw.cell (World.block_lt_of_cell? w4 _ hc4)).trans hc4
    clear hbw hww hcut2 HR
    cases b with
    |true=>
     exact(hb2 rfl trivial).elim
    |false=>
     go_wp2_with fail
     have g0:w4.drew.cell? ⟨g,0,none⟩=some (.string x):=hc4
     go_region_with (go_at_call 28;(with_reducible refine CR.out.mono ?_);rintro e w5 ⟨rfl,hP⟩)
     all_goals
      have HP:=jH hP
      clear hP CR g0 g1 H4
      go_wp2_with fail
      go_ret
      exact⟨rfl,HP.out⟩
   ·rw[if_neg hcc] at hcut2
    simp only[Option.map_some,Addr.add_lit,Nat.mul_one,Nat.zero_add] at hcut2
    have hbw:Below w4.heap.size w4 (w4.alloc (cL #[G (some ⟨g,1,none⟩) rest.length (c2 - 1),bL false] 89)).drew:=((bR _ _).alloc (nR _) _).drew
    have hww:WordsAt (w4.alloc (cL #[G (some ⟨g,1,none⟩) rest.length (c2 - 1),bL false] 89)).drew w4.heap.size rest:=⟨some ⟨g,1,none⟩,c2 - 1,(Blk.new w4 89 #[G (some ⟨g,1,none⟩) rest.length (c2 - 1),bL false]).drew,(hcut2.alloc (nR _) _).drew,by omega⟩
    have CR:=jH (HR.out (w4.alloc (cL #[G (some ⟨g,1,none⟩) rest.length (c2 - 1),bL false] 89)).drew w4.heap.size (H4.out.2.trans (hbw.mono H4.out.2.size)) hww H4.out.2.size)
    have g1:(w4.alloc (cL #[G (some ⟨g,1,none⟩) rest.length (c2 - 1),bL false] 89)).drew.cell? ⟨g,0,none⟩=some (.string x):=(hbw.cell (World.block_lt_of_cell? w4 _ hc4)).trans hc4
    clear hbw hww hcut2 HR
    cases b with
    |true=>
     go_wp2_with fail
     have g0:w4.drew.cell? ⟨g,0,none⟩=some (.string x):=hc4
     go_region_with (go_at_call 28;(with_reducible refine CR.out.mono ?_);rintro e w5 ⟨rfl,hP⟩)
     all_goals
      have HP:=jH hP
      clear hP CR g0 g1 H4
      go_wp2_with fail
      go_ret
      exact⟨rfl,HP.out⟩
    |false=>
     go_wp2_with fail
     have g0:w4.drew.cell? ⟨g,0,none⟩=some (.string x):=hc4
     go_region_with (go_at_call 28;(with_reducible refine CR.out.mono ?_);rintro e w5 ⟨rfl,hP⟩)
     all_goals
      have HP:=jH hP
      clear hP CR g0 g1 H4
      go_wp2_with fail
      go_ret
      exact⟨rfl,HP.out⟩
end
section
open Go.RowKit
theorem cnew_ok (w:World):
  Calls Pg 12 #[] w fun e w'=>∃(cp base:Nat) (p:BP) (il:List It),e=rT (PT (some ⟨cp,0,none⟩))∧w.heap.size≤base∧Blk w' cp 80 #[PT (some ⟨p.bp,0,none⟩)]∧BalAt w' base p 13 8 30 200 20000 0 0 6 0 [] [] [] [] il 1∧Below w.heap.size w w':=by
 have CB:=jH (bnew_ok 13 8 30 200 20000 (by constructor<;>first|decide|omega))
 go_enter func12,ntmps12
 go_wp2_with fail
 refine(first_ok w).mono ?_
 rintro e w1 ⟨rfl,hb1⟩
 unfold cfgA at *
 go_wp2_with fail
 refine(CB.out w1).mono ?_
 rintro e w2 ⟨⟨base,p,il,rfl,hbs,hB⟩,hb2⟩
 have HX:=jH (aI hB (aI (nT hb1.size hbs) (hb1.trans (hb2.mono hb1.size))))
 clear hB hbs hb1 hb2 CB
 go_wp2_with fail
 go_ret
 obtain⟨g1,g2,g3⟩:=HX.out
 exact⟨w2.heap.size,base,p,il,rfl,g2,Blk.new w2 _ _,g1.made ((bR _ _).alloc (nR _) _),g3.alloc g3.size _⟩
theorem svs_get' {l:List ByteArray}{j:Nat}{x:ByteArray}(h:l[j]? =some x):(l.map Value.string)[j]? =some (.string x):=by rw[List.getElem?_map,h];rfl
theorem addr1_ok (w:World):Calls Pg 147 #[X Z 16909060] w fun e w'=>e=rT (.string ⟨#[49,46,50,46,51,46,52]⟩)∧Below w.heap.size w w':=by
 have N0:Hid (∀W:World,Calls Pg 61 #[X Y 1] W fun e w'=>e=rT (.string ⟨#[49]⟩)∧W=w'):=fun W=>itoa_ok 1 (by omega) W
 have N1:Hid (∀W:World,Calls Pg 61 #[X Y 2] W fun e w'=>e=rT (.string ⟨#[50]⟩)∧W=w'):=fun W=>itoa_ok 2 (by omega) W
 have N2:Hid (∀W:World,Calls Pg 61 #[X Y 3] W fun e w'=>e=rT (.string ⟨#[51]⟩)∧W=w'):=fun W=>itoa_ok 3 (by omega) W
 have N3:Hid (∀W:World,Calls Pg 61 #[X Y 4] W fun e w'=>e=rT (.string ⟨#[52]⟩)∧W=w'):=fun W=>itoa_ok 4 (by omega) W
 have b0:wrap64 (bits BinOp.and IntKind.u32 1 255)=1:=by kernel_rfl
 have b1:wrap64 (bits BinOp.and IntKind.u32 258 255)=2:=by kernel_rfl
 have b2:wrap64 (bits BinOp.and IntKind.u32 66051 255)=3:=by kernel_rfl
 have b3:wrap64 (bits BinOp.and IntKind.u32 16909060 255)=4:=by kernel_rfl
 go_enter func147,ntmps147
 go_wp2_with fail
 refine wp_loop_rounds 5 ?_
 rw[rounds_succ]
 go_wp2_with fail
 refine(N0.out w).mono ?_
 rintro e w' ⟨rfl,rfl⟩
 go_wp2_with (at_builtin;refine stop_ ?_)
 refine on_ ?_
 have hb0:Below w.heap.size w (w.alloc (cL #[.string ⟨#[49]⟩] 9)):=(bR _ _).alloc (nR _) _
 refine wpList_append_s rfl (.tmp 9) (.tmp 17) _ rfl 9 _ infoStr rfl underlying82 w.heap.size (G none 0 0) 0 [] rfl (World.ownsRow_nil _ _ _ _) (w.heap.size + 1) (some ⟨w.heap.size,0,none⟩) 1 1 [.string ⟨#[49]⟩] rfl (reads_news _ _ _ _ 1 1 _ _ (by rfl) rfl rfl _ rfl) (by intro u hu;simp at hu;subst hu;rfl) 1 rfl (by omega) (by simp) ?_
 intro A0 c0 wa0 hown hbw _ _
 have H0:Hid (wa0.ownsRow w.heap.size 9 1 (G A0 1 c0) 1 (([])++[.string ⟨#[49]⟩])∧Below w.heap.size w wa0):=⟨hown,((bR w.heap.size w).trans (hb0.mono (bR w.heap.size w).size)).trans hbw⟩
 clear hown hbw hb0 N0
 go_wp2_with fail
 rw[rounds_succ]
 go_wp2_with fail
 refine(N1.out wa0).mono ?_
 rintro e w' ⟨rfl,rfl⟩
 go_wp2_with (at_builtin;refine stop_ ?_)
 refine on_ ?_
 have hb1:Below wa0.heap.size wa0 (wa0.alloc (cL #[.string ⟨#[50]⟩] 9)):=(bR _ _).alloc (nR _) _
 refine wpList_append_s rfl (.tmp 9) (.tmp 17) _ rfl 9 _ infoStr rfl underlying82 w.heap.size (G A0 1 c0) 1 (([])++[.string ⟨#[49]⟩]) rfl (own_below H0.out.1 hb1) (wa0.heap.size + 1) (some ⟨wa0.heap.size,0,none⟩) 1 1 [.string ⟨#[50]⟩] rfl (reads_news _ _ _ _ 1 1 _ _ (by rfl) rfl rfl _ rfl) (by intro u hu;simp at hu;subst hu;rfl) 2 rfl (by omega) (by have:=H0.out.2.size;simp;omega) ?_
 intro A1 c1 wa1 hown hbw _ _
 have H1:Hid (wa1.ownsRow w.heap.size 9 1 (G A1 2 c1) 2 ((([])++[.string ⟨#[49]⟩])++[.string ⟨#[50]⟩])∧Below w.heap.size w wa1):=⟨hown,(H0.out.2.trans (hb1.mono H0.out.2.size)).trans hbw⟩
 clear hown hbw hb1 N1 H0
 go_wp2_with fail
 rw[rounds_succ]
 go_wp2_with fail
 refine(N2.out wa1).mono ?_
 rintro e w' ⟨rfl,rfl⟩
 go_wp2_with (at_builtin;refine stop_ ?_)
 refine on_ ?_
 have hb2:Below wa1.heap.size wa1 (wa1.alloc (cL #[.string ⟨#[51]⟩] 9)):=(bR _ _).alloc (nR _) _
 refine wpList_append_s rfl (.tmp 9) (.tmp 17) _ rfl 9 _ infoStr rfl underlying82 w.heap.size (G A1 2 c1) 2 ((([])++[.string ⟨#[49]⟩])++[.string ⟨#[50]⟩]) rfl (own_below H1.out.1 hb2) (wa1.heap.size + 1) (some ⟨wa1.heap.size,0,none⟩) 1 1 [.string ⟨#[51]⟩] rfl (reads_news _ _ _ _ 1 1 _ _ (by rfl) rfl rfl _ rfl) (by intro u hu;simp at hu;subst hu;rfl) 3 rfl (by omega) (by have:=H1.out.2.size;simp;omega) ?_
 intro A2 c2 wa2 hown hbw _ _
 have H2:Hid (wa2.ownsRow w.heap.size 9 1 (G A2 3 c2) 3 (((([])++[.string ⟨#[49]⟩])++[.string ⟨#[50]⟩])++[.string ⟨#[51]⟩])∧Below w.heap.size w wa2):=⟨hown,(H1.out.2.trans (hb2.mono H1.out.2.size)).trans hbw⟩
 clear hown hbw hb2 N2 H1
 go_wp2_with fail
 rw[rounds_succ]
 go_wp2_with fail
 refine(N3.out wa2).mono ?_
 rintro e w' ⟨rfl,rfl⟩
 go_wp2_with (at_builtin;refine stop_ ?_)
 refine on_ ?_
 have hb3:Below wa2.heap.size wa2 (wa2.alloc (cL #[.string ⟨#[52]⟩] 9)):=(bR _ _).alloc (nR _) _
 refine wpList_append_s rfl (.tmp 9) (.tmp 17) _ rfl 9 _ infoStr rfl underlying82 w.heap.size (G A2 3 c2) 3 (((([])++[.string ⟨#[49]⟩])++[.string ⟨#[50]⟩])++[.string ⟨#[51]⟩]) rfl (own_below H2.out.1 hb3) (wa2.heap.size + 1) (some ⟨wa2.heap.size,0,none⟩) 1 1 [.string ⟨#[52]⟩] rfl (reads_news _ _ _ _ 1 1 _ _ (by rfl) rfl rfl _ rfl) (by intro u hu;simp at hu;subst hu;rfl) 4 rfl (by omega) (by have:=H2.out.2.size;simp;omega) ?_
 intro A3 c3 wa3 hown hbw _ _
 have H3:Hid (wa3.ownsRow w.heap.size 9 1 (G A3 4 c3) 4 ((((([])++[.string ⟨#[49]⟩])++[.string ⟨#[50]⟩])++[.string ⟨#[51]⟩])++[.string ⟨#[52]⟩])∧Below w.heap.size w wa3):=⟨hown,(H2.out.2.trans (hb3.mono H2.out.2.size)).trans hbw⟩
 clear hown hbw hb3 N3 H2
 go_wp2_with fail
 rw[rounds_succ]
 go_wp2_with fail
 obtain⟨g,hA,_,_⟩:=own_head H3.out.1 (by omega)
 subst hA
 have hcl:∀(j:Nat) (x:ByteArray),([⟨#[49]⟩,⟨#[50]⟩,⟨#[51]⟩,⟨#[52]⟩]:List ByteArray)[j]? =some x→wa3.cell? ⟨g,0 + j,none⟩=some (.string x):=by
  intro j x hx
  rw[Nat.zero_add]
  exact own_cell1 H3.out.1 (svs_get' hx)
 have hcap:=(own_capp H3.out.1).1
 have hlt:g < wa3.heap.size:=World.block_lt_of_cell? wa3 _ (hcl 0 _ rfl)
 refine(sh_strings_Join g 0 c3 [⟨#[49]⟩,⟨#[50]⟩,⟨#[51]⟩,⟨#[52]⟩] ⟨#[46]⟩ wa3 hcl hlt (by decide) hcap (by decide)).mono ?_
 rintro e w9 ⟨rfl,hb⟩
 have H9:Hid (Below w.heap.size w w9):=H3.out.2.trans (hb.mono H3.out.2.size)
 clear hb hcl hcap hlt H3
 go_wp2_with fail
 go_ret
 exact⟨rfl,H9.out⟩
theorem addr2_ok (w:World):Calls Pg 147 #[X Z 101124105] w fun e w'=>e=rT (.string ⟨#[54,46,55,46,56,46,57]⟩)∧Below w.heap.size w w':=by
 have N0:Hid (∀W:World,Calls Pg 61 #[X Y 6] W fun e w'=>e=rT (.string ⟨#[54]⟩)∧W=w'):=fun W=>itoa_ok 6 (by omega) W
 have N1:Hid (∀W:World,Calls Pg 61 #[X Y 7] W fun e w'=>e=rT (.string ⟨#[55]⟩)∧W=w'):=fun W=>itoa_ok 7 (by omega) W
 have N2:Hid (∀W:World,Calls Pg 61 #[X Y 8] W fun e w'=>e=rT (.string ⟨#[56]⟩)∧W=w'):=fun W=>itoa_ok 8 (by omega) W
 have N3:Hid (∀W:World,Calls Pg 61 #[X Y 9] W fun e w'=>e=rT (.string ⟨#[57]⟩)∧W=w'):=fun W=>itoa_ok 9 (by omega) W
 have b0:wrap64 (bits BinOp.and IntKind.u32 6 255)=6:=by kernel_rfl
 have b1:wrap64 (bits BinOp.and IntKind.u32 1543 255)=7:=by kernel_rfl
 have b2:wrap64 (bits BinOp.and IntKind.u32 395016 255)=8:=by kernel_rfl
 have b3:wrap64 (bits BinOp.and IntKind.u32 101124105 255)=9:=by kernel_rfl
 go_enter func147,ntmps147
 go_wp2_with fail
 refine wp_loop_rounds 5 ?_
 rw[rounds_succ]
 go_wp2_with fail
 refine(N0.out w).mono ?_
 rintro e w' ⟨rfl,rfl⟩
 go_wp2_with (at_builtin;refine stop_ ?_)
 refine on_ ?_
 have hb0:Below w.heap.size w (w.alloc (cL #[.string ⟨#[54]⟩] 9)):=(bR _ _).alloc (nR _) _
 refine wpList_append_s rfl (.tmp 9) (.tmp 17) _ rfl 9 _ infoStr rfl underlying82 w.heap.size (G none 0 0) 0 [] rfl (World.ownsRow_nil _ _ _ _) (w.heap.size + 1) (some ⟨w.heap.size,0,none⟩) 1 1 [.string ⟨#[54]⟩] rfl (reads_news _ _ _ _ 1 1 _ _ (by rfl) rfl rfl _ rfl) (by intro u hu;simp at hu;subst hu;rfl) 1 rfl (by omega) (by simp) ?_
 intro A0 c0 wa0 hown hbw _ _
 have H0:Hid (wa0.ownsRow w.heap.size 9 1 (G A0 1 c0) 1 (([])++[.string ⟨#[54]⟩])∧Below w.heap.size w wa0):=⟨hown,((bR w.heap.size w).trans (hb0.mono (bR w.heap.size w).size)).trans hbw⟩
 clear hown hbw hb0 N0
 go_wp2_with fail
 rw[rounds_succ]
 go_wp2_with fail
 refine(N1.out wa0).mono ?_
 rintro e w' ⟨rfl,rfl⟩
 go_wp2_with (at_builtin;refine stop_ ?_)
 refine on_ ?_
 have hb1:Below wa0.heap.size wa0 (wa0.alloc (cL #[.string ⟨#[55]⟩] 9)):=(bR _ _).alloc (nR _) _
 refine wpList_append_s rfl (.tmp 9) (.tmp 17) _ rfl 9 _ infoStr rfl underlying82 w.heap.size (G A0 1 c0) 1 (([])++[.string ⟨#[54]⟩]) rfl (own_below H0.out.1 hb1) (wa0.heap.size + 1) (some ⟨wa0.heap.size,0,none⟩) 1 1 [.string ⟨#[55]⟩] rfl (reads_news _ _ _ _ 1 1 _ _ (by rfl) rfl rfl _ rfl) (by intro u hu;simp at hu;subst hu;rfl) 2 rfl (by omega) (by have:=H0.out.2.size;simp;omega) ?_
 intro A1 c1 wa1 hown hbw _ _
 have H1:Hid (wa1.ownsRow w.heap.size 9 1 (G A1 2 c1) 2 ((([])++[.string ⟨#[54]⟩])++[.string ⟨#[55]⟩])∧Below w.heap.size w wa1):=⟨hown,(H0.out.2.trans (hb1.mono H0.out.2.size)).trans hbw⟩
 clear hown hbw hb1 N1 H0
 go_wp2_with fail
 rw[rounds_succ]
 go_wp2_with fail
 refine(N2.out wa1).mono ?_
 rintro e w' ⟨rfl,rfl⟩
 go_wp2_with (at_builtin;refine stop_ ?_)
 refine on_ ?_
 have hb2:Below wa1.heap.size wa1 (wa1.alloc (cL #[.string ⟨#[56]⟩] 9)):=(bR _ _).alloc (nR _) _
 refine wpList_append_s rfl (.tmp 9) (.tmp 17) _ rfl 9 _ infoStr rfl underlying82 w.heap.size (G A1 2 c1) 2 ((([])++[.string ⟨#[54]⟩])++[.string ⟨#[55]⟩]) rfl (own_below H1.out.1 hb2) (wa1.heap.size + 1) (some ⟨wa1.heap.size,0,none⟩) 1 1 [.string ⟨#[56]⟩] rfl (reads_news _ _ _ _ 1 1 _ _ (by rfl) rfl rfl _ rfl) (by intro u hu;simp at hu;subst hu;rfl) 3 rfl (by omega) (by have:=H1.out.2.size;simp;omega) ?_
 intro A2 c2 wa2 hown hbw _ _
 have H2:Hid (wa2.ownsRow w.heap.size 9 1 (G A2 3 c2) 3 (((([])++[.string ⟨#[54]⟩])++[.string ⟨#[55]⟩])++[.string ⟨#[56]⟩])∧Below w.heap.size w wa2):=⟨hown,(H1.out.2.trans (hb2.mono H1.out.2.size)).trans hbw⟩
 clear hown hbw hb2 N2 H1
 go_wp2_with fail
 rw[rounds_succ]
 go_wp2_with fail
 refine(N3.out wa2).mono ?_
 rintro e w' ⟨rfl,rfl⟩
 go_wp2_with (at_builtin;refine stop_ ?_)
 refine on_ ?_
 have hb3:Below wa2.heap.size wa2 (wa2.alloc (cL #[.string ⟨#[57]⟩] 9)):=(bR _ _).alloc (nR _) _
 refine wpList_append_s rfl (.tmp 9) (.tmp 17) _ rfl 9 _ infoStr rfl underlying82 w.heap.size (G A2 3 c2) 3 (((([])++[.string ⟨#[54]⟩])++[.string ⟨#[55]⟩])++[.string ⟨#[56]⟩]) rfl (own_below H2.out.1 hb3) (wa2.heap.size + 1) (some ⟨wa2.heap.size,0,none⟩) 1 1 [.string ⟨#[57]⟩] rfl (reads_news _ _ _ _ 1 1 _ _ (by rfl) rfl rfl _ rfl) (by intro u hu;simp at hu;subst hu;rfl) 4 rfl (by omega) (by have:=H2.out.2.size;simp;omega) ?_
 intro A3 c3 wa3 hown hbw _ _
 have H3:Hid (wa3.ownsRow w.heap.size 9 1 (G A3 4 c3) 4 ((((([])++[.string ⟨#[54]⟩])++[.string ⟨#[55]⟩])++[.string ⟨#[56]⟩])++[.string ⟨#[57]⟩])∧Below w.heap.size w wa3):=⟨hown,(H2.out.2.trans (hb3.mono H2.out.2.size)).trans hbw⟩
 clear hown hbw hb3 N3 H2
 go_wp2_with fail
 rw[rounds_succ]
 go_wp2_with fail
 obtain⟨g,hA,_,_⟩:=own_head H3.out.1 (by omega)
 subst hA
 have hcl:∀(j:Nat) (x:ByteArray),([⟨#[54]⟩,⟨#[55]⟩,⟨#[56]⟩,⟨#[57]⟩]:List ByteArray)[j]? =some x→wa3.cell? ⟨g,0 + j,none⟩=some (.string x):=by
  intro j x hx
  rw[Nat.zero_add]
  exact own_cell1 H3.out.1 (svs_get' hx)
 have hcap:=(own_capp H3.out.1).1
 have hlt:g < wa3.heap.size:=World.block_lt_of_cell? wa3 _ (hcl 0 _ rfl)
 refine(sh_strings_Join g 0 c3 [⟨#[54]⟩,⟨#[55]⟩,⟨#[56]⟩,⟨#[57]⟩] ⟨#[46]⟩ wa3 hcl hlt (by decide) hcap (by decide)).mono ?_
 rintro e w9 ⟨rfl,hb⟩
 have H9:Hid (Below w.heap.size w w9):=H3.out.2.trans (hb.mono H3.out.2.size)
 clear hb hcl hcap hlt H3
 go_wp2_with fail
 go_ret
 exact⟨rfl,H9.out⟩
theorem proto_ok (w:World):Calls Pg 254 #[X Y 17] w fun e w'=>e=rT (.string ⟨#[117,100,112]⟩)∧w=w':=by
 go_enter func254,ntmps254
 go_wp2_with fail
 go_ret
 exact⟨rfl,rfl⟩
end
section
open Go.RowKit Go.Maps
theorem txS {W:World}{q:Nat}{t:TypeId}(h:Blk W q t #[X Z 16909060,X Z 101124105,X Y 17,X Y 5,X Y 53]):W.cell? ⟨q,0,none⟩=some (X Z 16909060)∧W.cell? ⟨q,1,none⟩=some (X Z 101124105)∧W.cell? ⟨q,2,none⟩=some (X Y 17)∧W.cell? ⟨q,3,none⟩=some (X Y 5)∧W.cell? ⟨q,4,none⟩=some (X Y 53):=⟨h.cell 0,h.cell 1,h.cell 2,h.cell 3,h.cell 4⟩
theorem text_ok (w:World):Calls Pg 146 #[aG #[X Z 16909060,X Z 101124105,X Y 17,X Y 5,X Y 53]] w fun e w'=>e=rT (.string ⟨#[117,100,112,32,49,46,50,46,51,46,52,58,53,62,54,46,55,46,56,46,57,58,53,51]⟩)∧Below w.heap.size w w':=by
 have I5:Hid (∀W:World,Calls Pg 61 #[X Y 5] W fun e w'=>e=rT (.string ⟨#[53]⟩)∧W=w'):=fun W=>itoa_ok 5 (by omega) W
 have I53:Hid (∀W:World,Calls Pg 61 #[X Y 53] W fun e w'=>e=rT (.string ⟨#[53,51]⟩)∧W=w'):=fun W=>itoa_ok 53 (by omega) W
 have hx:=Blk.new w 39 #[X Z 16909060,X Z 101124105,X Y 17,X Y 5,X Y 53]
 have hb:Below w.heap.size w (w.alloc (cL #[X Z 16909060,X Z 101124105,X Y 17,X Y 5,X Y 53] 39)).drew:=((bR w.heap.size w).alloc (nR _) _).drew
 have d0:=txS hx.drew
 have HX:=jH (aI hx.drew hb)
 have x0:=hx.cell 0
 clear hx hb x0
 go_enter func146,ntmps146
 go_wp2_with fail
 generalize (w.alloc (cL #[X Z 16909060,X Z 101124105,X Y 17,X Y 5,X Y 53] 39))=w1 at *
 go_region_held3 (fun wS=>wS.cell? ⟨w.heap.size,0,none⟩=some (X Z 16909060)∧wS.cell? ⟨w.heap.size,1,none⟩=some (X Z 101124105)∧wS.cell? ⟨w.heap.size,2,none⟩=some (X Y 17)∧wS.cell? ⟨w.heap.size,3,none⟩=some (X Y 5)∧wS.cell? ⟨w.heap.size,4,none⟩=some (X Y 53)) (first|with_reducible exact d0|with_reducible exact d1|with_reducible exact d2|fail)
  (first
   |(go_at_call 254;(with_reducible refine(proto_ok _).mono ?_);rintro e w' ⟨rfl,rfl⟩)
   |(go_at_call 147;(with_reducible refine(addr1_ok _).mono ?_);rintro e w2 ⟨rfl,hb2⟩;have k2:=HX.out.1.below hb2 HX.out.1.lt;have d1:=txS k2)
   |(go_at_call 147;(with_reducible refine(addr2_ok _).mono ?_);rintro e w3 ⟨rfl,hb3⟩;have k3:=k2.below hb3 k2.lt;have d2:=txS k3)
   |(go_at_call 61;(with_reducible refine(I5.out _).mono ?_);rintro e w' ⟨rfl,rfl⟩)
   |(go_at_call 61;(with_reducible refine(I53.out _).mono ?_);rintro e w' ⟨rfl,rfl⟩))
 have HF:Hid (Below w.heap.size w w3):=by
  have s1:=HX.out.2.size
  exact(HX.out.2.trans (hb2.mono s1)).trans (hb3.mono (nT s1 hb2.size))
 clear k2 k3 hb2 hb3 d0 d1 d2 HX
 go_wp2_with fail
 go_ret
 exact⟨by kernel_rfl,HF.out⟩
theorem awS {W:World}{q5:Nat}{t:TypeId}(h:Blk W q5 t #[X Z 16909060,X Z 101124105,X Y 17,X Y 5,X Y 53,X Y 2,X Y 1,X Y 0]):W.cell? ⟨q5,0,none⟩=some (X Z 16909060)∧W.cell? ⟨q5,1,none⟩=some (X Z 101124105)∧W.cell? ⟨q5,2,none⟩=some (X Y 17)∧W.cell? ⟨q5,3,none⟩=some (X Y 5)∧W.cell? ⟨q5,4,none⟩=some (X Y 53)∧W.cell? ⟨q5,5,none⟩=some (X Y 2)∧W.cell? ⟨q5,6,none⟩=some (X Y 1)∧W.cell? ⟨q5,7,none⟩=some (X Y 0):=⟨h.cell 0,h.cell 1,h.cell 2,h.cell 3,h.cell 4,h.cell 5,h.cell 6,h.cell 7⟩
theorem own_cast {W:World}{b n sz:Nat}{e:TypeId}{v:Value}{xs ys:List Value}(h:W.ownsRow b e sz v n xs)(hx:xs=ys):W.ownsRow b e sz v n ys:=hx▸h
def awF:Fl:=⟨⟨16909060,101124105,17,5,53⟩,2,1,0⟩
theorem cflows_ok (cp bp g:Nat)(w:World)(hc:Blk w cp 80 #[PT (some ⟨bp,0,none⟩)])
  (CS:Calls Pg 9 #[PT (some ⟨bp,0,none⟩)] w fun e w'=>(∃A1 n1 c1 A2 c2,e=rT (aG #[X Y g,G A1 n1 c1,G none 0 0,G A2 1 c2])∧w'.ownsRow w.heap.size 47 8 (G A2 1 c2) 1 (flvs [awF]))∧Below w.heap.size w w'):
  Calls Pg 63 #[PT (some ⟨cp,0,none⟩)] w fun e w'=>e=rT (.string ⟨#[117,100,112,32,49,46,50,46,51,46,52,58,53,62,54,46,55,46,56,46,57,58,53,51,61,50,47,49,64,48]⟩)∧Below w.heap.size w w':=by
 have k0:=hc.c1
 have hfd:∀(v0 v1 v2 v3:Value) W,(Instr.field 44 (aG #[v0,v1,v2,v3]) 3).run Pg W=.ok v3 W:=fun v0 v1 v2 v3 W=>by kernel_rfl
 have I2:Hid (∀W:World,Calls Pg 61 #[X Y 2] W fun e w'=>e=rT (.string ⟨#[50]⟩)∧W=w'):=fun W=>itoa_ok 2 (by omega) W
 have I1:Hid (∀W:World,Calls Pg 61 #[X Y 1] W fun e w'=>e=rT (.string ⟨#[49]⟩)∧W=w'):=fun W=>itoa_ok 1 (by omega) W
 have I0:Hid (∀W:World,Calls Pg 69 #[X Y 0,X Y 10] W fun e w'=>e=rT (.string ⟨#[48]⟩)∧W=w'):=fun W=>fmt_ok 0 (by omega) W
 have HC:=jH CS
 clear CS hc
 go_enter func63,ntmps63
 go_wp2_with fail
 refine HC.out.mono ?_
 rintro e w1 ⟨⟨A1,n1,c1,A2,c2,rfl,hown⟩,hb1⟩
 obtain⟨b,off,hA,hbl,hcl⟩:=(Reads.of_own hown).plain (by decide) (by decide)
 subst hA
 have y0:=hcl 0 (X Z 16909060) rfl
 have y1:=hcl 1 (X Z 101124105) rfl
 have y2:=hcl 2 (X Y 17) rfl
 have y3:=hcl 3 (X Y 5) rfl
 have y4:=hcl 4 (X Y 53) rfl
 have y5:=hcl 5 (X Y 2) rfl
 have y6:=hcl 6 (X Y 1) rfl
 have y7:=hcl 7 (X Y 0) rfl
 rw[Nat.add_zero] at y0
 have HB:=jH hb1
 clear hcl hown hb1 HC k0
 go_wp2_with fail
 refine wp_loop_rounds 2 ?_
 rw[rounds_succ]
 go_wp2_with fail
 obtain⟨q5,hq5⟩:∃q5,q5=w1.heap.size:=⟨_,rfl⟩
 have HX:(fun Vv:World=>Hid (Blk Vv q5 47 #[X Z 16909060,X Z 101124105,X Y 17,X Y 5,X Y 53,X Y 2,X Y 1,X Y 0]∧Below w.heap.size w Vv)) (w1.alloc (cL #[X Z 16909060,X Z 101124105,X Y 17,X Y 5,X Y 53,X Y 2,X Y 1,X Y 0] 47)):=⟨hq5▸Blk.new w1 _ _,HB.out.alloc HB.out.size _⟩
 rw[←hq5]
 clear hq5 HB y0 y1 y2 y3 y4 y5 y6 y7
 generalize (w1.alloc (cL #[X Z 16909060,X Z 101124105,X Y 17,X Y 5,X Y 53,X Y 2,X Y 1,X Y 0] 47))=w2 at *
 have d0:=awS HX.out.1.drew
 go_region_held3 (fun wS=>wS.cell? ⟨q5,0,none⟩=some (X Z 16909060)∧wS.cell? ⟨q5,1,none⟩=some (X Z 101124105)∧wS.cell? ⟨q5,2,none⟩=some (X Y 17)∧wS.cell? ⟨q5,3,none⟩=some (X Y 5)∧wS.cell? ⟨q5,4,none⟩=some (X Y 53)∧wS.cell? ⟨q5,5,none⟩=some (X Y 2)∧wS.cell? ⟨q5,6,none⟩=some (X Y 1)∧wS.cell? ⟨q5,7,none⟩=some (X Y 0)) (first|with_reducible exact d0|with_reducible exact d1|with_reducible exact d2 _|with_reducible exact d3|fail)
  (first
   |(go_at_call 146;(with_reducible refine(text_ok _).mono ?_);rintro e w3 ⟨rfl,hb3⟩;have k3:=HX.out.1.drew.below hb3 HX.out.1.lt;have d1:=awS k3;have d2:=fun o=>awS (k3.alloc o))
   |(go_at_call 61;(with_reducible refine(I2.out _).mono ?_);rintro e w' ⟨rfl,rfl⟩)
   |(go_at_call 61;(with_reducible refine(I1.out _).mono ?_);rintro e w' ⟨rfl,rfl⟩)
   |(go_at_call 69;(with_reducible refine(I0.out _).mono ?_);rintro e w' ⟨rfl,rfl⟩)
   |(refine step_append_k rfl (.tmp 17) (.tmp 36) _ rfl 1 16 9 _ infoStr rfl (by omega) (by omega) underlying82 w.heap.size (G none 0 0) 0 [] (by simp[Act.eval,Act.put]) (World.ownsRow_nil _ _ _ _) (w3.heap.size + 1) (some ⟨w3.heap.size,0,none⟩) 1 1 [_] (by simp[Act.eval,Act.put]) (reads_news _ _ _ _ 1 1 _ _ (by rfl) rfl rfl _ rfl) (by intro u hu;simp at hu;subst hu;rfl) 1 rfl (by omega) (by have h1:=HX.out.2.size;have h2:=hb3.size;have h4:w2.drew.heap.size=w2.heap.size:=rfl;rw[World.size_alloc];omega) ?_;intro A7 c7 w7 hown7 hb7 hg7 _;have d3:=awS ((k3.alloc _).grown hg7 (by simp[Value.ownBlock]))))
 have hown8:=own_cast (ys:=[.string ⟨#[117,100,112,32,49,46,50,46,51,46,52,58,53,62,54,46,55,46,56,46,57,58,53,51,61,50,47,49,64,48]⟩]) hown7 (by kernel_rfl)
 have HY:Hid (Below w.heap.size w w7):=by
  have h1:=HX.out.2.size
  have h2:=hb3.size
  have h4:w2.drew.heap.size=w2.heap.size:=rfl
  exact(((HX.out.2.drew).trans (hb3.mono (by omega))).trans ((bR w.heap.size w3).alloc (by omega) _)).trans hb7
 obtain⟨b7,o7,hA7,hbl7,hcl7⟩:=(Reads.of_own hown8).plain (by decide) (by decide)
 subst hA7
 have hcap:=(own_capp hown8).1
 have CJ:=jH (sh_strings_Join b7 o7 c7 [⟨#[117,100,112,32,49,46,50,46,51,46,52,58,53,62,54,46,55,46,56,46,57,58,53,51,61,50,47,49,64,48]⟩] ⟨#[59,32]⟩ w7 (fun j x hx=>hcl7 j _ (by
  match j,hx with
  |0,hx=>injection hx with hx;subst hx;rfl
  |j + 1,hx=>simp at hx)) hbl7 (by decide) hcap (by decide))
 clear hown7 hown8 hb7 hg7 hb3 k3 d0 d1 d2 d3 HX hcl7 hbl7 hcap I0 I1 I2
 go_wp2_with fail
 rw[rounds_succ]
 go_wp2_with fail
 refine CJ.out.mono ?_
 rintro e w9 ⟨rfl,hb9⟩
 have HZ:Hid (Below w.heap.size w w9):=HY.out.trans (hb9.mono HY.out.size)
 clear hb9 HY CJ
 go_wp2_with fail
 go_ret
 exact⟨by kernel_rfl,HZ.out⟩
end
section
open Go.RowKit Go.Maps
def be2:Be:=⟨((2:Nat):Int),adN 10 0 0 1,((1:Nat):Int)⟩
def kA:Tu:=⟨16909060,101124105,17,5,53⟩
theorem be2_ok:BesOk [be2]:=fun b hb=>by
 rw[List.mem_singleton] at hb
 subst hb
 exact⟨by decide,by decide,by decide⟩
theorem be2_may:MayBs [be2].length [be2]:=⟨by decide,fun j hj=>by
 obtain rfl:j=0:=by simp at hj;omega
 exact⟨by decide,by decide,by decide,by decide,by decide,fun h=>absurd h (by decide)⟩⟩
section
variable {w:World}{base cp:Nat}{p:BP}{il:List It}
theorem ML.fr {w w':World}{K:List TypeId}{M:List Nat}{base:Nat}(h:ML w)(hf:Fr K M base w w')(h0:0 < base):ML w':=h.below hf.below h0
theorem aw_gen (hm:ML w)(h0:0 < base)(hc:Blk w cp 80 #[PT (some ⟨p.bp,0,none⟩)])(h:BalAt w base p 13 8 30 200 20000 0 0 6 0 [] [] [] [] il 1):
  Calls Pg 13 #[PT (some ⟨cp,0,none⟩),.string ⟨#[103,101,110,32,50,64,49,48,46,48,46,48,46,49,42,49]⟩] w fun e w'=>e=rT (.string ⟨#[111,107]⟩)∧BalAt w' base p 13 8 30 200 20000 (0 + 1) 0 (6 + 1) 0 ([]++frameB 3 3 (genB (0 + 1) [be2])) [be2] [] [] il (1 + 1)∧Fr KB p.maps base w w':=by
 refine line_run cp ⟨#[103,101,110,32,50,64,49,48,46,48,46,48,46,49,42,49]⟩ ⟨#[103,101,110]⟩ [⟨#[50,64,49,48,46,48,46,48,46,49,42,49]⟩] ⟨#[111,107]⟩ (fun w'=>BalAt w' base p 13 8 30 200 20000 (0 + 1) 0 (6 + 1) 0 ([]++frameB 3 3 (genB (0 + 1) [be2])) [be2] [] [] il (1 + 1)∧Fr KB p.maps base w w') w (by decide) hm (by decide) (by decide +kernel) (by decide +kernel) (by decide +kernel) ?_ ?_
 ·intro W hW
  refine(asked_gen cp p.bp 0 (by decide) W (hc.below hW hc.lt) ?_).mono ?_
  ·refine(bal_state (h.made hW)).mono ?_
   rintro e w' ⟨A',c',v,fs,rfl,-,-,ho,hb⟩
   obtain⟨A2,c2,rfl⟩:=own_slice ho
   exact⟨⟨A',_,c',A2,_,c2,rfl⟩,hb⟩
  ·rintro e w' ⟨⟨t,rfl⟩,hb⟩
   exact⟨⟨t,true,rfl,fun _=>by decide⟩,hb⟩
 ·intro W wp hW hwd hwp
  refine run_gen cp wp ⟨#[111,107]⟩ (fun A c W2=>W2.ownsRow W.heap.size 34 3 (G A 1 c) 1 (bks [be2])∧WordsAt W2 wp []∧Below wp W W2) _ W ?_ ?_
  ·refine(wbackends_ok wp ⟨#[50,64,49,48,46,48,46,48,46,49,42,49]⟩ be2 W hwd (fun W2 hW2=>?_)).mono ?_
   ·exact gparse_ok ⟨#[50,64,49,48,46,48,46,48,46,49,42,49]⟩ ⟨#[49,48,46,48,46,48,46,49,42,49]⟩ ⟨#[49,48,46,48,46,48,46,49]⟩ 2 1 (adN 10 0 0 1) (by decide) (by decide) (by decide) (by decide) W2 ((hm.below hW (by have:=hm.lt;omega)).below hW2 (by have:=hm.lt;omega)) (by decide) (by decide) (by decide +kernel) (by decide +kernel) (by decide +kernel) (by decide +kernel) (by decide +kernel) (fun W hW=>paddr_ok ⟨#[49,48,46,48,46,48,46,49]⟩ 10 0 0 1 (by decide) (by decide) (by decide) (by decide) W hW (by decide) (by decide +kernel) (by decide +kernel))
   ·rintro e w' ⟨A,c,rfl,q1,q2,q3⟩
    exact⟨A,c,rfl,q1,q2,q3⟩
  ·rintro A c W2 ⟨q1,q2,q3⟩
   have hW2:Below w.heap.size w W2:=hW.trans (q3.mono hwp)
   refine(cstep_ok base cp p.bp wp _ _ _ _ _ _ _ (fun w'=>BalAt w' base p 13 8 30 200 20000 (0 + 1) 0 (6 + 1) 0 ([]++frameB 3 3 (genB (0 + 1) [be2])) [be2] [] [] il (1 + 1)) KB p.maps W2 (hc.below hW2 hc.lt) q2 (nT h.hi hW2.size) (by decide) (by decide) (by decide) (fun a b ha hf=>ha.fr hf (by decide)) (fun W3 hW3=>?_)).mono ?_
   ·refine top_gen ((h.made hW2).made hW3) A 1 c [be2] (by decide) be2_ok be2_may (by decide) (by decide) (.inl rfl) (by decide) (by decide) (fun W4 hW4=>?_)
    have hb34:Below W2.heap.size W2 W4:=hW3.trans (hW4.mono hW3.size)
    have q4:=own_below q1 hb34
    exact gsort1 A c W4.heap.size be2 W4 (Reads.of_own q4) (nR _) (own_capp q4).1 (fun e=>own_nilz q4 e)
   ·rintro e w' ⟨rfl,g1,g2⟩
    exact⟨rfl,g1,(Fr.of_below _ _ hW2 h.hi).trans g2⟩
theorem aw_send {ops:Nat}{L:List Nat}{made:Int}(hops:ops≤1000)(hL:L.length≤100)(hm:ML w)(h0:0 < base)(hc:Blk w cp 80 #[PT (some ⟨p.bp,0,none⟩)])(h:BalAt w base p 13 8 30 200 20000 1 0 ops 0 L [be2] [] [] il made):
  Calls Pg 13 #[PT (some ⟨cp,0,none⟩),.string ⟨#[115,101,110,100,32,117,100,112,32,49,46,50,46,51,46,52,58,53,62,54,46,55,46,56,46,57,58,53,51]⟩] w fun e w'=>e=rT (.string ⟨#[116,111,32,50]⟩)∧(∃l',BalAt w' base p 13 8 30 200 20000 1 0 (ops + 1) 0 (L++frameB 1 3 (putB awF)) [be2] (mput [] kA awF) (mput [] kA awF) l' made)∧Fr KB p.maps base w w':=by
 refine line_run cp ⟨#[115,101,110,100,32,117,100,112,32,49,46,50,46,51,46,52,58,53,62,54,46,55,46,56,46,57,58,53,51]⟩ ⟨#[115,101,110,100]⟩ [⟨#[117,100,112]⟩,⟨#[49,46,50,46,51,46,52,58,53,62,54,46,55,46,56,46,57,58,53,51]⟩] ⟨#[116,111,32,50]⟩ (fun w'=>(∃l',BalAt w' base p 13 8 30 200 20000 1 0 (ops + 1) 0 (L++frameB 1 3 (putB awF)) [be2] (mput [] kA awF) (mput [] kA awF) l' made)∧Fr KB p.maps base w w') w (by decide) hm (by decide) (by decide +kernel) (by decide +kernel) (by decide +kernel) ?_ ?_
 ·intro W hW
  refine(asked_send cp W).mono ?_
  rintro e w' ⟨rfl,rfl⟩
  exact⟨⟨_,false,rfl,fun h=>by cases h⟩,bR _ _⟩
 ·intro W wp hW hwd hwp
  refine run_send cp wp ⟨#[116,111,32,50]⟩ kA.vals (fun W2=>WordsAt W2 wp []∧Below wp W W2) (fun A n c W3=>n=(mkB kA 64).length∧(∃B,wp≤B∧W3.ownsRow B 5 1 (G A n c) n (bv (mkB kA 64)))∧WordsAt W3 wp []∧Below wp W W3) _ W ?_ ?_ ?_
  ·refine wtuple_ok wp ⟨#[117,100,112]⟩ ⟨#[49,46,50,46,51,46,52,58,53,62,54,46,55,46,56,46,57,58,53,51]⟩ 16909060 101124105 17 5 53 W hwd (by decide) (fun W2 hW2=>?_)
   have hm2:ML W2:=(hm.below hW (by have:=hm.lt;omega)).below hW2 (by have:=hm.lt;omega)
   exact tparse_ok ⟨#[117,100,112,32,49,46,50,46,51,46,52,58,53,62,54,46,55,46,56,46,57,58,53,51]⟩ ⟨#[49,46,50,46,51,46,52,58,53,62,54,46,55,46,56,46,57,58,53,51]⟩ ⟨#[49,46,50,46,51,46,52,58,53]⟩ ⟨#[54,46,55,46,56,46,57,58,53,51]⟩ (adN 1 2 3 4) (adN 6 7 8 9) 5 53 W2 hm2 (by decide) (by decide) (by decide) (by decide +kernel) (by decide +kernel)
    (fun W hW=>tend_ok ⟨#[49,46,50,46,51,46,52,58,53]⟩ ⟨#[49,46,50,46,51,46,52]⟩ (adN 1 2 3 4) 5 (by decide) W hW (by decide) (by decide +kernel) (fun W hW=>paddr_ok ⟨#[49,46,50,46,51,46,52]⟩ 1 2 3 4 (by decide) (by decide) (by decide) (by decide) W hW (by decide) (by decide +kernel) (by decide +kernel)))
    (fun W hW=>tend_ok ⟨#[54,46,55,46,56,46,57,58,53,51]⟩ ⟨#[54,46,55,46,56,46,57]⟩ (adN 6 7 8 9) 53 (by decide) W hW (by decide) (by decide +kernel) (fun W hW=>paddr_ok ⟨#[54,46,55,46,56,46,57]⟩ 6 7 8 9 (by decide) (by decide) (by decide) (by decide) W hW (by decide) (by decide +kernel) (by decide +kernel)))
  ·rintro W2 ⟨q1,q2⟩
   refine(cpacket_ok 16909060 101124105 5 53 (by decide) (by decide) W2).mono ?_
   rintro e w' ⟨A,N,c,rfl,e1,e2,e3⟩
   have hlt:=q1.lt
   exact⟨A,N,c,rfl,e1,⟨_,Nat.le_of_lt hlt,e2⟩,q1.below e3,q2.trans (e3.mono (Nat.le_of_lt hlt))⟩
  ·rintro A n c W3 ⟨rfl,⟨B,hB,ho⟩,q1,q2⟩
   have hW3:Below w.heap.size w W3:=hW.trans (q2.mono hwp)
   have hh:=h.made hW3
   obtain⟨bid,⟨b,hb1,hb2,hb3⟩,hfo,HD⟩:=top_new hh kA 64 ⟨by decide,by decide,by decide,by decide,by decide⟩ (by decide) (by decide) (by decide) A _ c W3.heap.size (Reads.of_own ho) (nR _) (own_capp ho).1 rfl (by decide) (by decide) (by decide) (by decide) (by decide) (by omega) (.inr (by omega)) (by omega) (by omega)
   obtain rfl:bid=2:=by
    rw[List.mem_singleton] at hb1
    subst hb1
    have:(2:Int)=(bid:Int):=hb3
    omega
   refine(csent_ok base cp p.bp wp 2 (by decide) A _ c (fun w'=>∃l',BalAt w' base p 13 8 30 200 20000 1 0 (ops + 1) 0 (L++frameB 1 3 (putB awF)) [be2] (mput [] kA awF) (mput [] kA awF) l' made) KB p.maps W3 (hc.below hW3 hc.lt) q1 (nT h.hi hW3.size) (fun a b ⟨l',ha⟩ hf=>⟨l',ha.fr hf (by decide)⟩) ?_).mono ?_
   ·refine HD.mono ?_
    rintro e w' ⟨g1,⟨l',g2,g3⟩,g4⟩
    exact⟨g1,⟨l',g3⟩,g4⟩
   ·rintro e w' ⟨rfl,g1,g2⟩
    exact⟨rfl,g1,(Fr.of_below _ _ hW3 h.hi).trans g2⟩
theorem aw_sync {gen now ops s:Nat}{L:List Nat}{bl:List Be}{fms fm:List (Tu×Fl)}{made:Int}(hops:ops≤1000)(hfms:fms.length≤1000)(hm:ML w)(h0:0 < base)(hc:Blk w cp 80 #[PT (some ⟨p.bp,0,none⟩)])(h:BalAt w base p 13 8 30 200 20000 gen now ops s L bl fms fm il made):
  Calls Pg 13 #[PT (some ⟨cp,0,none⟩),.string ⟨#[115,121,110,99]⟩] w fun e w'=>e=rT (.string ⟨#[111,107]⟩)∧BalAt w' base p 13 8 30 200 20000 gen now (ops + 1) L.length L bl fms fm il made∧Fr KS p.maps base w w':=by
 refine line_run cp ⟨#[115,121,110,99]⟩ ⟨#[115,121,110,99]⟩ [] ⟨#[111,107]⟩ (fun w'=>BalAt w' base p 13 8 30 200 20000 gen now (ops + 1) L.length L bl fms fm il made∧Fr KS p.maps base w w') w (by decide) hm (by decide) (by decide +kernel) (by decide +kernel) (by decide +kernel) ?_ ?_
 ·intro W hW
  refine(asked_sync cp W).mono ?_
  rintro e w' ⟨rfl,rfl⟩
  exact⟨⟨_,false,rfl,fun h=>by cases h⟩,bR _ _⟩
 ·intro W wp hW hwd hwp
  refine run_sync cp wp ⟨#[111,107]⟩ _ W ?_
  refine(cstep_ok base cp p.bp wp _ _ _ _ _ _ _ (fun w'=>BalAt w' base p 13 8 30 200 20000 gen now (ops + 1) L.length L bl fms fm il made) KS p.maps W (hc.below hW hc.lt) hwd (nT h.hi hW.size) (by decide) (by decide) (by decide) (fun a b ha hf=>ha.fr hf (by decide)) (fun W3 hW3=>top_sync ((h.made hW).made hW3) (by omega) (by omega))).mono ?_
  rintro e w' ⟨rfl,g1,g2⟩
  exact⟨rfl,g1,(Fr.of_below _ _ hW h.hi).trans g2⟩
theorem aw_crash {gen now ops:Nat}{L:List Nat}{bl:List Be}{fms fm:List (Tu×Fl)}{made:Int}(rs:List RecS)(g':Nat)(bl':List Be)(f':Fl)(hrs:recSt rs=(g',bl',[(f'.k,f')]))(hL:L=logB 3 (rs.map RecS.fr))(hok:∀r∈rs,r.Ok)(hlen:rs.length≤200)(hfr:FrOk (rs.map RecS.fr))(hfok:FlOk f')(hb16:bl'.length≤16)(hnow:now≤1099511627776)(hops:ops≤1000)(hm:ML w)(h0:0 < base)(hc:Blk w cp 80 #[PT (some ⟨p.bp,0,none⟩)])(h:BalAt w base p 13 8 30 200 20000 gen now ops L.length L bl fms fm il made):
  Calls Pg 13 #[PT (some ⟨cp,0,none⟩),.string ⟨#[99,114,97,115,104,32,45]⟩] w fun e w'=>e=rT (.string ⟨#[111,107]⟩)∧(∃p' il',p'.bp=p.bp∧BalAt w' base p' 13 8 30 200 20000 g' now (ops + 2) L.length L bl' [(f'.k,f')] (flm (seenAt now [f'])) il' 1)∧Fr KC [] base w w':=by
 refine line_run cp ⟨#[99,114,97,115,104,32,45]⟩ ⟨#[99,114,97,115,104]⟩ [⟨#[45]⟩] ⟨#[111,107]⟩ (fun w'=>(∃p' il',p'.bp=p.bp∧BalAt w' base p' 13 8 30 200 20000 g' now (ops + 2) L.length L bl' [(f'.k,f')] (flm (seenAt now [f'])) il' 1)∧Fr KC [] base w w') w (by decide) hm (by decide) (by decide +kernel) (by decide +kernel) (by decide +kernel) ?_ ?_
 ·intro W hW
  refine(asked_crash cp W).mono ?_
  rintro e w' ⟨rfl,rfl⟩
  exact⟨⟨_,false,rfl,fun h=>by cases h⟩,bR _ _⟩
 ·intro W wp hW hwd hwp
  refine run_crash cp wp ⟨#[111,107]⟩ (fun W2=>WordsAt W2 wp []∧Below wp W W2) _ W (wbytes_ok wp W hwd) ?_
  rintro W2 ⟨q1,q2⟩
  have hW2:Below w.heap.size w W2:=hW.trans (q2.mono hwp)
  refine(cstep_ok base cp p.bp wp _ _ _ _ _ _ _ (fun w'=>∃p' il',p'.bp=p.bp∧BalAt w' base p' 13 8 30 200 20000 g' now (ops + 2) L.length L bl' [(f'.k,f')] (flm (seenAt now [f'])) il' 1) KC [] W2 (hc.below hW2 hc.lt) q1 (nT h.hi hW2.size) (by decide) (by decide) (by decide) (fun a b ⟨p',il',q1,ha⟩ hf=>⟨p',il',q1,ha.fr hf (by decide)⟩) (fun W3 hW3=>?_)).mono ?_
  ·refine(top_crash ((h.made hW2).made hW3) rs hL hok hlen hfr (by decide) (by decide) (by omega) (by rw[hrs];simpa using hfok) (by rw[hrs];simp) (by rw[hrs];simp) hnow (by rw[hrs];exact hb16) (by decide) (by decide) (by decide) (by decide)).mono ?_
   rintro e w' ⟨rfl,⟨p',il',fs,g1,g2,g3⟩,g4⟩
   rw[hrs] at g2 g3
   obtain rfl:fs=[f']:=List.perm_singleton.1 g2
   exact⟨rfl,⟨p',il',g1,g3⟩,g4⟩
  ·rintro e w' ⟨rfl,g1,g2⟩
   exact⟨rfl,g1,(Fr.of_below _ _ hW2 h.hi).trans g2⟩
theorem aw_flows {gen now ops s:Nat}{L:List Nat}{bl:List Be}{fms:List (Tu×Fl)}{made:Int}(hm:ML w)(hc:Blk w cp 80 #[PT (some ⟨p.bp,0,none⟩)])(h:BalAt w base p 13 8 30 200 20000 gen now ops s L bl fms (flm [awF]) il made):
  Calls Pg 13 #[PT (some ⟨cp,0,none⟩),.string ⟨#[102,108,111,119,115]⟩] w fun e w'=>e=rT (.string ⟨#[117,100,112,32,49,46,50,46,51,46,52,58,53,62,54,46,55,46,56,46,57,58,53,51,61,50,47,49,64,48]⟩)∧Below w.heap.size w w':=by
 refine line_ask cp ⟨#[102,108,111,119,115]⟩ ⟨#[102,108,111,119,115]⟩ [] ⟨#[117,100,112,32,49,46,50,46,51,46,52,58,53,62,54,46,55,46,56,46,57,58,53,51,61,50,47,49,64,48]⟩ (fun w'=>Below w.heap.size w w') w (by decide) hm (by decide) (by decide +kernel) (by decide +kernel) (by decide +kernel) rfl ?_
 intro W hW
 refine(asked_flows cp ⟨#[117,100,112,32,49,46,50,46,51,46,52,58,53,62,54,46,55,46,56,46,57,58,53,51,61,50,47,49,64,48]⟩ W ?_).mono ?_
 ·refine(cflows_ok cp p.bp gen W (hc.below hW hc.lt) ((bal_state (h.made hW)).mono ?_))
  rintro e w' ⟨A',c',v,fs,rfl,-,g2,ho,hb⟩
  obtain rfl:fs=[awF]:=List.perm_singleton.1 g2
  obtain⟨A2,c2,rfl⟩:=own_slice ho
  exact⟨⟨A',_,c',A2,c2,rfl,ho⟩,hb⟩
 ·rintro e w' ⟨rfl,hb⟩
  exact⟨rfl,hW.trans (hb.mono hW.size)⟩
end
end
section
open Go.RowKit Go.Maps
def awR:List RecS:=[.gen 1 [be2],.put awF]
theorem awR_st:recSt awR=(1,[be2],[(kA,awF)]):=rfl
theorem awF_ok:FlOk awF:=⟨⟨by decide,by decide,by decide,by decide,by decide⟩,by decide,by decide,by decide,by decide⟩
theorem awR_ok:∀r∈awR,r.Ok:=fun r hr=>by
 simp only[awR,List.mem_cons,List.not_mem_nil,or_false] at hr
 rcases hr with rfl|rfl
 ·exact⟨by decide,be2_ok,be2_may⟩
 ·exact awF_ok
theorem awR_fr:FrOk (awR.map RecS.fr):=fun f hf=>by
 simp only[awR,List.map_cons,List.map_nil,List.mem_cons,List.not_mem_nil,or_false] at hf
 rcases hf with rfl|rfl
 ·exact⟨by decide,by decide,by decide,genB_all _ _⟩
 ·exact⟨by decide,by decide,by decide,putB_all _⟩
theorem awake_ok (w:World)(hm:ML w):Calls Pg 5 #[] w fun e w'=>e=rT (bL true)∧Below w.heap.size w w':=by
 have hlt:=hm.lt
 have HM:=jH hm
 have CN:=jH (cnew_ok w)
 clear hm
 go_enter func5,ntmps5
 go_wp2_with fail
 refine CN.out.mono ?_
 rintro e w1 ⟨cp,base,p,il,rfl,hle,hc,hb,hb1⟩
 have H1:Hid (w.heap.size≤base∧Blk w1 cp 80 #[PT (some ⟨p.bp,0,none⟩)]∧BalAt w1 base p 13 8 30 200 20000 0 0 6 0 [] [] [] [] il 1∧Below w.heap.size w w1∧ML w1∧0 < base):=⟨hle,hc,hb,hb1,HM.out.below hb1 hlt,by omega⟩
 clear hle hc hb hb1 CN hlt
 go_wp2_with fail
 refine(aw_gen H1.out.2.2.2.2.1 H1.out.2.2.2.2.2 H1.out.2.1 H1.out.2.2.1).mono ?_
 rintro e w2 ⟨rfl,hb2,hf2⟩
 obtain⟨L1,hL1,hl1⟩:∃L1,L1=[]++frameB 3 3 (genB (0 + 1) [be2])∧L1.length≤100:=⟨_,rfl,by rw[List.nil_append,frameB_length,genB_length];decide⟩
 rw[←hL1] at hb2
 have H2:Hid (Blk w2 cp 80 #[PT (some ⟨p.bp,0,none⟩)]∧BalAt w2 base p 13 8 30 200 20000 1 0 7 0 L1 [be2] [] [] il 2∧Below base w1 w2∧ML w2∧L1=[]++frameB 3 3 (genB (0 + 1) [be2])):=⟨hf2.blk _ _ _ H1.out.2.1 (by decide),hb2,hf2.below,H1.out.2.2.2.2.1.fr hf2 H1.out.2.2.2.2.2,hL1⟩
 clear hb2 hf2 hL1
 go_wp2_with fail
 refine(aw_send (by decide) hl1 H2.out.2.2.2.1 H1.out.2.2.2.2.2 H2.out.1 H2.out.2.1).mono ?_
 rintro e w3 ⟨rfl,⟨l',hb3⟩,hf3⟩
 have H3:Hid (Blk w3 cp 80 #[PT (some ⟨p.bp,0,none⟩)]∧BalAt w3 base p 13 8 30 200 20000 1 0 8 0 (L1++frameB 1 3 (putB awF)) [be2] (mput [] kA awF) (mput [] kA awF) l' 2∧Below base w2 w3∧ML w3):=⟨hf3.blk _ _ _ H2.out.1 (by decide),hb3,hf3.below,H2.out.2.2.2.1.fr hf3 H1.out.2.2.2.2.2⟩
 clear hb3 hf3
 go_wp2_with fail
 refine(aw_sync (by decide) (by decide) H3.out.2.2.2 H1.out.2.2.2.2.2 H3.out.1 H3.out.2.1).mono ?_
 rintro e w4 ⟨rfl,hb4,hf4⟩
 have H4:Hid (Blk w4 cp 80 #[PT (some ⟨p.bp,0,none⟩)]∧BalAt w4 base p 13 8 30 200 20000 1 0 9 (L1++frameB 1 3 (putB awF)).length (L1++frameB 1 3 (putB awF)) [be2] (mput [] kA awF) (mput [] kA awF) l' 2∧Below base w3 w4∧ML w4):=⟨hf4.blk _ _ _ H3.out.1 (by decide),hb4,hf4.below,H3.out.2.2.2.fr hf4 H1.out.2.2.2.2.2⟩
 clear hb4 hf4
 go_wp2_with fail
 refine(aw_crash awR 1 [be2] awF awR_st (by rw[H2.out.2.2.2.2];simp[awR,logB,RecS.fr]) awR_ok (by decide) awR_fr awF_ok (by decide) (by decide) (by decide) H4.out.2.2.2 H1.out.2.2.2.2.2 H4.out.1 H4.out.2.1).mono ?_
 rintro e w5 ⟨rfl,⟨p',il',hp',hb5⟩,hf5⟩
 have H5:Hid (Blk w5 cp 80 #[PT (some ⟨p'.bp,0,none⟩)]∧BalAt w5 base p' 13 8 30 200 20000 1 0 11 (L1++frameB 1 3 (putB awF)).length (L1++frameB 1 3 (putB awF)) [be2] [(kA,awF)] (flm [awF]) il' 1∧Below base w4 w5∧ML w5):=⟨by rw[hp'];exact hf5.blk _ _ _ H4.out.1 (by decide),hb5,hf5.below,H4.out.2.2.2.fr hf5 H1.out.2.2.2.2.2⟩
 clear hb5 hf5 hp'
 go_wp2_with fail
 refine(aw_flows H5.out.2.2.2 H5.out.1 H5.out.2.1).mono ?_
 rintro e w6 ⟨rfl,hb6⟩
 have HF:Hid (Below w.heap.size w w6):=by
  have h1:=H1.out.2.2.2.1
  have h0:=H1.out.1
  have h2:=H2.out.2.2.1
  have h3:=H3.out.2.2.1
  have h4:=H4.out.2.2.1
  have h5:=H5.out.2.2.1
  exact h1.trans ((((h2.trans h3).trans h4).trans h5).mono h0) |>.trans (hb6.mono (by have:=h1.size;have:=h2.size;have:=h3.size;have:=h4.size;have:=h5.size;omega))
 clear hb6 H1 H2 H3 H4 H5
 go_wp2
 go_ret
 exact⟨rfl,HF.out⟩
end
section
open Go.RowKit Go.Maps
def WS (l:List It):Prop:=∀x y,l=[x,y]→x.tm≤y.tm
theorem less_tm {a b:It}(h:lessIt a b=false):b.tm≤a.tm:=by
 unfold lessIt at h
 simp at h
 omega
theorem less_tm' {a b:It}(h:lessIt a b=true):a.tm≤b.tm:=by
 unfold lessIt at h
 simp at h
 rcases h with h|⟨h,_⟩<;>omega
theorem ws_short {l:List It}(h:l.length≤1):WS l:=fun x y e=>by subst e;simp at h
theorem ws_up {l l':List It}{j:Nat}(h:UpR l j l')(hl:l.length≤2)(hj:j=l.length - 1):WS l':=by
 rcases l with _|⟨x,_|⟨y,_|⟨z,r⟩⟩⟩
 ·have:=h.perm.length_eq;exact ws_short (by rw[this];simp)
 ·have:=h.perm.length_eq;exact ws_short (by rw[this];simp)
 ·subst hj
  cases h with
  |stop _ _ _ h1=>
   have e:lessAt [x,y] 1 0=lessIt y x:=rfl
   rw[show ([x,y].length - 1)=1 from rfl,show (1 - 1) / 2=0 from rfl,e] at h1
   intro a b hab
   injection hab with h2 h3
   injection h3 with h3
   subst h2 h3
   exact less_tm h1
  |step _ _ _ _ h1 h2=>
   have e:lessAt [x,y] 1 0=lessIt y x:=rfl
   rw[show ([x,y].length - 1)=1 from rfl,show (1 - 1) / 2=0 from rfl] at h1 h2
   rw[e] at h1
   rw[show swapL [x,y] 0 1=[y,x] from rfl] at h2
   cases h2 with
   |zero=>
    intro a b hab
    injection hab with h2 h3
    injection h3 with h3
    subst h2 h3
    exact less_tm' h1
   |stop _ _ h3 _=>omega
   |step _ _ _ h3 _ _=>omega
 ·simp at hl
theorem ws_fix {l l':List It}{i:Nat}(h:FixR l.length l i l')(hl:l.length≤2)(hi:i < l.length):WS l':=by
 have hp:=h.perm.length_eq
 rcases l with _|⟨x,_|⟨y,_|⟨z,r⟩⟩⟩
 ·simp at hi
 ·exact ws_short (by rw[hp];simp)
 ·obtain⟨l1,i1,h1,h2⟩:=h
  have e10:lessAt [x,y] 1 0=lessIt y x:=rfl
  have hi2:i=0∨i=1:=by simp at hi;omega
  have done:∀a b:It,a.tm≤b.tm→WS [a,b]:=fun a b hab u v e=>by
   injection e with h2 h3
   injection h3 with h3
   subst h2 h3
   exact hab
  rcases hi2 with rfl|rfl
  ·cases h1 with
   |out _ _ h3=>simp at h3
   |stop _ _ h3 h4=>
    have ek:kid [x,y] 0 [x,y].length=1:=rfl
    rw[ek,e10] at h4
    rw[if_neg (by omega)] at h2
    cases h2 with
    |zero=>exact done _ _ (less_tm h4)
    |stop _ _ h5 _=>omega
    |step _ _ _ h5 _ _=>omega
   |step _ _ _ _ h3 h4 h5=>
    have ek:kid [x,y] 0 [x,y].length=1:=rfl
    rw[ek] at h4 h5
    rw[e10] at h4
    rw[show swapL [x,y] 0 1=[y,x] from rfl] at h5
    cases h5 with
    |out _ _ _=>
     rw[if_pos (by omega)] at h2
     subst h2
     exact done _ _ (less_tm' h4)
    |stop _ _ h6 _=>simp at h6
    |step _ _ _ _ h6 _ _=>simp at h6
  ·cases h1 with
   |out _ _ _=>
    rw[if_neg (by omega)] at h2
    exact ws_up h2 (by simp) rfl
   |stop _ _ h6 _=>simp at h6
   |step _ _ _ _ h6 _ _=>simp at h6
 ·simp at hl
theorem ws_qset {l l':List It}{k:ByteArray}{t:Nat}(h:QSet l k t l')(hl:l'.length≤2):WS l':=by
 rcases h with⟨i,x,hx,_,hS⟩|⟨p,_,hN⟩
 ·have hi:=(List.getElem?_eq_some_iff.1 hx).1
  have hp:=hS.perm.length_eq
  rw[List.length_set] at hp
  have e:l.length=(l.set i {x with tm:=t}).length:=by simp
  unfold SetR at hS
  rw[e] at hS
  exact ws_fix hS (by simp;omega) (by simpa using hi)
 ·unfold NewR at hN
  have hp:=hN.perm.length_eq
  exact ws_up hN (by rw[←hp];exact hl) (by simp)
theorem ws_due {now:Int}{l l':List It}{ks:List ByteArray}(h:DueR now l ks l'):l.length≤2→WS l→∀x∈l',now < (x.tm:Int):=by
 induction h with
 |done l h0=>
  intro hl hw x hx
  rcases l with _|⟨a,_|⟨b,_|⟨c,r⟩⟩⟩
  ·simp at hx
  ·simp at hx
   subst hx
   exact h0 _ rfl
  ·have h1:=h0 a rfl
   have h2:=hw a b rfl
   simp at hx
   rcases hx with rfl|rfl
   ·exact h1
   ·omega
  ·simp at hl
 |step l x l1 l' ks _ _ hr _ ih=>
  intro hl _
  have h2:=hr.length
  have h3:(l1.take (l.length - 1)).length≤1:=by rw[List.length_take];omega
  exact ih (by omega) (ws_short h3)
section
variable {a c:Tu}{ba bc:Nat}
def fmI (a c:Tu)(ba bc T:Nat):List (Tu×Fl):=(a,⟨a,ba,1,T⟩)::(if T < 51 then [(c,⟨c,bc,1,0⟩)] else [])
theorem fmI_len (T:Nat):(fmI a c ba bc T).length≤2:=by unfold fmI;split<;>simp
theorem fmI_start (hac:a≠c):mput (mput [] a (⟨a,ba,1,0⟩:Fl)) c (⟨c,bc,1,0⟩:Fl)=fmI a c ba bc 0:=by
 have e1:mput ([]:List (Tu×Fl)) a (⟨a,ba,1,0⟩:Fl)=[(a,⟨a,ba,1,0⟩)]:=rfl
 rw[e1]
 unfold mput
 rw[if_neg (by simp[hac])]
 rfl
theorem fmI_put (hac:a≠c)(T T':Nat)(h:T≤T')(m:List (Tu×Fl))(hm:m=(a,⟨a,ba,1,T⟩)::(if T' < 51 then [(c,⟨c,bc,1,0⟩)] else [])):mput m a ({(⟨a,ba,1,T⟩:Fl) with seen:=T'})=fmI a c ba bc T':=by
 subst hm
 unfold mput fmI
 by_cases h1:T' < 51
 ·simp[h1,Ne.symm hac]
 ·simp[h1]
theorem fmI_nodup (hac:a≠c)(T:Nat):(mkeys (fmI a c ba bc T)).Nodup:=by
 unfold fmI mkeys
 split<;>simp[hac]
variable {w:World}{base tp tm tk qp qm most idle T k:Nat}{il:List It}
theorem idle_due (hac:a≠c)(hF:FlowAt w base tp tm tk qp qm most 51 (fmI a c ba bc T) il)(hws:WS il)(hk:k≤49)(hT:T≤100000):
  (∀ks l',DueR (((T + k:Nat):Int) - (51:Nat)) il ks l'→ks.length≤1)∧
  ∀(fs:List Fl) (l':List It),DueR (((T + k:Nat):Int) - (51:Nat)) il (fs.map fun f=>keyT f.k) l'→(∀f∈fs,mget (fmI a c ba bc T) f.k=some f)→dels (fmI a c ba bc T) (fs.map Fl.k)=(a,⟨a,ba,1,T⟩)::(if T + k < 51 then [(c,⟨c,bc,1,0⟩)] else [])∧(T < 51∧51≤T + k∧fs=[⟨c,bc,1,0⟩]∨fs=[]):=by
 have hmem:∀f:Fl,mget (fmI a c ba bc T) f.k=some f→f=⟨a,ba,1,T⟩∨(T < 51∧f=⟨c,bc,1,0⟩):=by
  intro f hf
  have:=mget_some hf
  unfold fmI at this
  rcases List.mem_cons.1 this with h|h
  ·left;exact congrArg Prod.snd h
  ·right
   split at h
   ·rename_i h51
    exact⟨h51,congrArg Prod.snd (List.mem_singleton.1 h)⟩
   ·cases h
 have hnd:=fmI_nodup (ba:=ba) (bc:=bc) hac T
 have hlen:il.length≤2:=by
  have:=hF.link.length_eq
  have h2:=fmI_len (a:=a) (c:=c) (ba:=ba) (bc:=bc) T
  simp at this
  omega
 have key:∀ks l',DueR (((T + k:Nat):Int) - (51:Nat)) il ks l'→∃fs:List Fl,ks=fs.map (fun f=>keyT f.k)∧(∀x∈l',(((T + k:Nat):Int) - (51:Nat)) < (x.tm:Int))∧(itL l').Perm (flL (dels (fmI a c ba bc T) (fs.map Fl.k)))∧(T < 51∧51≤T + k∧fs=[⟨c,bc,1,0⟩]∨fs=[]):=by
  intro ks l' hd
  obtain⟨fs,h1,h2,h3,h4⟩:=due_flows hd _ hnd hF.ok hF.q.keys hF.link
  refine⟨fs,h1,ws_due hd hlen hws,h4,?_⟩
  have hall:∀f∈fs,f=⟨c,bc,1,0⟩∧T < 51∧51≤T + k:=by
   intro f hf
   obtain⟨h5,h6⟩:=h2 f hf
   rcases hmem f h5 with rfl|⟨h7,rfl⟩
   ·dsimp only at h6;omega
   ·dsimp only at h6;exact⟨rfl,h7,by omega⟩
  rcases fs with _|⟨f,_|⟨g,r⟩⟩
  ·right;rfl
  ·left
   obtain⟨rfl,h7,h8⟩:=hall f (by simp)
   exact⟨h7,h8,rfl⟩
  ·exfalso
   have e1:=(hall f (by simp)).1
   have e2:=(hall g (by simp)).1
   subst e1 e2
   simp at h3
 refine⟨fun ks l' hd=>?_,fun fs l' hd hget=>?_⟩
 ·obtain⟨fs,rfl,_,_,h⟩:=key ks l' hd
  rcases h with⟨_,_,rfl⟩|rfl<;>simp
 ·obtain⟨fs0,h1,h2,h3,h4⟩:=key _ l' hd
  have hfs:fs=fs0:=by
   rcases h4 with⟨h5,h6,rfl⟩|rfl
   ·rcases fs with _|⟨f,_|⟨g,r⟩⟩
    ·simp at h1
    ·simp at h1
     rcases hmem f (hget f (by simp)) with rfl|⟨_,rfl⟩
     ·exfalso
      have oka:=hF.ok (a,⟨a,ba,1,T⟩) (by unfold fmI;simp)
      have okc:=hF.ok (c,⟨c,bc,1,0⟩) (by unfold fmI;rw[if_pos h5];simp)
      exact hac (keyT_inj oka.2.k okc.2.k oka.2.may okc.2.may h1)
     ·rfl
    ·simp at h1
   ·cases fs with
    |nil=>rfl
    |cons f r=>simp at h1
  subst hfs
  refine⟨?_,h4⟩
  rcases h4 with⟨h5,h6,rfl⟩|rfl
  ·rw[if_neg (by omega)]
   simp[dels,mdel,fmI,h5,hac]
  ·by_cases h5:T + k < 51
   ·rw[if_pos h5]
    simp[dels,fmI,show T < 51 by omega]
   ·rw[if_neg h5]
    by_cases h6:T < 51
    ·exfalso
     have hin:(keyT c,0)∈itL l':=by
      rw[h3.mem_iff]
      simp[flL,dels,fmI,h6]
     obtain⟨x,hx,he⟩:=List.mem_map.1 hin
     have hx2:=h2 x hx
     have:x.tm=0:=congrArg Prod.snd he
     omega
    ·simp[dels,fmI,h6]
end
end
end Go.Proofs.YtgjnoccflmjheaaGreatDoor
