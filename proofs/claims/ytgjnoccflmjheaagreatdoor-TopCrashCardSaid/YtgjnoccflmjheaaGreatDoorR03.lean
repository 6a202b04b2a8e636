import Derived.Laws.BitsLemmas
import Derived.Deep.CutBlock
import Derived.Test.YtgjnoccflmjheaaGreatDoorR02
namespace Go.Proofs.YtgjnoccflmjheaaGreatDoor
set_option linter.unusedVariables false
set_option linter.unusedSimpArgs false
set_option maxHeartbeats 8000000
set_option maxRecDepth 100000
open Value renaming int→X,slice→G,pointer→PT,bool→bL,agg→aG,tuple→tU
open Obj renaming cells→cL
open Ending renaming returned→rT
open Go.Proofs.Tryz
open Go.Proofs.Tryz renaming prog→Pg
open RowKit.Below renaming refl→bR
open IntKind renaming i64→Y,u32→Z
open List renaming getElem?_toArray→ga,getElem?_cons_zero→gz,getElem?_cons_succ→gN
open Lib renaming hid→jH
open Nat renaming le_refl→nR,le_trans→nT,le_succ→nS
open And renaming intro→aI
section
open Go.RowKit Go.Maps
theorem B8 {α:Type}{ch:List (List α)}{i:Nat}{c:List α}(h:ch[i]? =some c):ch.flatten=(ch.take i).flatten++(c++(ch.drop (i + 1)).flatten):=by
 obtain⟨hi,hc⟩:=List.getElem?_eq_some_iff.1 h
 conv=>lhs;rw[←List.take_append_drop i ch,List.flatten_append,List.drop_eq_getElem_cons hi,List.flatten_cons,hc]
theorem B9 {α:Type}{ch:List (List α)}{i j:Nat}{c:List α}{x:α}(h:ch[i]? =some c)(hj:c[j]? =some x):ch.flatten[(ch.take i).flatten.length + j]? =some x:=by
 rw[B8 h,List.getElem?_append_right (by omega),Nat.add_sub_cancel_left,List.getElem?_append_left (List.getElem?_eq_some_iff.1 hj).1]
 exact hj
theorem B7 {α:Type}{ch:List (List α)}{i:Nat}{c:List α}(h:ch[i]? =some c):(ch.take (i + 1)).flatten.length=(ch.take i).flatten.length + c.length:=by
 rw[List.take_add_one,h]
 simp
theorem dt.syncdir {D:aF}{Q V s fm:Nat}{cls:List (List Nat)}{L fl:List Nat}(h:dt D Q V cls L s fl fm):dt (eZ D) Q V cls L s fl fm:=
 {h with chg:=rfl,sure:=h.now}
def fu (aa d mn ms B V nx n1 q q10 c4:Nat)(D:aF)(A4:Option Addr)(sg:List Nat)(Jj:World→Prop)(W:World):Prop:=
 ar W aa d mn ms D∧Jj W∧ab W q 63 #[PT (some ⟨d,0,none⟩)]∧ab W q10 259 #[X Y V,X Y nx,G A4 n1 c4]∧W.ownsRow B 3 1 (G A4 n1 c4) n1 (nv sg)
theorem fu.made {aa d mn ms B V nx n1 q q10 c4:Nat}{D:aF}{A4:Option Addr}{sg:List Nat}{Jj:World→Prop}{W W':World}(h:fu aa d mn ms B V nx n1 q q10 c4 D A4 sg Jj W)(hJ:∀W W',Jj W→Below W.heap.size W W'→Jj W')(hb:Below W.heap.size W W'):fu aa d mn ms B V nx n1 q q10 c4 D A4 sg Jj W':=by
 obtain⟨g1,g2,g3,g4,g5⟩:=h
 exact⟨g1.made hb,hJ _ _ g2 hb,g3.below hb g3.lt,g4.below hb g4.lt,aJ g5 hb⟩
theorem fu.fr {aa d mn ms B V nx n1 q q10 c4:Nat}{D:aF}{A4:Option Addr}{sg:List Nat}{Jj Jk:World→Prop}{W W':World}{M:List Nat}(h:fu aa d mn ms B V nx n1 q q10 c4 D A4 sg Jj W)(hJ:Jk W')(hf:Fr [192] M aa W W')(m1:mn∉M)(m2:ms∉M):fu aa d mn ms B V nx n1 q q10 c4 D A4 sg Jk W':=by
 obtain⟨g1,g2,g3,g4,g5⟩:=h
 exact⟨g1.fr hf (by decide) (by decide) (by decide) (by decide) m1 m2,hJ,hf.blk _ _ _ g3 (by decide),hf.blk _ _ _ g4 (by decide),hf.own g5 (by decide)⟩
theorem fu.num {aa d mn ms B V nx n1 q q10 c4 q13:Nat}{D:aF}{A4:Option Addr}{sg:List Nat}{Jj:World→Prop}{W:World}{v u:Value}(h:fu aa d mn ms B V nx n1 q q10 c4 D A4 sg Jj W)(hJ:∀W W',Jj W→Fr (3::KD) [mn] aa W W'→Jj W')(hq:ab W q13 3 #[v])(hb:aa≤q13)(az:(Value.slice A4 n1 c4).ownBlock≠some q13):fu aa d mn ms B V nx n1 q q10 c4 D A4 sg Jj (W.setCell ⟨q13,0,none⟩ u)∧Fr [3] [] aa W (W.setCell ⟨q13,0,none⟩ u):=by
 obtain⟨g1,g2,g3,g4,g5⟩:=h
 have hfi:Fr [3] [] aa W (W.setCell ⟨q13,0,none⟩ u):=(Fr.refl _ _ aa W).set_ hq (by decide) hb 0 _
 exact⟨⟨g1.fr hfi (by decide) (by decide) (by decide) (by decide) (by simp) (by simp),hJ _ _ g2 (hfi.mono (by decide) (by simp)),hfi.blk _ _ _ g3 (by decide),hfi.blk _ _ _ g4 (by decide),g5.kept (oH W q13 0 _) (.inr az)⟩,hfi⟩
theorem wZ {k i:Nat}(h:i < k):(bJ k)[i]? =some (i + 1):=by simp[bJ,h]
theorem xb {D:aF}{Q V s fm:Nat}{cs:List (List (Nat×List Nat))}{la:List (Nat×List Nat)}{t fl:List Nat}(hP:dt D Q V (cs.map (aH V)) (aH V la++t) s fl fm)(ht:t=[]∨iy V t)(hta:ay t){i:Nat}{c:List (Nat×List Nat)}(hc:(cs++[la])[i]? =some c):
  ∃f p ti,av D.now (aN (i + 1))=some f∧av D.fs f=some p∧p.b=aH V c++ti∧(ti=[]∨iy V ti∧i + 1=cs.length + 1)∧ay ti:=by
 by_cases hi:i < cs.length
 ·rw[List.getElem?_append_left hi] at hc
  obtain⟨f,h1,h2⟩:=hP.segs i (by rw[List.length_map];exact hi)
  refine⟨f,_,[],hP.at_ h1,h2,?_,.inl rfl,fun x hx=>by simp at hx⟩
  have:=(List.getElem?_eq_some_iff.1 hc).2
  simp[this]
 ·have hil:=(List.getElem?_eq_some_iff.1 hc).1
  rw[List.length_append] at hil
  simp only[List.length_cons,List.length_nil] at hil
  obtain rfl:i=cs.length:=by omega
  rw[List.getElem?_append_right (nR _),Nat.sub_self] at hc
  obtain rfl:la=c:=by simpa using hc
  obtain⟨f,h1,h2,h3⟩:=hP.last_
  rw[List.length_map] at h2
  exact⟨f,_,t,h2,h3,rfl,ht.imp id (fun h=>⟨h,rfl⟩),hta⟩
theorem Df {D:aF}{Q V fm:Nat}{cls:List (List Nat)}{fl:List Nat}{f n:Nat}{p:bM}(h:dt D Q V cls p.b p.sure fl fm)(hf:fl[cls.length]? =some f)(hp:av D.fs f=some p)(hn:n≤p.b.length):
  ∃p1,av (ej D f n p).fs f=some p1∧(ej D f n p).now=D.now∧(ej D f n p).fail=0∧(ej D f n p).ops≤D.ops + 1∧dt (eZ (br (ej D f n p) f p1)) Q V cls (p.b.take n) (p.b.take n).length fl fm∧(Small D.fs→(p.b.take n).length≤1000→Small (br (ej D f n p) f p1).fs):=by
 unfold ej
 by_cases e:n=p.b.length
 ·subst e
  rw[if_pos rfl,List.take_length]
  exact⟨p,hp,rfl,h.fail,by omega,(h.put hf p.b p.b.length (D.ops + 1)).syncdir,fun h1 h2=>h1.put f h2⟩
 ·rw[if_neg e]
  have h1:=h.put hf (p.b.take n) n (D.ops + 1)
  exact⟨⟨p.b.take n,n⟩,eP _ _ _,rfl,h.fail,nR _,(h1.put hf (p.b.take n) (p.b.take n).length (D.ops + 1 + 1)).syncdir,fun h1 h2=>(h1.put f h2).put f h2⟩
theorem Fr.low_ {K:List TypeId}{M:List Nat}{aa:Nat}{w w6 w7:World}(h:Fr K M aa w w6)(hb:Below w.heap.size w6 w7)(hk:aa≤w.heap.size):Fr K M aa w w7:=
 ⟨h.below.trans (hb.mono hk),fun g t cs h0 h1=>(h.blk g t cs h0 h1).below hb h0.lt,fun b es c h0 h1=>(hb.block b (Array.getElem?_eq_some_iff.1 h0).1).trans (h.map b es c h0 h1)⟩
theorem wu (aa d mn ms size Q V sp sf s fm:Nat)(D:aF)(cs:List (List (Nat×List Nat)))(la:List (Nat×List Nat))(t fl:List Nat)(J:Nat→World→Prop)(w:World)
  (hD:ar w aa d mn ms D)(hP:dt D Q V (cs.map (aH V)) (aH V la++t) s fl fm)(ht:t=[]∨iy V t)(hta:ay t)(hok:jk (cs++[la]).flatten)(h1:1≤V)(h3:V≤3)(hs1:16≤size)(hs2:size≤1048576)(aP:D.ops≤700000000000)(hlim:(aH V la++t).length≤1048576)(hsfn:mn≠sf)(hsfs:ms≠sf)
  (hJ0:J 0 w)(hJb:∀j W W',J j W→Below W.heap.size W W'→J j W')(hJf:∀j W W',J j W→Fr (3::KD) [mn] aa W W'→J j W')
  (dO:∀(j k:Nat) (l:List Nat) (A1:Option Addr) (c1:Nat) (W:World),(cs++[la]).flatten[j]? =some (k,l)→J j W→Reads W W.heap.size 1 A1 l.length (bv l)→(A1=none→c1=0)→
   Calls Pg 99 #[aG #[PT (some ⟨sp,0,none⟩)],aG #[X Y k,X Y V,G A1 l.length c1]] W fun e W'=>e=rT (X Y 0)∧J (j + 1) W'∧Fr [192] [sf] aa W W'):
  Calls Pg 98 #[PT (some ⟨d,0,none⟩),X Y size,.func (.func 99) #[aG #[PT (some ⟨sp,0,none⟩)]] #[]] w fun e w'=>∃lg ms' D',e=rT (tU #[PT (some ⟨lg,0,none⟩),X Y 0])∧J (cs++[la]).flatten.length w'∧w.heap.size≤ms'∧w.heap.size≤lg∧ar w' aa d mn ms' D'∧dt D' Q V (cs.map (aH V)) (aH V la) (aH V la).length fl fm∧D'.ops≤D.ops + 3∧(Small D.fs→(aH V la).length≤1000→Small D'.fs)∧bQ w' aa lg d size V (cs.length + 2) (bJ (cs.length + 1)) false∧Fr (192::KD) [mn,sf] aa w w':=by
 obtain⟨f,hf,hm,hp⟩:=hP.last_
 have hDf:=hP.fail
 have hfew:=hP.few
 rw[List.length_map] at hm hfew
 have hsf:∀i c,(cs++[la])[i]? =some c→_:=fun i c hc=>xb hP ht hta hc
 obtain⟨p1,c1,c2,c3,c4',c5,c6⟩:=Df (n:=(aH V la).length) (p:=⟨aH V la++t,s⟩) hP hf hp (by simp)
 have htk:(aH V la++t).take (aH V la).length=aH V la:=List.take_left
 dsimp only at c5 c6
 rw[htk] at c5 c6
 have hmd:=hP.man
 have hhd:=hP.hd
 rw[List.length_map] at hmd
 have hmok:=nO (k:=cs.length) h1 h3 hfew
 obtain⟨ch,hch⟩:∃ch,ch=cs++[la]:=⟨_,rfl⟩
 have hchl:ch.length=cs.length + 1:=by rw[hch];simp
 have hlast:ch[cs.length]? =some la:=by rw[hch];simp
 have hsl:=fT (cs.length + 1)
 have hslast:=jZ cs.length
 have hsget:∀i,i < cs.length + 1→(bJ (cs.length + 1))[i]? =some (i + 1):=fun i hi=>wZ hi
 rw[←hch] at hok dO⊢
 have hsf:∀i c,ch[i]? =some c→∃f p ti,av D.now (aN (i + 1))=some f∧av D.fs f=some p∧p.b=aH V c++ti∧(ti=[]∨iy V ti∧i + 1=ch.length)∧ay ti:=fun i c hc=>by rw[hch] at hc;rw[hchl];exact hsf i c hc
 have hfin:=jH (aI c5 c6)
 clear hch hP c5 c6
 generalize bJ (cs.length + 1)=sg at *
 obtain⟨n1,hn1⟩:∃n1,n1=cs.length + 1:=⟨_,rfl⟩
 obtain⟨nx,hnx⟩:∃nx,nx=cs.length + 2:=⟨_,rfl⟩
 rw[←hnx] at hmd hmok⊢
 rw[←hn1] at hchl hsl hslast hsget hm
 have hn3:n1≤3:=by omega
 have hn0:0 < n1:=by omega
 have hlast':ch[n1 - 1]? =some la:=by rw[←hlast];congr 1;omega
 rw[hchl] at hsf
 have HK:=jH (aI hm (aI hp (aI hsf (aI hok (aI hsl (aI hslast (aI hsget (aI hchl hlast'))))))))
 have HC:=jH (aI c1 (aI c2 (aI c3 c4')))
 have bo:D.fail=0:=hDf
 clear hm hsf hok hslast hsget hchl hlast' hlast hf hn1 hnx hfew c1 c2 c3 c4' ht hta
 obtain⟨q,hq⟩:∃q,q=w.heap.size:=⟨_,rfl⟩
 have ao:Below w.heap.size w (w.alloc (cL #[PT (some ⟨d,0,none⟩)] 63)):=(bR _ _).alloc (nR _) _
 have hx0:ab (w.alloc (cL #[PT (some ⟨d,0,none⟩)] 63)) q 63 #[PT (some ⟨d,0,none⟩)]:=hq▸ab.new w _ _
 have x0:=hx0.c1
 have an:=hD.hi
 have H1:=jH (aI (hD.made ao) (aI (hJb 0 w _ hJ0 ao) (aI ao (aI hx0 an))))
 clear hD hJ0 ao hx0 an
 go_enter func98,ntmps98
 go_wp2_with fail
 rw[←hq]
 have HE:=jH hq
 clear hq
 generalize (w.alloc (cL #[PT (some ⟨d,0,none⟩)] 63))=w1 at *
 have CR:=jH (kg aa d mn ms D ⟨#[109]⟩ w1 H1.out.1 (by show (⟨#[109]⟩:ByteArray).size≤4096;decide))
 have hrd:eM D ⟨#[109]⟩=some (ck V nx sg):=by
  unfold eM
  rw[hhd,Option.map_some,jf hmd]
 rw[hrd] at CR
 refine CR.out.mono ?_
 rintro e w2 ⟨⟨A,c,rfl,hown,-,-⟩,af⟩
 have H2:Hid (ar w2 aa d mn ms D∧J 0 w2∧Below w.heap.size w w2∧ab w2 q 63 #[PT (some ⟨d,0,none⟩)]∧aa≤w.heap.size):=by
  obtain⟨g1,g2,g3,g4,g5⟩:=H1.out
  exact⟨g1.made af,hJb _ _ _ g2 af,g3.trans (af.mono g3.size),g4.below af g4.lt,g5⟩
 have HO:=jH hown
 clear hown af CR H1 hrd x0 hhd hmd
 go_wp2_with fail
 have CM:=rV V nx sg A _ c w2.heap.size w2 hmok (Reads.of_own HO.out) (nR _) (dN HO.out).1
 rw[hsl] at CM
 refine CM.mono ?_
 clear CM
 rintro e w3 ⟨A4,c4,rfl,bF,al⟩
 obtain⟨q10,hq10⟩:∃q10,q10=w3.heap.size:=⟨_,rfl⟩
 have H3:(fun Vv:World=>Hid (fu aa d mn ms w.heap.size V nx n1 q q10 c4 D A4 sg (J 0) Vv∧Below w.heap.size w Vv∧aa≤w.heap.size)) (w3.alloc (cL #[X Y V,X Y nx,G A4 n1 c4] 259)):=by
  obtain⟨g1,g2,g3,g4,g5⟩:=H2.out
  have s2:=g3.size
  have e1:=(bR w3.heap.size w3).alloc (nR _) (cL #[X Y V,X Y nx,G A4 n1 c4] 259)
  have hbb:Below w2.heap.size w2 (w3.alloc (cL #[X Y V,X Y nx,G A4 n1 c4] 259)):=al.trans (e1.mono al.size)
  exact⟨⟨g1.made hbb,hJb _ _ _ g2 hbb,g4.below hbb g4.lt,hq10▸ab.new w3 _ _,cO (aJ bF e1) s2⟩,g3.trans (hbb.mono s2),g5⟩
 clear bF al H2 HO
 go_upto_region 9 with fail
 rw[←hq10]
 clear hq10
 generalize (w3.alloc (cL #[X Y V,X Y nx,G A4 n1 c4] 259))=w4 at *
 go_cut [12] from 13 (fun v12 wc=>∃q12 lg,v12=PT (some ⟨q12,0,none⟩)∧Hid (fu aa d mn ms w.heap.size V nx n1 q q10 c4 D A4 sg (J 0) wc∧Below w.heap.size w wc∧aa≤w.heap.size∧ab wc q12 171 #[PT (some ⟨lg,0,none⟩)]∧ab wc lg 265 #[PT (some ⟨d,0,none⟩),X Y size,X Y V,X Y nx,G A4 n1 c4,bL false]∧w.heap.size≤lg))
 case first=>
  have CZ:=jH (qO size)
  have b0:=H3.out.1.2.2.1
  have b1:=H3.out.1.2.2.2.1
  have au:q≠w4.heap.size∧q10≠w4.heap.size:=⟨Nat.ne_of_lt b0.lt,Nat.ne_of_lt b1.lt⟩
  have opS:∀W,ab W q 63 #[PT (some ⟨d,0,none⟩)]→ab W q10 259 #[X Y V,X Y nx,G A4 n1 c4]→(W.cell? ⟨q,0,none⟩=some (PT (some ⟨d,0,none⟩))∧W.cell? ⟨q10,0,none⟩=some (X Y V)∧W.cell? ⟨q10,1,none⟩=some (X Y nx)∧W.cell? ⟨q10,2,none⟩=some (G A4 n1 c4)):=fun W g0 g1=>⟨g0.cell 0,g1.cell 0,g1.cell 1,g1.cell 2⟩
  have e0:=opS w4.drew b0.drew b1.drew
  have e1:=fun o=>opS (w4.alloc o).drew (b0.alloc o).drew (b1.alloc o).drew
  have e2:=fun o o2=>opS ((w4.alloc o).alloc o2).drew ((b0.alloc o).alloc o2).drew ((b1.alloc o).alloc o2).drew
  have e3:=fun o o2 u=>opS (((w4.alloc o).alloc o2).setCell ⟨w4.heap.size,0,none⟩ u).drew (((b0.alloc o).alloc o2).far (p:=⟨w4.heap.size,0,none⟩) au.1 u).drew (((b1.alloc o).alloc o2).far (p:=⟨w4.heap.size,0,none⟩) au.2 u).drew
  have hAll:∀(o o2:Obj) (q12 lg:Nat),w.heap.size≤lg→ab ((w4.alloc o).alloc o2) q12 171 #[PT (some ⟨lg,0,none⟩)]→ab ((w4.alloc o).alloc o2) lg 265 #[PT (some ⟨d,0,none⟩),X Y size,X Y V,X Y nx,G A4 n1 c4,bL false]→Hid (fu aa d mn ms w.heap.size V nx n1 q q10 c4 D A4 sg (J 0) ((w4.alloc o).alloc o2).drew∧Below w.heap.size w ((w4.alloc o).alloc o2).drew∧aa≤w.heap.size∧ab ((w4.alloc o).alloc o2).drew q12 171 #[PT (some ⟨lg,0,none⟩)]∧ab ((w4.alloc o).alloc o2).drew lg 265 #[PT (some ⟨d,0,none⟩),X Y size,X Y V,X Y nx,G A4 n1 c4,bL false]∧w.heap.size≤lg):=by
   intro o o2 q12 lg hlg k1 k2
   have hb:Below w4.heap.size w4 ((w4.alloc o).alloc o2).drew:=(((bR _ w4).alloc (nR _) _).alloc (by simp) _).drew
   obtain⟨g1,g2,g3⟩:=H3.out
   exact⟨g1.made (hJb 0) hb,g2.trans (hb.mono g2.size),g3,k1.drew,k2.drew,hlg⟩
  have hwz:w.heap.size≤w4.heap.size:=H3.out.2.1.size
  have nb:∀(o:Obj) (t:TypeId) (cs:Array Value),ab ((w4.alloc o).alloc (.cells cs t)) (w4.heap.size + 1) t cs:=fun o t cs=>by have:=ab.new (w4.alloc o) t cs;rwa [World.size_alloc] at this
  have HA:=hAll (cL #[PT (some ⟨d,0,none⟩),X Y size,X Y V,X Y nx,G A4 n1 c4,bL false] 265) (cL #[PT (some ⟨w4.heap.size,0,none⟩)] 171) (w4.heap.size + 1) w4.heap.size hwz (nb _ _ _) ((ab.new w4 _ _).alloc _)
  have HB:=hAll (cL #[PT (some ⟨w4.heap.size + 1,0,none⟩)] 171) (cL #[PT (some ⟨d,0,none⟩),X Y size,X Y V,X Y nx,G A4 n1 c4,bL false] 265) w4.heap.size (w4.heap.size + 1) (by omega) ((ab.new w4 _ _).alloc _) (nb _ _ _)
  clear hAll hwz nb
  clear b0 b1 opS
  go_region_held3 (fun wS=>wS.cell? ⟨q,0,none⟩=some (PT (some ⟨d,0,none⟩))∧wS.cell? ⟨q10,0,none⟩=some (X Y V)∧wS.cell? ⟨q10,1,none⟩=some (X Y nx)∧wS.cell? ⟨q10,2,none⟩=some (G A4 n1 c4)) (first|with_reducible exact e0|with_reducible exact e1 _|with_reducible exact e2 _ _|with_reducible exact e3 _ _ _|fail)
   (first|(go_at_call 176;(with_reducible refine(CZ.out _ hs1 hs2).mono ?_);rintro e w5 ⟨rfl,rfl⟩))
  all_goals
   clear e0 e1 e2 e3 CZ
   go_wp2_with fail
   go_meet
   first
    |exact⟨w4.heap.size + 1,w4.heap.size,rfl,HA⟩
    |exact⟨w4.heap.size,w4.heap.size + 1,rfl,HB⟩
 case rest=>
  clear H3
  obtain⟨q12,lg,rfl,H4⟩:=hcut
  obtain⟨q13,hq13⟩:∃q13,q13=wc.heap.size:=⟨_,rfl⟩
  have H5:(fun Vv:World=>Hid (fu aa d mn ms w.heap.size V nx n1 q q10 c4 D A4 sg (J 0) Vv∧Fr (192::KD) [mn,sf] aa w Vv∧ab Vv q12 171 #[PT (some ⟨lg,0,none⟩)]∧ab Vv lg 265 #[PT (some ⟨d,0,none⟩),X Y size,X Y V,X Y nx,G A4 n1 c4,bL false]∧ab Vv q13 3 #[X Y 0])) (wc.alloc (cL #[X Y 0] 3))∧Hid (aa≤w.heap.size∧w.heap.size≤lg∧(Value.slice A4 n1 c4).ownBlock≠some q13∧w.heap.size≤q13):=by
   obtain⟨g1,g2,g3,g4,g5,g6⟩:=H4.out
   have hb:Below wc.heap.size wc (wc.alloc (cL #[X Y 0] 3)):=(bR _ _).alloc (nR _) _
   exact⟨⟨g1.made (hJb 0) hb,Fr.of_below _ _ (g2.trans (hb.mono g2.size)) g3,g4.alloc _,g5.alloc _,hq13▸ab.new wc _ _⟩,⟨g3,g6,fun e=>by have:=(g1.2.2.2.2.lt q13 e).2;omega,by have:=g2.size;omega⟩⟩
  obtain⟨H5,HF⟩:=H5
  clear H4
  obtain⟨-,-,y2⟩:=H5.out.1.2.2.2.1.c3
  go_wp2_with fail
  rw[←hq13]
  clear hq13
  generalize (wc.alloc (cL #[X Y 0] 3))=w5 at *
  go_loopg [41,11,14] n1 (fun gk at_ v11 v14 wr=>∃(i:Nat) (v:Value),at_=X Y i∧Hid (i + gk=n1)∧Hid (fu aa d mn ms w.heap.size V nx n1 q q10 c4 D A4 sg (J (ch.take i).flatten.length) wr∧Fr (192::KD) [mn,sf] aa w wr∧ab wr q12 171 #[PT (some ⟨lg,0,none⟩)]∧ab wr lg 265 #[PT (some ⟨d,0,none⟩),X Y size,X Y V,X Y nx,G A4 n1 c4,bL false]∧ab wr q13 3 #[v]∧(i=n1→v=X Y ((aH V la).length))))
  case atStart=>exact⟨0,X Y 0,rfl,(by show _=_;omega),by obtain⟨g1,g2,g3,g4,g5⟩:=H5.out;exact⟨g1,g2,g3,g4,g5,fun e=>by omega⟩⟩
  case round=>
   clear H5 y2
   obtain⟨i,v,rfl,hgk,hrel⟩:=hrel
   have x0:=hrel.out.1.2.2.1.c1
   obtain⟨y0,y1,y2⟩:=hrel.out.1.2.2.2.1.c3
   by_cases au:i < n1
   ·obtain⟨k1,k2,k3,k4,k5,k6,k7,k8,k9⟩:=HK.out
    obtain⟨cc,hcc⟩:∃cc,ch[i]? =some cc:=⟨_,List.getElem?_eq_getElem (by omega)⟩
    obtain⟨fi,pi,ti,z1,z2,z3,z4,z5⟩:=k3 i cc hcc
    have hokc:jk cc:=fun g hg=>k4 g (List.mem_flatten.2 ⟨cc,List.mem_of_getElem? hcc,hg⟩)
    have CS:=jH (vZ aa d mn ms fi V nx sp n1 i (i + 1) sg D pi cc ti A4 c4 wr.heap.size [192] [sf] (fun j W=>J ((ch.take i).flatten.length + j) W) wr hrel.out.1.1 (k7 i au) k5 (by omega) (by omega) (by omega) z1 z2 z3 z4 z5 hokc (by omega) (Reads.of_own hrel.out.1.2.2.2.2) (nR _) (by decide) (by decide) (by decide) hrel.out.1.2.1 (fun j W W' h hb=>hJb _ _ _ h hb)
     (fun j k l A1 c1 W hj hJ hr bI=>dO _ k l A1 c1 W (B9 hcc hj) hJ hr bI))
    have HCC:=jH (aI hcc (aI k9 (B7 hcc)))
    clear k1 k2 k3 k4 k5 k6 k7 k8 k9 hcc z1 z2 z3 z4 z5 hokc
    obtain⟨lb,hlb⟩:∃lb,lb=(aH V cc).length:=⟨_,rfl⟩
    rw[←hlb] at CS
    have HLB:=jH hlb
    clear hlb
    go_wp2_with fail
    refine CS.out.mono ?_
    rintro e w6 ⟨rfl,hJ6,hf6⟩
    have b13:=hf6.blk _ _ _ hrel.out.2.2.2.2.1 (by decide)
    have z13:=b13.frozen 0
    have y13:=b13.cell 0
    have H6:(fun Vv:World=>Hid (fu aa d mn ms w.heap.size V nx n1 q q10 c4 D A4 sg (J (ch.take (i + 1)).flatten.length) Vv∧Fr (192::KD) [mn,sf] aa w Vv∧ab Vv q12 171 #[PT (some ⟨lg,0,none⟩)]∧ab Vv lg 265 #[PT (some ⟨d,0,none⟩),X Y size,X Y V,X Y nx,G A4 n1 c4,bL false]∧ab Vv q13 3 #[X Y lb]∧(i + 1=n1→X Y lb=X Y ((aH V la).length)))) (w6.setCell ⟨q13,0,none⟩ (X Y lb)):=by
     obtain⟨g1,g2,g3,g4,g5,g6⟩:=hrel.out
     obtain⟨f1,f2,f3,f4⟩:=HF.out
     rw[HCC.out.2.2]
     have hO:=g1.fr (Jk:=J ((ch.take i).flatten.length + cc.length)) hJ6 hf6 (by simpa using hsfn) (by simpa using hsfs)
     obtain⟨hO2,hfi⟩:=hO.num (u:=X Y lb) (fun W W' h hf=>hJf _ _ _ h hf) b13 (by omega) f3
     have hlow:Below w.heap.size w6 (w6.setCell ⟨q13,0,none⟩ (X Y lb)):=(bR _ _).setCell (p:=⟨q13,0,none⟩) (by show w.heap.size≤q13;omega) _
     refine⟨hO2,(g2.trans (hf6.mono (by decide) (by simp))).low_ hlow f1,hfi.blk _ _ _ (hf6.blk _ _ _ g3 (by decide)) (by decide),hfi.blk _ _ _ (hf6.blk _ _ _ g4 (by decide)) (by decide),b13.set_ 0 _,fun e=>?_⟩
     have:=HCC.out.1
     rw[show i=n1 - 1 by omega,HCC.out.2.1] at this
     injection this with this
     rw[HLB.out,this]
    clear b13 hJ6 hf6 hrel x0 y0 y1 y2 CS
    go_wp2_with fail
    go_roundg (gk - 1)
    case measure=>have h1:=hgk.out;omega
    case rel=>exact⟨i + 1,_,by go_num,(by show _=_;have:=hgk.out;omega),H6.out⟩
   ·have hi:i=n1:=by have:=hgk.out;omega
    subst hi
    have hdL:decide ((i:Int) < (i:Int))=false:=decide_eq_false (by omega)
    obtain⟨lb,hlb⟩:∃lb,lb=(aH V la).length:=⟨_,rfl⟩
    have H6:Hid (ar wr aa d mn ms D∧J ch.flatten.length wr∧Fr (192::KD) [mn,sf] aa w wr∧ab wr q 63 #[PT (some ⟨d,0,none⟩)]∧bQ wr aa lg d size V nx sg false∧ab wr q12 171 #[PT (some ⟨lg,0,none⟩)]∧ab wr q13 3 #[X Y lb]):=by
     obtain⟨⟨g1,g2,g3,g4,g5⟩,g6,g7,g8,g9,g10⟩:=hrel.out
     obtain⟨f1,f2,f3,f4⟩:=HF.out
     obtain⟨k1,k2,k3,k4,k5,k6,k7,k8,k9⟩:=HK.out
     rw[List.take_of_length_le (by omega)] at g2
     rw[g10 rfl] at g9
     rw[←k5] at g5 g8
     exact⟨g1,g2,g6,g3,⟨by omega,A4,c4,by rw[k5] at g8⊢;exact g8,cO g5 f1⟩,g7,hlb▸g9⟩
    have HLB:=jH hlb
    clear hrel y0 y1 y2 hlb
    obtain⟨k1,hk1⟩:∃k1,k1=wr.heap.size:=⟨_,rfl⟩
    go_wp2_with fail
    rw[←hk1]
    have hg8:ab (wr.alloc (cL #[.func (.func 192) #[] #[PT (some ⟨q13,0,none⟩),PT (some ⟨q12,0,none⟩),PT (some ⟨q,0,none⟩)],.func (.func 196) #[] #[PT (some ⟨q,0,none⟩),PT (some ⟨q12,0,none⟩)],.func (.func 197) #[PT (some ⟨d,0,none⟩)] #[]] 71)) k1 71 #[.func (.func 192) #[] #[PT (some ⟨q13,0,none⟩),PT (some ⟨q12,0,none⟩),PT (some ⟨q,0,none⟩)],.func (.func 196) #[] #[PT (some ⟨q,0,none⟩),PT (some ⟨q12,0,none⟩)],.func (.func 197) #[PT (some ⟨d,0,none⟩)] #[]]:=hk1▸ab.new wr _ _
    have hb8:Below wr.heap.size wr (wr.alloc (cL #[.func (.func 192) #[] #[PT (some ⟨q13,0,none⟩),PT (some ⟨q12,0,none⟩),PT (some ⟨q,0,none⟩)],.func (.func 196) #[] #[PT (some ⟨q,0,none⟩),PT (some ⟨q12,0,none⟩)],.func (.func 197) #[PT (some ⟨d,0,none⟩)] #[]] 71)):=(bR _ _).alloc (nR _) _
    have H8:(fun Vv:World=>Hid (ar Vv aa d mn ms D∧J ch.flatten.length Vv∧Fr (192::KD) [mn,sf] aa w Vv∧ab Vv q 63 #[PT (some ⟨d,0,none⟩)]∧bQ Vv aa lg d size V nx sg false∧ab Vv q12 171 #[PT (some ⟨lg,0,none⟩)]∧ab Vv q13 3 #[X Y lb])) (wr.alloc (cL #[.func (.func 192) #[] #[PT (some ⟨q13,0,none⟩),PT (some ⟨q12,0,none⟩),PT (some ⟨q,0,none⟩)],.func (.func 196) #[] #[PT (some ⟨q,0,none⟩),PT (some ⟨q12,0,none⟩)],.func (.func 197) #[PT (some ⟨d,0,none⟩)] #[]] 71)):=by
     obtain⟨g1,g2,g3,g4,g5,g6,g8⟩:=H6.out
     exact⟨g1.made hb8,hJb _ _ _ g2 hb8,g3.made hb8 g1.hi,g4.alloc _,g5.made hb8,g6.alloc _,g8.alloc _⟩
    clear H6 hb8 x0 hk1
    generalize (wr.alloc (cL #[.func (.func 192) #[] #[PT (some ⟨q13,0,none⟩),PT (some ⟨q12,0,none⟩),PT (some ⟨q,0,none⟩)],.func (.func 196) #[] #[PT (some ⟨q,0,none⟩),PT (some ⟨q12,0,none⟩)],.func (.func 197) #[PT (some ⟨d,0,none⟩)] #[]] 71))=w8 at *
    obtain⟨k_1,k_2,-,-,k_5,k_6,-,-,-⟩:=HK.out
    obtain⟨c_1,c_2,c_3,c_4⟩:=HC.out
    refine(mi [(192,#[],#[PT (some ⟨q13,0,none⟩),PT (some ⟨q12,0,none⟩),PT (some ⟨q,0,none⟩)]),(196,#[],#[PT (some ⟨q,0,none⟩),PT (some ⟨q12,0,none⟩)]),(197,#[PT (some ⟨d,0,none⟩)],#[])] (some ⟨k1,0,none⟩) 3 3 (k1 + 1)
     (fun j W=>Fr KD [mn] aa w8 W∧match j with
      |0=>ar W aa d mn ms D
      |1=>ar W aa d mn ms (ej D f lb ⟨aH V la++t,s⟩)
      |2=>ar W aa d mn ms (br (ej D f lb ⟨aH V la++t,s⟩) f p1)
      |_=>∃ms',w8.heap.size≤ms'∧ar W aa d mn ms' (eZ (br (ej D f lb ⟨aH V la++t,s⟩) f p1))) w8 rfl (by omega)
     (fun p hp=>by
      rcases List.mem_cons.1 hp with rfl|hp
      ·exact enters_of func192 (by kernel_rfl) rfl
      ·rcases List.mem_cons.1 hp with rfl|hp
       ·exact enters_of func196 (by kernel_rfl) rfl
       ·rcases List.mem_cons.1 hp with rfl|hp
        ·exact enters_of func197 (by kernel_rfl) rfl
        ·cases hp)
     (fun j W hW=>gV (hW.1.blk _ _ _ hg8 (by decide)) rfl) ⟨Fr.refl _ _ _ _,H8.out.1⟩ ?_).mono ?_
    ·intro j hj W hW
     have hqW:=hW.1.blk _ _ _ H8.out.2.2.2.1 (by decide)
     have hLW:=H8.out.2.2.2.2.1.fr hW.1 (by decide) (by decide)
     have h12W:=hW.1.blk _ _ _ H8.out.2.2.2.2.2.1 (by decide)
     have h13W:=hW.1.blk _ _ _ H8.out.2.2.2.2.2.2 (by decide)
     match j,hj,hW with
     |0,_,hW=>
      show Calls _ _ #[PT (some ⟨q13,0,none⟩),PT (some ⟨q12,0,none⟩),PT (some ⟨q,0,none⟩)] _ _
      refine(yL aa lg d mn ms size V nx i f q13 q12 q lb sg D ⟨aH V la++t,s⟩ W h13W h12W hqW hW.2 hLW (by omega) k_6 (by omega) (by omega) bo (by omega) k_1 k_2 (by rw[HLB.out];simp) hlim).mono ?_
      rintro e w' ⟨rfl,hD,hf⟩
      exact⟨rfl,hW.1.trans (hf.mono (by decide) (by simp)),hD⟩
     |1,_,hW=>
      show Calls _ _ #[PT (some ⟨q,0,none⟩),PT (some ⟨q12,0,none⟩)] _ _
      refine(yK aa lg d mn ms size V nx i f q q12 sg (ej D f lb ⟨aH V la++t,s⟩) p1 W hqW h12W hW.2 hLW (by omega) k_6 (by omega) (by omega) (HLB.out▸c_3) (by have:=HLB.out▸c_4;omega) (HLB.out▸c_2▸k_1) (HLB.out▸c_1)).mono ?_
      rintro e w' ⟨rfl,hD,hf⟩
      exact⟨rfl,hW.1.trans (hf.mono (by decide) (by simp)),hD⟩
     |2,_,hW=>
      show Calls _ _ #[PT (some ⟨d,0,none⟩)] _ _
      refine(qC aa d mn ms (br (ej D f lb ⟨aH V la++t,s⟩) f p1) W hW.2 (by show (ej D f lb ⟨aH V la++t,s⟩).ops + 1≤_;have:=HLB.out▸c_4;omega) (HLB.out▸c_3)).mono ?_
      rintro e w' ⟨rfl,⟨ms',hms,hD⟩,hf⟩
      exact⟨rfl,hW.1.trans (hf.mono (by decide) (by simp)),ms',nT hW.1.size hms,hD⟩
    ·rintro e w9 ⟨rfl,hf9,ms',hms',hD9⟩
     have HX:Hid (J ch.flatten.length w9∧w.heap.size≤ms'∧w.heap.size≤lg∧ar w9 aa d mn ms' (eZ (br (ej D f lb ⟨aH V la++t,s⟩) f p1))∧bQ w9 aa lg d size V nx sg false∧Fr (192::KD) [mn,sf] aa w w9):=by
      obtain⟨g1,g2,g3,g4,g5,g6,g8⟩:=H8.out
      exact⟨hJf _ _ _ g2 (hf9.mono (fun t ht=>List.mem_cons_of_mem _ ht) (by simp)),nT g3.size hms',HF.out.2.1,hD9,g5.fr hf9 (by decide) (by decide),g3.trans (hf9.mono (fun t ht=>List.mem_cons_of_mem _ ht) (by simp))⟩
     have h12:=hf9.blk _ _ _ H8.out.2.2.2.2.2.1 (by decide)
     have y0:=h12.c1
     have HOPS:Hid ((eZ (br (ej D f lb ⟨aH V la++t,s⟩) f p1)).ops≤D.ops + 3):=by show (ej D f lb ⟨aH V la++t,s⟩).ops + 1 + 1≤D.ops + 3;have:=HLB.out▸c_4;omega
     clear hf9 hD9 hms' H8 hg8 h12 k_1 k_2 k_5 k_6 c_1 c_2 c_3 c_4
     go_wp2_with fail
     go_ret2
     obtain⟨r1,r2,r3,r4,r5,r6⟩:=HX.out
     exact⟨lg,ms',_,rfl,r1,r2,r3,r4,HLB.out▸hfin.out.1,HOPS.out,HLB.out▸hfin.out.2,r5,r6⟩
inductive aE where
 |gen (g:Nat)(l:List Be)
 |put (f:Fl)
def aE.fr (V:Nat):aE→Nat×List Nat
 |.gen g l=>(3,cZ V g l)
 |.put f=>(1,cX V f)
def aE.Ok (V:Nat):aE→Prop
 |.gen g l=>g≤1000000∧dD l∧dz l.length l∧(∀b∈l,aX V b=b)∧l.length≤3
 |.put f=>cI f∧aT V f=f
def aE.step (x:Nat×List Be×List (Tu×Fl)):aE→Nat×List Be×List (Tu×Fl)
 |.gen g l=>(g,l,x.2.2)
 |.put f=>(x.1,x.2.1,aw x.2.2 f.k f)
def aS (rs:List aE):Nat×List Be×List (Tu×Fl):=rs.foldl aE.step (0,[],[])
theorem kf (rs:List aE)(r:aE):aS (rs++[r])=aE.step (aS rs) r:=by simp[aS,List.foldl_append]
theorem zj {κ ν:Type}[DecidableEq κ](m:List (κ×ν))(x:κ)(v:ν):(aw m x v).length≤m.length + 1:=by
 unfold aw
 split<;>simp
theorem ya (rs:List aE):∀x:Nat×List Be×List (Tu×Fl),(rs.foldl aE.step x).2.2.length≤x.2.2.length + rs.length:=by
 induction rs with
 |nil=>intro x;simp
 |cons r rs ih=>
  intro x
  rw[List.foldl_cons,List.length_cons]
  have h:=ih (aE.step x r)
  have h2:(aE.step x r).2.2.length≤x.2.2.length + 1:=by
   cases r with
   |gen g l=>simp[aE.step]
   |put f=>exact zj _ _ _
  omega
theorem jy (rs:List aE):(aS rs).2.2.length≤rs.length:=by
 have:=ya rs (0,[],[])
 simpa [aS] using this
theorem aE.Ok.frs {V:Nat}{r:aE}(h:r.Ok V):gq (r.fr V):=by
 cases r with
 |gen g l=>exact⟨by show 3≤255;omega,by show 0 < (cZ V g l).length;have:=lR V g l;omega,by show (cZ V g l).length≤27;have:=lR V g l;have:=h.2.2.2.2;omega,BB V g l⟩
 |put f=>exact⟨by show 1≤255;omega,by show 0 < (cX V f).length;have:=lz V f;omega,by show (cX V f).length≤27;exact(lz V f).2,yi V f⟩
theorem xP (aa sp sd sf V:Nat)(v1:1≤V)(v3:V≤3)(rs:List aE)(hok:∀r∈rs,r.Ok V)(ax:rs.length≤200)(j k:Nat)(l:List Nat)(A:Option Addr)(c:Nat)(W:World)(hj:(rs.map (aE.fr V))[j]? =some (k,l))
  (hJ:bP W aa sp sd sf (aS (rs.take j)).1 (aS (rs.take j)).2.1 (aS (rs.take j)).2.2)(hr:Reads W W.heap.size 1 A l.length (bv l))(bI:A=none→c=0):
  Calls Pg 99 #[aG #[PT (some ⟨sp,0,none⟩)],aG #[X Y k,X Y V,G A l.length c]] W fun e W'=>e=rT (X Y 0)∧bP W' aa sp sd sf (aS (rs.take (j + 1))).1 (aS (rs.take (j + 1))).2.1 (aS (rs.take (j + 1))).2.2∧Fr [192] [sf] aa W W':=by
 rw[List.getElem?_map] at hj
 obtain⟨r,hrj,hfr⟩:∃r,rs[j]? =some r∧r.fr V=(k,l):=by
  cases h:rs[j]? with
  |none=>rw[h] at hj;cases hj
  |some r=>rw[h] at hj;injection hj with hj;exact⟨r,rfl,hj⟩
 have ht:rs.take (j + 1)=rs.take j++[r]:=by rw[List.take_add_one,hrj];rfl
 rw[ht,kf]
 have hro:=hok r (List.mem_of_getElem? hrj)
 have hl2:(aS (rs.take j)).2.2.length < 256:=by have:=jy (rs.take j);rw[List.length_take] at this;omega
 generalize aS (rs.take j)=x at *
 cases r with
 |gen g bl=>
  injection hfr with h1 h2
  subst h1 h2
  obtain⟨o1,o2,o3,o4,-⟩:=hro
  refine(xG aa sp sd sf x.1 x.2.1 x.2.2 V v1 v3 g bl o4 o1 o2 o3 A _ c W.heap.size W hJ hr (nR _) bI).mono ?_
  rintro e W' ⟨rfl,h1,h2⟩
  exact⟨rfl,h1,h2.mono (by simp) (by simp)⟩
 |put f=>
  injection hfr with h1 h2
  subst h1 h2
  refine(xF aa sp sd sf x.1 x.2.1 x.2.2 V v1 v3 f hro.1 hro.2 hl2 A _ c W.heap.size W hJ hr (nR _) bI).mono ?_
  rintro e W' ⟨rfl,h1,h2⟩
  exact⟨rfl,h1,h2.mono (by simp) (by simp)⟩
end
section
open Go.RowKit Go.Maps
structure dw (w:World)(aa ss lg sp sd sf d mn size Q V ops:Nat)(rs:List aE)(n:Nat)(mo:List Nat):Prop where
 sto:ie w aa ss lg sp
 st:bP w aa sp sd sf (aS rs).1 (aS rs).2.1 (aS rs).2.2
 lx:dS w aa lg d mn size Q V ops (rs.map (aE.fr V)) n mo
 ok:∀r∈rs,r.Ok V
 isd:sd∈mo
 isf:sf∈mo
 mm:mn≠sf
 md:mn≠sd
theorem dS.vs {w:World}{aa lg d mn size Q V ops n:Nat}{fs:List (Nat×List Nat)}{mo:List Nat}(h:dS w aa lg d mn size Q V ops fs n mo):1≤V∧V≤3∧43≤size∧size≤957:=by
 obtain⟨ms,D,cs,la,m,fl,fm,h1,h2,h3,-⟩:=h
 exact⟨h3.V1,h3.V3,h3.s1,h3.s2⟩
section
variable {w w':World}{aa ss lg sp sd sf d mn size Q V ops n:Nat}{rs:List aE}{mo:List Nat}
theorem dw.made (h:dw w aa ss lg sp sd sf d mn size Q V ops rs n mo)(hb:Below w.heap.size w w'):dw w' aa ss lg sp sd sf d mn size Q V ops rs n mo:=
 {h with sto:=h.sto.made hb,st:=h.st.made hb,lx:=h.lx.made hb}
theorem dw.fr {base':Nat}{K:List TypeId}{M:List Nat}(h:dw w aa ss lg sp sd sf d mn size Q V ops rs n mo)(hf:Fr K M base' w w')(h1:175∉K)(h2:192∉K)(h3:34∉K)(hK:∀t∈KX,t∉K)(m1:sd∉M)(m2:sf∉M)(m3:mn∉M)(m4:∀x∈M,x∈mo):dw w' aa ss lg sp sd sf d mn size Q V ops rs n mo:=
 {h with sto:=h.sto.fr hf h1,st:=h.st.fr hf h2 h3 m1 m2,lx:=h.lx.fr hf hK m3 m4}
end
theorem tW {V:Nat}{l:List Be}(h:dD l):dD (l.map (aX V)):=by
 intro b hb
 obtain⟨x,hx,rfl⟩:=List.mem_map.1 hb
 obtain⟨h1,h2,h3⟩:=h x hx
 refine⟨h1,h2,?_⟩
 show -9223372036854775808≤(if V < 2 then (1:Int) else x.weight)∧(if V < 2 then (1:Int) else x.weight)≤9223372036854775807
 split
 ·omega
 ·exact h3
theorem AT (V:Nat)(b:Be):aX V (aX V b)=aX V b:=by
 unfold aX
 by_cases h:V < 2<;>simp[h]
theorem AR (V:Nat)(f:Fl):aT V (aT V f)=aT V f:=by
 unfold aT
 by_cases h:V < 2<;>by_cases h3:V < 3<;>simp[h,h3]
theorem rZ {V:Nat}{l:List Be}(h:dz l.length l):dz (l.map (aX V)).length (l.map (aX V)):=by
 refine⟨by rw[List.length_map];exact h.1,fun j hj=>?_⟩
 rw[List.length_map] at hj
 obtain⟨h0,h1,h2,h3,h4,h5⟩:=h.2 j hj
 refine⟨by rw[List.length_map];exact h0,?_,?_,?_,?_,fun hp=>?_⟩
 ·rw[List.getElem_map];exact h1
 ·rw[List.getElem_map];exact h2
 ·rw[List.getElem_map];show 1≤(if V < 2 then (1:Int) else l[j].weight);split;exact Int.le_refl _;exact h3
 ·rw[List.getElem_map];show (if V < 2 then (1:Int) else l[j].weight)≤10;split;omega;exact h4
 ·rw[List.getElem_map,List.getElem_map];exact h5 hp
theorem sI (V g:Nat)(l:List Be):cZ V g (l.map (aX V))=cZ V g l:=by
 unfold cZ dC
 rw[List.length_map,List.flatMap_map]
 congr 2
 funext b
 show ib V (aX V b)=ib V b
 unfold ib aX
 by_cases h:2≤V
 ·simp[h,show ¬V < 2 by omega]
 ·simp[h]
theorem rj (V:Nat)(f:Fl):cX V (aT V f)=cX V f:=by
 unfold cX aT
 by_cases h:2≤V
 ·by_cases h3:3≤V
  ·simp[h,h3,show ¬V < 2 by omega,show ¬V < 3 by omega]
  ·simp[h,h3,show ¬V < 2 by omega]
 ·simp[h,show ¬3≤V by omega]
theorem uA (aa sp sd sf gen mn V:Nat)(v1:1≤V)(v3:V≤3)(bl:List Be)(fm:List (Tu×Fl))(f:Fl)(hf:cI f)(ax:fm.length < 256):pw (fun _=>True) aa sp sd sf gen gen bl bl fm (aw fm f.k (aT V f)) V 1 (cX V f).length (cX V f) (recC 1 f 0 (G none 0 0)) mn where
 env:=fun _ _ _ _=>trivial
 may:=fun W _=>lr f hf W
 app:=fun base2 sp2 sd2 sf2 W _ hS=>(po base2 sp2 sd2 sf2 gen bl fm f hf W hS ax).mono fun _ _ ⟨h1,_,h3⟩=>⟨h1,h3.below⟩
 enc:=fun W _=>xW V v1 v3 f hf W
 into:=fun W _=>(xU V v1 v3 f W).mono fun _ W' ⟨h1,h2⟩=>⟨_,h1,h2,fun h=>(po aa sp sd sf gen bl fm (aT V f) (ow hf) W' h ax).mono fun _ _ ⟨g1,g2,g3⟩=>⟨g1,g2,g3.mono (by simp) (by simp)⟩⟩
theorem uB (aa sp sd sf gen gn mn b0 V:Nat)(v1:1≤V)(v3:V≤3)(bl:List Be)(fm:List (Tu×Fl))(hgn:gn≤1000000)(A:Option Addr)(c:Nat)(l:List Be)(hok:dD l)(bu:dz l.length l):pw (fun W=>W.ownsRow b0 34 3 (G A l.length c) l.length (aC l)) aa sp sd sf gen gn bl (l.map (aX V)) fm fm V 3 (cZ V gn l).length (cZ V gn l) (cU (gn:Int) (G A l.length c)) mn where
 env:=fun W W' h hf=>hf.own h (by decide)
 may:=fun W h=>lu gn hgn A l.length c W.heap.size l W (Reads.of_own h) (nR _) bu.1 (mg rfl bu)
 app:=fun base2 sp2 sd2 sf2 W h hS=>(pq base2 sp2 sd2 sf2 gen bl fm gn hgn A l.length c W.heap.size l W (Reads.of_own h) (nR _) hok bu (dN h).1 (fun e=>gA h e) hS).mono fun _ _ ⟨h1,_,h3⟩=>⟨h1,h3.below⟩
 enc:=fun W h=>xX V v1 v3 gn hgn A l.length c W.heap.size l W (Reads.of_own h) (nR _) bu.1 (mg rfl bu) (fun b hb=>(hok b hb).2.1)
 into:=fun W h=>(xV V v1 v3 (gn:Int) A l.length c W.heap.size l W (Reads.of_own h) (nR _) (by have:=bu.1;omega) (fun e=>gA h e)).mono fun _ W' ⟨A',c',h1,h2,h3⟩=>⟨_,h1,h3,fun hS=>by
  have hl:(l.map (aX V)).length=l.length:=List.length_map _
  have hm:=rZ (V:=V) bu
  rw[hl] at hm
  have CA:=pq aa sp sd sf gen bl fm gn hgn A' l.length c' W'.heap.size (l.map (aX V)) W' (Reads.of_own h2) (nR _) (tW hok) hm (dN h2).1 (fun e=>gA h2 e) hS
  exact CA.mono fun _ _ ⟨g1,g2,g3⟩=>⟨g1,g2,g3.mono (by simp) (by simp)⟩⟩
section
variable (aa ss lg sp sd sf d mn size Q V ops n:Nat)(rs:List aE)(mo:List Nat)(w:World)
theorem vN (h:dw w aa ss lg sp sd sf d mn size Q V ops rs n mo)(f:Fl)(hf:cI f)(aP:ops≤600000000000)(hbl:(aS rs).2.1.length≤1000)(hcap:rs.length < 3 * (size / 43))(hr:rs.length < 200):
  Calls Pg 110 #[PT (some ⟨ss,0,none⟩),.agg (recC 1 f 0 (G none 0 0))] w fun e w'=>e=rT (X Y 0)∧dw w' aa ss lg sp sd sf d mn size Q V (ops + 9) (rs++[.put (aT V f)]) n mo∧Fr KW [mn,sf] aa w w':=by
 obtain⟨v1,v3,-⟩:=h.lx.vs
 have hro:(aE.put (aT V f)).Ok V:=⟨ow hf,AR V f⟩
 have hfr:=hro.frs
 rw[show (aE.put (aT V f)).fr V=(1,cX V f) by show (1,cX V (aT V f))=_;rw[rj]] at hfr
 refine(qJ (fun _=>True) aa ss lg sp sd sf _ _ d mn size Q V ops n 1 (cX V f).length (cX V f) _ _ _ _ (aw (aS rs).2.2 f.k (aT V f)) _ _ _ _ _ _ _ _ _ _ _ _ _ mo w trivial (uA aa sp sd sf _ mn V v1 v3 _ _ f hf (by have:=jy rs;omega)) h.sto h.st h.lx hbl aP (by omega) (by rw[List.length_map];exact hcap) hfr rfl h.mm h.md h.isf).mono ?_
 rintro e w' ⟨rfl,g2,g3,g4,g5⟩
 refine⟨rfl,{h with sto:=g4,st:=?_,lx:=?_,ok:=fun r hr=>?_},g5⟩
 ·rw[kf];exact g3
 ·rw[List.map_append,List.map_cons,List.map_nil,show (aE.put (aT V f)).fr V=(1,cX V f) by show (1,cX V (aT V f))=_;rw[rj]];exact g2
 ·rcases List.mem_append.1 hr with hr|hr
  ·exact h.ok r hr
  ·rw[List.mem_singleton.1 hr];exact hro
theorem vP (h:dw w aa ss lg sp sd sf d mn size Q V ops rs n mo)(gn:Nat)(hgn:gn≤1000000)(A:Option Addr)(c b0:Nat)(l:List Be)(ho:w.ownsRow b0 34 3 (G A l.length c) l.length (aC l))(hok:dD l)(bu:dz l.length l)(hl3:l.length≤3)(aP:ops≤600000000000)(hbl:(aS rs).2.1.length≤1000)(hcap:rs.length < 3 * (size / 43)):
  Calls Pg 110 #[PT (some ⟨ss,0,none⟩),.agg (cU (gn:Int) (G A l.length c))] w fun e w'=>e=rT (X Y 0)∧dw w' aa ss lg sp sd sf d mn size Q V (ops + 9) (rs++[.gen gn (l.map (aX V))]) n mo∧Fr KW [mn,sf] aa w w':=by
 obtain⟨v1,v3,-⟩:=h.lx.vs
 have hro:(aE.gen gn (l.map (aX V))).Ok V:=⟨hgn,tW hok,rZ bu,fun b hb=>by obtain⟨x,-,rfl⟩:=List.mem_map.1 hb;exact AT V x,by rw[List.length_map];exact hl3⟩
 have hfr:=hro.frs
 rw[show (aE.gen gn (l.map (aX V))).fr V=(3,cZ V gn l) by show (3,cZ V gn (l.map (aX V)))=_;rw[sI]] at hfr
 refine(qJ _ aa ss lg sp sd sf _ gn d mn size Q V ops n 3 (cZ V gn l).length (cZ V gn l) _ _ (l.map (aX V)) _ _ _ _ _ _ _ _ _ _ _ _ _ _ _ mo w ho (uB aa sp sd sf _ gn mn b0 V v1 v3 _ _ hgn A c l hok bu) h.sto h.st h.lx hbl aP (by omega) (by rw[List.length_map];exact hcap) hfr rfl h.mm h.md h.isf).mono ?_
 rintro e w' ⟨rfl,g2,g3,g4,g5⟩
 refine⟨rfl,{h with sto:=g4,st:=?_,lx:=?_,ok:=fun r hr=>?_},g5⟩
 ·rw[kf];exact g3
 ·rw[List.map_append,List.map_cons,List.map_nil,show (aE.gen gn (l.map (aX V))).fr V=(3,cZ V gn l) by show (3,cZ V gn (l.map (aX V)))=_;rw[sI]];exact g2
 ·rcases List.mem_append.1 hr with hr|hr
  ·exact h.ok r hr
  ·rw[List.mem_singleton.1 hr];exact hro
end
end
section
open Go.RowKit Go.Maps Go.Shelf Go.Sort
theorem Fa (x y:Fl)(w:World):Calls Pg 59 #[bj x,bj y] w fun e w'=>e=rT (X Y (gg x y))∧∃q os',w'=grow (w.drewN q) os':=by
 have HC:Hid (gg x y=if dY x.k y.k=true then -1 else 1):=rfl
 have af:=((bR w.heap.size w).alloc (nR _) (.cells x.vals 47)).alloc (by simp) (.cells y.vals 47)
 have hx:=(ab.new w 47 x.vals).alloc (.cells y.vals 47)
 have hy:ab ((w.alloc (.cells x.vals 47)).alloc (.cells y.vals 47)) (w.heap.size + 1) 47 y.vals:=ab.new_ (by simp)
 have hd2:w.drawn≤((w.alloc (.cells x.vals 47)).alloc (.cells y.vals 47)).drawn:=nR _
 obtain⟨⟨s1,d1,p1,sp1,dp1⟩,b1,g1,n1⟩:=x
 obtain⟨⟨s2,d2,p2,sp2,dp2⟩,b2,g2,n2⟩:=y
 have hs0:((w.alloc (cL (Fl.vals ⟨⟨s1,d1,p1,sp1,dp1⟩,b1,g1,n1⟩) 47)).alloc (cL (Fl.vals ⟨⟨s2,d2,p2,sp2,dp2⟩,b2,g2,n2⟩) 47)).heap.size=w.heap.size + 2:=by simp
 unfold bj Fl.vals at *
 dsimp only at *
 go_enter func59,ntmps59
 go_wp2_with fail
 generalize (w.alloc (cL #[X Z s1,X Z d1,X Y p1,X Y sp1,X Y dp1,X Y b1,X Y g1,X Y n1] 47)).alloc (cL #[X Z s2,X Z d2,X Y p2,X Y sp2,X Y dp2,X Y b2,X Y g2,X Y n2] 47)=w2 at *
 have CT:=jH (ql ⟨s1,d1,p1,sp1,dp1⟩ ⟨s2,d2,p2,sp2,dp2⟩ w2)
 have HB:=jH (aI af (aI hd2 hs0))
 clear af hx hy hd2 hs0
 unfold Tu.vals at CT
 dsimp only at CT
 refine CT.out.mono ?_
 rintro e w3 ⟨rfl,al,hd3⟩
 have HB3:Hid (∃q os',w3=grow (w.drewN q) os'):=tX (HB.out.1.trans (al.mono (by have:=HB.out.2.2;omega))) (nT HB.out.2.1 hd3)
 clear al hd3
 generalize dY ⟨s1,d1,p1,sp1,dp1⟩ ⟨s2,d2,p2,sp2,dp2⟩=c at *
 cases c
 all_goals
  go_wp2
  go_ret
  exact⟨by rw[HC.out];rfl,HB3.out⟩
theorem pT (x y:Fl)(w:World):Calls Pg 101 #[bj x,bj y] w fun e w'=>e=rT (X Y (gg x y))∧∃q os',w'=grow (w.drewN q) os':=by
 have HC:Hid (gg x y=if dY x.k y.k=true then -1 else 1):=rfl
 have af:=((bR w.heap.size w).alloc (nR _) (.cells x.vals 47)).alloc (by simp) (.cells y.vals 47)
 have hx:=(ab.new w 47 x.vals).alloc (.cells y.vals 47)
 have hy:ab ((w.alloc (.cells x.vals 47)).alloc (.cells y.vals 47)) (w.heap.size + 1) 47 y.vals:=ab.new_ (by simp)
 have hd2:w.drawn≤((w.alloc (.cells x.vals 47)).alloc (.cells y.vals 47)).drawn:=nR _
 obtain⟨⟨s1,d1,p1,sp1,dp1⟩,b1,g1,n1⟩:=x
 obtain⟨⟨s2,d2,p2,sp2,dp2⟩,b2,g2,n2⟩:=y
 have hs0:((w.alloc (cL (Fl.vals ⟨⟨s1,d1,p1,sp1,dp1⟩,b1,g1,n1⟩) 47)).alloc (cL (Fl.vals ⟨⟨s2,d2,p2,sp2,dp2⟩,b2,g2,n2⟩) 47)).heap.size=w.heap.size + 2:=by simp
 unfold bj Fl.vals at *
 dsimp only at *
 go_enter func101,ntmps101
 go_wp2_with fail
 generalize (w.alloc (cL #[X Z s1,X Z d1,X Y p1,X Y sp1,X Y dp1,X Y b1,X Y g1,X Y n1] 47)).alloc (cL #[X Z s2,X Z d2,X Y p2,X Y sp2,X Y dp2,X Y b2,X Y g2,X Y n2] 47)=w2 at *
 have CT:=jH (ql ⟨s1,d1,p1,sp1,dp1⟩ ⟨s2,d2,p2,sp2,dp2⟩ w2)
 have HB:=jH (aI af (aI hd2 hs0))
 clear af hx hy hd2 hs0
 unfold Tu.vals at CT
 dsimp only at CT
 refine CT.out.mono ?_
 rintro e w3 ⟨rfl,al,hd3⟩
 have HB3:Hid (∃q os',w3=grow (w.drewN q) os'):=tX (HB.out.1.trans (al.mono (by have:=HB.out.2.2;omega))) (nT HB.out.2.1 hd3)
 clear al hd3
 generalize dY ⟨s1,d1,p1,sp1,dp1⟩ ⟨s2,d2,p2,sp2,dp2⟩=c at *
 cases c
 all_goals
  go_wp2
  go_ret
  exact⟨by rw[HC.out];rfl,HB3.out⟩
theorem DK (g:Nat)(lb:Array Value)(eg:∀args w,(callFunc g args).run Pg w=.ok (.enter g args) w)(S:List Fl→Prop)(N:Nat)(hN:N≤1000000)(w:World)(hseq:∀W:World,w.heap.size≤W.heap.size→Below w.heap.size w W→SeqStopsK Fence.wide 7 Pg g lb (fun f:Fl=>#[bj f]) KeepsWalks S (fun _=>True) N W):
  Calls Pg 136 #[.func (.func g) #[] lb] w fun e w'=>∃(v:Value) (fs:List Fl),e=rT v∧S fs∧w'.ownsRow w.heap.size 47 8 v fs.length (bE fs)∧Below w.heap.size w w':=by
 have CA:=fun W h1 h2=>callsIn_wide.1 (E5 8 (by omega) g lb eg S N hN W (hseq W h1 h2))
 have C0:=jH (CA w (nR _) (bR _ _))
 clear CA hseq
 go_enter func136,ntmps136
 go_wp2_with fail
 refine C0.out.mono ?_
 rintro e w1 ⟨v,fs,rfl,hS,hown,hb⟩
 have HO:=jH (aI hS (aI hown hb))
 clear hS hown hb
 go_wp2
 go_ret
 exact⟨_,fs,rfl,HO.out.1,HO.out.2.1,HO.out.2.2⟩
theorem mD (b:Nat)(w:World):
  Calls Pg 58 #[.map (some b)] w fun e w'=>e=rT (.func (.func 138) #[] #[PT (some ⟨w.heap.size,0,none⟩)])∧w'=w.alloc (cL #[.map (some b)] 147):=by
 go_enter func58,ntmps58
 go_wp2
 go_ret
 exact⟨rfl,rfl⟩
theorem wi (c:Nat)(ec:∀args w,(callFunc c args).run Pg w=.ok (.enter c args) w)
  (hc:∀x y W,Calls Pg c #[bj x,bj y] W fun e w'=>e=rT (X Y (gg x y))∧∃q os',w'=grow (W.drewN q) os')
  (g:Nat)(lb:Array Value)(eg:∀args w,(callFunc g args).run Pg w=.ok (.enter g args) w)(m:List Fl)(hN:m.length≤1000000)(w:World)(hseq:∀W:World,w.heap.size≤W.heap.size→Below w.heap.size w W→SeqStopsK Fence.wide 7 Pg g lb (fun f:Fl=>#[bj f]) KeepsWalks (fun xs=>xs.Perm m) (fun _=>True) m.length W):
  Calls Pg 57 #[.func (.func g) #[] lb,.func (.func c) #[] #[]] w fun e w'=>∃(v:Value) (fs:List Fl),e=rT v∧fs.Perm m∧w'.ownsRow w.heap.size 47 8 v fs.length (bE fs)∧Below w.heap.size w w':=by
 have C1:=jH (DK g lb eg (fun xs=>xs.Perm m) m.length hN w hseq)
 have C2:=jH (wj c ec hc)
 clear hseq hc ec eg
 go_enter func57,ntmps57
 go_wp2_with fail
 refine C1.out.mono ?_
 rintro e w1 ⟨v,fs,rfl,hS,hown,hb⟩
 have HO:=jH (aI hS (aI hown hb))
 clear hS hown hb
 go_wp2_with fail
 refine(C2.out v fs w.heap.size w1 HO.out.2.1 (by rw[HO.out.1.length_eq];exact hN)).mono ?_
 rintro e w2 ⟨rfl,fs',hp,bH,hg2⟩
 have HP:Hid (fs'.Perm m∧w2.ownsRow w.heap.size 47 8 v fs'.length (bE fs')∧Below w.heap.size w w2):=⟨hp.trans HO.out.1,bH,HO.out.2.2.grown hg2 HO.out.2.2.size (fun k e=>(HO.out.2.1.lt k e).1)⟩
 clear hp bH hg2 C1 C2 HO
 go_wp2
 go_ret
 exact⟨_,fs',rfl,HP.out⟩
theorem ng (c:Nat)(ec:∀args w,(callFunc c args).run Pg w=.ok (.enter c args) w)
  (hc:∀x y W,Calls Pg c #[bj x,bj y] W fun e w'=>e=rT (X Y (gg x y))∧∃q os',w'=grow (W.drewN q) os')
  (Bm b:Nat)(fm:List (Tu×Fl))(hN:fm.length≤1000000)(w:World)(hBm:Bm < w.heap.size)(hm:w.cell? ⟨Bm,0,none⟩=some (.map (some b)))(hown:aL w bS bT bj b fm):
  Calls Pg 57 #[.func (.func 138) #[] #[PT (some ⟨Bm,0,none⟩)],.func (.func c) #[] #[]] w fun e w'=>∃(v:Value) (fs:List Fl),e=rT v∧fs.Perm (fm.map (·.2))∧w'.ownsRow w.heap.size 47 8 v fs.length (bE fs)∧Below w.heap.size w w':=
 wi c ec hc _ _ (enters_of func138 (by kernel_rfl) rfl) (fm.map (·.2)) (by simpa using hN) w fun W h1 h2=>by
  have:=uM 7 Bm b (by omega) fm W (Nat.lt_of_lt_of_le hBm h1) ((h2.cell (p:=⟨Bm,0,none⟩) hBm).trans hm) (hown.below h2 hown.lt)
  rwa [List.length_map]
theorem Ca (tp tm most ah:Nat)(tk qp:Nat)(fm:List (Tu×Fl))(hN:fm.length≤1000000)(w:World)(hx:ab w tp 150 #[X Y most,X Y ah,.map (some tm),.map (some tk),PT (some ⟨qp,0,none⟩)])(hmf:aL w bS bT bj tm fm):
  Calls Pg 23 #[PT (some ⟨tp,0,none⟩)] w fun e w'=>∃(v:Value) (fs:List Fl),e=rT v∧fs.Perm (fm.map (·.2))∧w'.ownsRow w.heap.size 47 8 v fs.length (bE fs)∧Below w.heap.size w w':=by
 have c2:=hx.cell 2
 have CV:=jH (mD tm)
 have HW:Hid (∀W:World,W.heap.size=w.heap.size→Below w.heap.size w W→Calls Pg 57 #[.func (.func 138) #[] #[PT (some ⟨W.heap.size,0,none⟩)],.func (.func 59) #[] #[]] (W.alloc (cL #[.map (some tm)] 147)) fun e w'=>∃(v:Value) (fs:List Fl),e=rT v∧fs.Perm (fm.map (·.2))∧w'.ownsRow w.heap.size 47 8 v fs.length (bE fs)∧Below w.heap.size w w'):=by
  intro W hs hb
  have af:Below w.heap.size w (W.alloc (cL #[.map (some tm)] 147)):=hb.alloc (by omega) _
  refine(ng 59 (enters_of func59 (by kernel_rfl) rfl) Fa W.heap.size tm fm hN (W.alloc (cL #[.map (some tm)] 147)) (by simp) ((ab.new W _ _).cell 0) (hmf.below af hmf.lt)).mono ?_
  rintro e w' ⟨v,fs,rfl,hp,hown,hb'⟩
  exact⟨v,fs,rfl,hp,cO hown (by simp;omega),af.trans (hb'.mono (by simp;omega))⟩
 clear hmf
 go_enter func23,ntmps23
 go_wp2_with fail
 refine(CV.out w).mono ?_
 rintro e w1 ⟨rfl,rfl⟩
 go_wp2_with fail
 refine(HW.out w rfl (bR _ _)).mono ?_
 rintro e w2 ⟨v,fs,rfl,hp,hown,hb⟩
 have HP:=jH (aI hp (aI hown hb))
 clear hp hown hb CV HW
 go_wp2
 go_ret
 exact⟨_,fs,rfl,HP.out⟩
end
section
open Go.RowKit Go.Maps
theorem oq:(Pg.info? 44).map (·.size)=some 4:=by kernel_rfl
theorem ll (aa sp sd sf gen:Nat)(bl:List Be)(fm:List (Tu×Fl))(w:World)(h:bP w aa sp sd sf gen bl fm)(hbl:bl.length≤1000)(hfm:fm.length≤1000000):
  Calls Pg 40 #[PT (some ⟨sp,0,none⟩)] w fun e w'=>∃(A:Option Addr) (c:Nat) (v:Value) (fs:List Fl),e=rT (aG #[X Y gen,G A bl.length c,G none 0 0,v])∧w'.ownsRow w.heap.size 34 3 (G A bl.length c) bl.length (aC bl)∧fs.Perm (fm.map (·.2))∧w'.ownsRow w.heap.size 47 8 v fs.length (bE fs)∧Below w.heap.size w w':=by
 obtain⟨A,c,hb,ho⟩:=h.blk
 have ae:=(bR w.heap.size w).alloc (nR _) (cL #[X Y 0,G none 0 0,G none 0 0,G none 0 0] 44)
 have hr:=ab.new w 44 #[X Y 0,G none 0 0,G none 0 0,G none 0 0]
 have hz:(w.alloc (cL #[X Y 0,G none 0 0,G none 0 0,G none 0 0] 44)).heap.size=w.heap.size + 1:=by simp
 have hbb:=hb.below ae hb.lt
 have h1:=h.made ae
 have ho1:=aJ ho ae
 go_enter func40,ntmps40
 go_wp2_with fail
 generalize w.alloc (cL #[X Y 0,G none 0 0,G none 0 0,G none 0 0] 44)=w1 at *
 have C1:=jH (gH A bl.length c w1.drew.heap.size bl w1.drew (Reads.of_own ho1).drew (nR _) (by omega) (fun e=>gA ho e))
 have hzA:(w1.alloc (cL #[X Y 0,G none 0 0,G none 0 0,G none 0 0] 44)).drew.heap.size=w1.heap.size + 1:=by show (w1.alloc _).heap.size=_;simp
 have hbA:Below w1.heap.size w1 (w1.alloc (cL #[X Y 0,G none 0 0,G none 0 0,G none 0 0] 44)).drew:=((bR _ _).alloc (nR _) _).drew
 have CA:=jH (gH A bl.length c (w1.alloc (cL #[X Y 0,G none 0 0,G none 0 0,G none 0 0] 44)).drew.heap.size bl (w1.alloc (cL #[X Y 0,G none 0 0,G none 0 0,G none 0 0] 44)).drew (Reads.of_own (aJ ho1 hbA)) (nR _) (by omega) (fun e=>gA ho e))
 have nA:ab (w1.alloc (cL #[X Y 0,G none 0 0,G none 0 0,G none 0 0] 44)).drew w1.heap.size 44 #[X Y 0,G none 0 0,G none 0 0,G none 0 0]:=(ab.new w1 _ _).drew
 have kA:=hbb.below hbA hbb.lt
 have c0:w1.drew.cell? ⟨sp,0,none⟩=some (X Y gen)∧w1.drew.cell? ⟨sp,1,none⟩=some (G A bl.length c):=⟨by have:=hbb.drew.cell 0;simpa using this,by have:=hbb.drew.cell 1;simpa using this⟩
 have a0:(w1.alloc (cL #[X Y 0,G none 0 0,G none 0 0,G none 0 0] 44)).drew.cell? ⟨sp,0,none⟩=some (X Y gen)∧(w1.alloc (cL #[X Y 0,G none 0 0,G none 0 0,G none 0 0] 44)).drew.cell? ⟨sp,1,none⟩=some (G A bl.length c):=⟨by have:=kA.cell 0;simpa using this,by have:=kA.cell 1;simpa using this⟩
 have H:=jH (aI h1 (aI hbb (aI hr (aI ae hz))))
 clear h1 hr ae hz ho1 h hb ho hbA
 go_region_held3 (fun wS=>wS.cell? ⟨sp,0,none⟩=some (X Y gen)∧wS.cell? ⟨sp,1,none⟩=some (G A bl.length c)) (first|with_reducible exact c0|with_reducible exact a0|with_reducible exact e0|with_reducible exact h1 _|with_reducible exact h2 _ _ _ _|with_reducible exact h3 _ _|fail)
  (first
   |(go_at_call 21;(with_reducible refine C1.out.mono ?_);rintro e w2 ⟨A1,c1,rfl,aQ,af⟩;have k1:=hbb.drew.below af hbb.lt;have e0:w2.cell? ⟨sp,0,none⟩=some (X Y gen)∧w2.cell? ⟨sp,1,none⟩=some (G A bl.length c):=⟨by {have:=k1.cell 0;simpa using this},by {have:=k1.cell 1;simpa using this}⟩;have h1:∀o,(w2.alloc o).cell? ⟨sp,0,none⟩=some (X Y gen)∧(w2.alloc o).cell? ⟨sp,1,none⟩=some (G A bl.length c):=fun o=>⟨by {have:=(k1.alloc o).cell 0;simpa using this},by {have:=(k1.alloc o).cell 1;simpa using this}⟩)
   |(go_at_call 21;(with_reducible refine CA.out.mono ?_);rintro e w2 ⟨A1,c1,rfl,aQ,af⟩;have k1:=kA.below af kA.lt;have e0:w2.cell? ⟨sp,0,none⟩=some (X Y gen)∧w2.cell? ⟨sp,1,none⟩=some (G A bl.length c):=⟨by {have:=k1.cell 0;simpa using this},by {have:=k1.cell 1;simpa using this}⟩;have n2:=nA.below af nA.lt;have s0:w2.cell? ⟨w1.heap.size,0,none⟩=some (X Y 0):=by {have:=n2.cell 0;simpa using this};have s1:w2.cell? ⟨w1.heap.size,1,none⟩=some (G none 0 0):=by {have:=n2.cell 1;simpa using this};have s2:w2.cell? ⟨w1.heap.size,2,none⟩=some (G none 0 0):=by {have:=n2.cell 2;simpa using this};have s3:w2.cell? ⟨w1.heap.size,3,none⟩=some (G none 0 0):=by {have:=n2.cell 3;simpa using this};have z0:=n2.frozen 0;have z1:=n2.frozen 1;have z2:=n2.frozen 2;have z3:=n2.frozen 3;have hn:=k1.ne_ n2 (by decide);have h2:∀v0 v1 v2 v3,((((w2.setCell ⟨w1.heap.size,0,none⟩ v0).setCell ⟨w1.heap.size,1,none⟩ v1).setCell ⟨w1.heap.size,2,none⟩ v2).setCell ⟨w1.heap.size,3,none⟩ v3).cell? ⟨sp,0,none⟩=some (X Y gen)∧((((w2.setCell ⟨w1.heap.size,0,none⟩ v0).setCell ⟨w1.heap.size,1,none⟩ v1).setCell ⟨w1.heap.size,2,none⟩ v2).setCell ⟨w1.heap.size,3,none⟩ v3).cell? ⟨sp,1,none⟩=some (G A bl.length c):=fun v0 v1 v2 v3=>⟨by {have:=((((k1.far (p:=⟨w1.heap.size,0,none⟩) hn v0).far (p:=⟨w1.heap.size,1,none⟩) hn v1).far (p:=⟨w1.heap.size,2,none⟩) hn v2).far (p:=⟨w1.heap.size,3,none⟩) hn v3).cell 0;simpa using this},by {have:=((((k1.far (p:=⟨w1.heap.size,0,none⟩) hn v0).far (p:=⟨w1.heap.size,1,none⟩) hn v1).far (p:=⟨w1.heap.size,2,none⟩) hn v2).far (p:=⟨w1.heap.size,3,none⟩) hn v3).cell 1;simpa using this}⟩))
 ·have HF:(fun Vv:World=>Hid (ab Vv w2.heap.size 44 #[X Y gen,G A1 bl.length c1,G none 0 0,G none 0 0]∧Vv.ownsRow w.heap.size 34 3 (G A1 bl.length c1) bl.length (aC bl)∧Below w.heap.size w Vv∧bP Vv aa sp sd sf gen bl fm∧ab Vv w.heap.size 44 #[X Y 0,G none 0 0,G none 0 0,G none 0 0]∧w.heap.size < w2.heap.size)) (w2.alloc (cL #[X Y gen,G A1 bl.length c1,G none 0 0,G none 0 0] 44)):=by
   obtain⟨g1,g2,g3,g4,g5⟩:=H.out
   have hs2:=af.size
   have hss:w1.drew.heap.size=w1.heap.size:=rfl
   have al:Below w1.heap.size w1 (w2.alloc (cL #[X Y gen,G A1 bl.length c1,G none 0 0,G none 0 0] 44)):=((bR _ _).drew.trans af).alloc (by omega) _
   exact⟨ab.new_ rfl,cO (aQ.alloc _) (by omega),g4.trans (al.mono (by omega)),g1.made al,g3.below al g3.lt,by omega⟩
  generalize (w2.alloc (cL #[X Y gen,G A1 bl.length c1,G none 0 0,G none 0 0] 44))=wF at HF⊢
  generalize w2.heap.size=q at HF⊢
  clear aQ af k1 e0 h1 c0 a0 H C1 CA nA kA hbb
  have hx9:wF.cell? ⟨sp,2,none⟩=some (.map (some sd))∧wF.cell? ⟨sp,3,none⟩=some (.map (some sf)):=by
   obtain⟨A',c',hb',_⟩:=HF.out.2.2.2.1.blk
   exact⟨by have:=hb'.cell 2;simpa using this,by have:=hb'.cell 3;simpa using this⟩
  obtain⟨x2,x3⟩:=hx9
  have KA:=jH (oj sd wF)
  go_wp2_with fail
  refine KA.out.mono ?_
  rintro e w3 ⟨rfl,rfl⟩
  have HD:(fun Vv:World=>Hid (aL Vv dZ anyI dZ sd ([]:List (Int×Int))∧Below wF.heap.size wF Vv∧Vv.cell? ⟨wF.heap.size,0,none⟩=some (.map (some sd))∧Vv.heap.size=wF.heap.size + 1)) (wF.alloc (cL #[.map (some sd)] 137)):=
   ⟨HF.out.2.2.2.1.dr.alloc _,(bR _ _).alloc (nR _) _,(ab.new wF _ _).cell 0,by simp⟩
  generalize wF.alloc (cL #[.map (some sd)] 137)=wk at HD⊢
  have SA:=jH (nh wF.heap.size sd wk (by have:=HD.out.2.2.2;omega) HD.out.2.2.1 HD.out.1)
  clear KA x2 x3
  go_wp2_with fail
  refine SA.out.mono ?_
  rintro e w4 ⟨rfl,aq⟩
  have H4:Hid (Below wF.heap.size wF w4):=HD.out.2.1.trans (aq.mono (by have:=HD.out.2.2.2;omega))
  have HG:Hid (ab w4 q 44 #[X Y gen,G A1 bl.length c1,G none 0 0,G none 0 0]∧w4.ownsRow w.heap.size 34 3 (G A1 bl.length c1) bl.length (aC bl)∧Below w.heap.size w w4∧bP w4 aa sp sd sf gen bl fm∧ab w4 w.heap.size 44 #[X Y 0,G none 0 0,G none 0 0,G none 0 0]∧w.heap.size < q):=by
   obtain⟨f1,f2,f3,f4,f5,f6⟩:=HF.out
   exact⟨f1.below H4.out f1.lt,aJ f2 H4.out,f3.trans (H4.out.mono f3.size),f4.made H4.out,f5.below H4.out f5.lt,f6⟩
  clear SA HD HF H4 aq
  have x3:w4.cell? ⟨sp,3,none⟩=some (.map (some sf)):=by
   obtain⟨A',c',hb',_⟩:=HG.out.2.2.2.1.blk
   have:=hb'.cell 3
   simpa using this
  have VA:=jH (mD sf w4)
  go_wp2_with fail
  refine wp_loop_rounds 1 ?_
  rw[rounds_succ]
  go_wp2_with fail
  refine VA.out.mono ?_
  rintro e w5 ⟨rfl,rfl⟩
  have hm5:aL (w4.alloc (cL #[.map (some sf)] 147)) bS bT bj sf fm:=HG.out.2.2.2.1.fm.alloc _
  have SV:=jH (ng 101 (enters_of func101 (by kernel_rfl) rfl) pT w4.heap.size sf fm hfm (w4.alloc (cL #[.map (some sf)] 147)) (by simp) ((ab.new w4 _ _).cell 0) hm5)
  clear VA hm5 x3
  go_wp2_with fail
  refine SV.out.mono ?_
  rintro e w6 ⟨v,fs,rfl,hp6,cA,hb6⟩
  obtain⟨A9,k9,rfl⟩:=cV cA
  have HE:Hid (fs.Perm (fm.map (·.2))∧w6.ownsRow w.heap.size 47 8 (G A9 fs.length k9) fs.length (bE fs)∧ab w6 q 44 #[X Y gen,G A1 bl.length c1,G none 0 0,G none 0 0]∧w6.ownsRow w.heap.size 34 3 (G A1 bl.length c1) bl.length (aC bl)∧Below w.heap.size w w6∧bP w6 aa sp sd sf gen bl fm∧ab w6 w.heap.size 44 #[X Y 0,G none 0 0,G none 0 0,G none 0 0]∧w.heap.size < q):=by
   obtain⟨f1,f2,f3,f4,f5,f6⟩:=HG.out
   have hb:Below w4.heap.size w4 w6:=((bR w4.heap.size w4).alloc (nR _) _).trans (hb6.mono (by simp))
   exact⟨hp6,cO cA (by have:=f3.size;simp;omega),f1.below hb f1.lt,aJ f2 hb,f3.trans (hb.mono f3.size),f4.made hb,f5.below hb f5.lt,f6⟩
  obtain⟨q0,q1,q2,q3⟩:=HE.out.2.2.1.c4
  have z3:=HE.out.2.2.1.frozen 3
  obtain⟨r0,r1,r2,r3⟩:=HE.out.2.2.2.2.2.2.1.c4
  obtain⟨y0,y1,y2,y3⟩:=HE.out.2.2.2.2.2.2.1.f4
  have az:q≠w.heap.size:=by have:=HE.out.2.2.2.2.2.2.2;omega
  have hne':w.heap.size≠q:=fun e=>az e.symm
  clear SV HG hp6 cA hb6
  go_wp2_with fail
  have hk0:=HE.out.2.2.1.set_ 3 (G A9 fs.length k9)
  have hr0:=HE.out.2.2.2.2.2.2.1.far (p:=⟨q,3,none⟩) hne' (G A9 fs.length k9)
  have hr1:=hr0.set_ 0 (X Y gen)
  have hr2:=hr1.set_ 1 (G A1 bl.length c1)
  have hr3:=hr2.set_ 2 (G none 0 0)
  have hr4:=hr3.set_ 3 (G A9 fs.length k9)
  refine bodyPost_ret (results_cell_row rfl _ _ w.heap.size 44 #[X Y gen,G A1 bl.length c1,G none 0 0,G A9 fs.length k9] (0,0) _ rfl hr4 underlying44 rfl oq) rfl ?_
  refine⟨A1,c1,_,fs,rfl,?_,HE.out.1,?_,?_⟩
  ·exact aB (aB (aB (aB (aB HE.out.2.2.2.1 HE.out.2.2.1 (by decide) 3 _) hr0 (by decide) 0 _) hr1 (by decide) 1 _) hr2 (by decide) 2 _) hr3 (by decide) 3 _
  ·exact aB (aB (aB (aB (aB HE.out.2.1 HE.out.2.2.1 (by decide) 3 _) hr0 (by decide) 0 _) hr1 (by decide) 1 _) hr2 (by decide) 2 _) hr3 (by decide) 3 _
  ·have hq:=HE.out.2.2.2.2.2.2.2
   exact((((HE.out.2.2.2.2.1.setCell (p:=⟨q,3,none⟩) (by show w.heap.size≤q;omega) _).setCell (p:=⟨w.heap.size,0,none⟩) (nR _) _).setCell (p:=⟨w.heap.size,1,none⟩) (nR _) _).setCell (p:=⟨w.heap.size,2,none⟩) (nR _) _).setCell (p:=⟨w.heap.size,3,none⟩) (nR _) _
 ·have HF:(fun Vv:World=>Hid (ab Vv w1.heap.size 44 #[X Y gen,G A1 bl.length c1,G none 0 0,G none 0 0]∧Vv.ownsRow w.heap.size 34 3 (G A1 bl.length c1) bl.length (aC bl)∧Below w.heap.size w Vv∧bP Vv aa sp sd sf gen bl fm∧ab Vv w.heap.size 44 #[X Y 0,G none 0 0,G none 0 0,G none 0 0]∧w.heap.size < w1.heap.size)) ((((w2.setCell ⟨w1.heap.size,0,none⟩ (X Y gen)).setCell ⟨w1.heap.size,1,none⟩ (G A1 bl.length c1)).setCell ⟨w1.heap.size,2,none⟩ (G none 0 0)).setCell ⟨w1.heap.size,3,none⟩ (G none 0 0)):=by
   obtain⟨g1,g2,g3,g4,g5⟩:=H.out
   have hs2:=af.size
   have hss:(w1.alloc (cL #[X Y 0,G none 0 0,G none 0 0,G none 0 0] 44)).drew.heap.size=w1.heap.size + 1:=hzA
   have hb2':Below w1.heap.size w1 w2:=(((bR w1.heap.size w1).alloc (nR _) _).drew).trans (af.mono (by omega))
   have al:Below w1.heap.size w1 ((((w2.setCell ⟨w1.heap.size,0,none⟩ (X Y gen)).setCell ⟨w1.heap.size,1,none⟩ (G A1 bl.length c1)).setCell ⟨w1.heap.size,2,none⟩ (G none 0 0)).setCell ⟨w1.heap.size,3,none⟩ (G none 0 0)):=(((hb2'.setCell (p:=⟨w1.heap.size,0,none⟩) (nR _) _).setCell (p:=⟨w1.heap.size,1,none⟩) (nR _) _).setCell (p:=⟨w1.heap.size,2,none⟩) (nR _) _).setCell (p:=⟨w1.heap.size,3,none⟩) (nR _) _
   refine⟨(((n2.set_ 0 _).set_ 1 _).set_ 2 _).set_ 3 _,?_,g4.trans (al.mono (by omega)),g1.made al,g3.below al g3.lt,by omega⟩
   exact cO (aB (aB (aB (aB aQ n2 (by decide) 0 _) (n2.set_ 0 _) (by decide) 1 _) ((n2.set_ 0 _).set_ 1 _) (by decide) 2 _) (((n2.set_ 0 _).set_ 1 _).set_ 2 _) (by decide) 3 _) (by omega)
  generalize ((((w2.setCell ⟨w1.heap.size,0,none⟩ (X Y gen)).setCell ⟨w1.heap.size,1,none⟩ (G A1 bl.length c1)).setCell ⟨w1.heap.size,2,none⟩ (G none 0 0)).setCell ⟨w1.heap.size,3,none⟩ (G none 0 0))=wF at HF⊢
  generalize w1.heap.size=q at HF⊢
  clear aQ af k1 e0 h2 c0 a0 H C1 CA nA kA hbb n2 s0 s1 s2 s3 z0 z1 z2 z3 hn hzA
  have hx9:wF.cell? ⟨sp,2,none⟩=some (.map (some sd))∧wF.cell? ⟨sp,3,none⟩=some (.map (some sf)):=by
   obtain⟨A',c',hb',_⟩:=HF.out.2.2.2.1.blk
   exact⟨by have:=hb'.cell 2;simpa using this,by have:=hb'.cell 3;simpa using this⟩
  obtain⟨x2,x3⟩:=hx9
  have KA:=jH (oj sd wF)
  go_wp2_with fail
  refine KA.out.mono ?_
  rintro e w3 ⟨rfl,rfl⟩
  have HD:(fun Vv:World=>Hid (aL Vv dZ anyI dZ sd ([]:List (Int×Int))∧Below wF.heap.size wF Vv∧Vv.cell? ⟨wF.heap.size,0,none⟩=some (.map (some sd))∧Vv.heap.size=wF.heap.size + 1)) (wF.alloc (cL #[.map (some sd)] 137)):=
   ⟨HF.out.2.2.2.1.dr.alloc _,(bR _ _).alloc (nR _) _,(ab.new wF _ _).cell 0,by simp⟩
  generalize wF.alloc (cL #[.map (some sd)] 137)=wk at HD⊢
  have SA:=jH (nh wF.heap.size sd wk (by have:=HD.out.2.2.2;omega) HD.out.2.2.1 HD.out.1)
  clear KA x2 x3
  go_wp2_with fail
  refine SA.out.mono ?_
  rintro e w4 ⟨rfl,aq⟩
  have H4:Hid (Below wF.heap.size wF w4):=HD.out.2.1.trans (aq.mono (by have:=HD.out.2.2.2;omega))
  have HG:Hid (ab w4 q 44 #[X Y gen,G A1 bl.length c1,G none 0 0,G none 0 0]∧w4.ownsRow w.heap.size 34 3 (G A1 bl.length c1) bl.length (aC bl)∧Below w.heap.size w w4∧bP w4 aa sp sd sf gen bl fm∧ab w4 w.heap.size 44 #[X Y 0,G none 0 0,G none 0 0,G none 0 0]∧w.heap.size < q):=by
   obtain⟨f1,f2,f3,f4,f5,f6⟩:=HF.out
   exact⟨f1.below H4.out f1.lt,aJ f2 H4.out,f3.trans (H4.out.mono f3.size),f4.made H4.out,f5.below H4.out f5.lt,f6⟩
  clear SA HD HF H4 aq
  have x3:w4.cell? ⟨sp,3,none⟩=some (.map (some sf)):=by
   obtain⟨A',c',hb',_⟩:=HG.out.2.2.2.1.blk
   have:=hb'.cell 3
   simpa using this
  have VA:=jH (mD sf w4)
  go_wp2_with fail
  refine wp_loop_rounds 1 ?_
  rw[rounds_succ]
  go_wp2_with fail
  refine VA.out.mono ?_
  rintro e w5 ⟨rfl,rfl⟩
  have hm5:aL (w4.alloc (cL #[.map (some sf)] 147)) bS bT bj sf fm:=HG.out.2.2.2.1.fm.alloc _
  have SV:=jH (ng 101 (enters_of func101 (by kernel_rfl) rfl) pT w4.heap.size sf fm hfm (w4.alloc (cL #[.map (some sf)] 147)) (by simp) ((ab.new w4 _ _).cell 0) hm5)
  clear VA hm5 x3
  go_wp2_with fail
  refine SV.out.mono ?_
  rintro e w6 ⟨v,fs,rfl,hp6,cA,hb6⟩
  obtain⟨A9,k9,rfl⟩:=cV cA
  have HE:Hid (fs.Perm (fm.map (·.2))∧w6.ownsRow w.heap.size 47 8 (G A9 fs.length k9) fs.length (bE fs)∧ab w6 q 44 #[X Y gen,G A1 bl.length c1,G none 0 0,G none 0 0]∧w6.ownsRow w.heap.size 34 3 (G A1 bl.length c1) bl.length (aC bl)∧Below w.heap.size w w6∧bP w6 aa sp sd sf gen bl fm∧ab w6 w.heap.size 44 #[X Y 0,G none 0 0,G none 0 0,G none 0 0]∧w.heap.size < q):=by
   obtain⟨f1,f2,f3,f4,f5,f6⟩:=HG.out
   have hb:Below w4.heap.size w4 w6:=((bR w4.heap.size w4).alloc (nR _) _).trans (hb6.mono (by simp))
   exact⟨hp6,cO cA (by have:=f3.size;simp;omega),f1.below hb f1.lt,aJ f2 hb,f3.trans (hb.mono f3.size),f4.made hb,f5.below hb f5.lt,f6⟩
  obtain⟨q0,q1,q2,q3⟩:=HE.out.2.2.1.c4
  have z3:=HE.out.2.2.1.frozen 3
  obtain⟨r0,r1,r2,r3⟩:=HE.out.2.2.2.2.2.2.1.c4
  obtain⟨y0,y1,y2,y3⟩:=HE.out.2.2.2.2.2.2.1.f4
  have az:q≠w.heap.size:=by have:=HE.out.2.2.2.2.2.2.2;omega
  have hne':w.heap.size≠q:=fun e=>az e.symm
  clear SV HG hp6 cA hb6
  go_wp2_with fail
  have hk0:=HE.out.2.2.1.set_ 3 (G A9 fs.length k9)
  have hr0:=HE.out.2.2.2.2.2.2.1.far (p:=⟨q,3,none⟩) hne' (G A9 fs.length k9)
  have hr1:=hr0.set_ 0 (X Y gen)
  have hr2:=hr1.set_ 1 (G A1 bl.length c1)
  have hr3:=hr2.set_ 2 (G none 0 0)
  have hr4:=hr3.set_ 3 (G A9 fs.length k9)
  refine bodyPost_ret (results_cell_row rfl _ _ w.heap.size 44 #[X Y gen,G A1 bl.length c1,G none 0 0,G A9 fs.length k9] (0,0) _ rfl hr4 underlying44 rfl oq) rfl ?_
  refine⟨A1,c1,_,fs,rfl,?_,HE.out.1,?_,?_⟩
  ·exact aB (aB (aB (aB (aB HE.out.2.2.2.1 HE.out.2.2.1 (by decide) 3 _) hr0 (by decide) 0 _) hr1 (by decide) 1 _) hr2 (by decide) 2 _) hr3 (by decide) 3 _
  ·exact aB (aB (aB (aB (aB HE.out.2.1 HE.out.2.2.1 (by decide) 3 _) hr0 (by decide) 0 _) hr1 (by decide) 1 _) hr2 (by decide) 2 _) hr3 (by decide) 3 _
  ·have hq:=HE.out.2.2.2.2.2.2.2
   exact((((HE.out.2.2.2.2.1.setCell (p:=⟨q,3,none⟩) (by show w.heap.size≤q;omega) _).setCell (p:=⟨w.heap.size,0,none⟩) (nR _) _).setCell (p:=⟨w.heap.size,1,none⟩) (nR _) _).setCell (p:=⟨w.heap.size,2,none⟩) (nR _) _).setCell (p:=⟨w.heap.size,3,none⟩) (nR _) _
def KY:List TypeId:=KD++[175]
theorem vL (aa ss lg sp sd sf d mn size Q V ops n:Nat)(rs:List aE)(mo:List Nat)(w:World)(h:dw w aa ss lg sp sd sf d mn size Q V ops rs n mo)(hbl:(aS rs).2.1.length≤1000)(hfm:(aS rs).2.2.length≤1000000)(aP:ops≤800000000000):
  Calls Pg 47 #[PT (some ⟨ss,0,none⟩)] w fun e w'=>e=rT (X Y 0)∧dw w' aa ss lg sp sd sf d mn size Q V (ops + 1) rs rs.length mo∧Fr KY [mn] aa w w':=by
 have H:=jH h
 have CS:=jH (zR aa lg d mn size Q V ops n (rs.map (aE.fr V)) mo w h.lx aP)
 rw[List.length_map] at CS
 obtain⟨hss,u2,u3,u4,u5,hb⟩:=h.sto
 obtain⟨c0,c1⟩:=hb.c2
 have HB:=jH (aI hss hb)
 clear h hb hss
 go_enter func47,ntmps47
 go_wp2_with fail
 refine CS.out.mono ?_
 rintro e w1 ⟨rfl,hX1,hF1⟩
 have ae:=hF1.blk _ _ _ HB.out.2 (by decide)
 have hS1:=H.out.st.fr hF1 (by decide) (by decide) (by simp) (by simp)
 obtain⟨x,hx⟩:∃x,x=aS rs:=⟨_,rfl⟩
 rw[←hx] at hS1 hbl hfm
 obtain⟨gen,bl,fm⟩:=x
 dsimp only at hS1 hbl hfm
 have HX0:=jH hx
 clear hx
 have CV:=jH (ll aa sp sd sf gen bl fm w1 hS1 hbl hfm)
 obtain⟨-,d1⟩:=ae.c2
 have H1:=jH (aI hX1 (aI hF1 (aI ae hS1)))
 clear hX1 hF1 ae hS1 c0 c1 CS
 go_wp2_with fail
 refine CV.out.mono ?_
 rintro e w4 ⟨A4,c4,v4,fs4,rfl,-,-,bF,aq⟩
 obtain⟨A5,k5,rfl⟩:=cV bF
 have hx4:=H1.out.2.2.1.below aq H1.out.2.2.1.lt
 obtain⟨-,-,z2,z3,z4,z5⟩:=hx4.f6
 obtain⟨-,-,y2,y3,y4,y5⟩:=hx4.c6
 have HX:=jH (aI hx4 aq)
 clear hx4 aq bF CV d1
 go_wp2_with fail
 go_ret
 obtain⟨hx4,aq⟩:=HX.out
 obtain⟨hX1,hF1,ae,hS1⟩:=H1.out
 have hx5:=(((hx4.set_ 2 (X Y gen)).set_ 3 (G A4 bl.length c4)).set_ 4 (G none 0 0)).set_ 5 (G A5 fs4.length k5)
 have f1':Fr [175] [] aa w1 w4:=Fr.of_below _ _ aq hS1.hi
 have f5:=(((f1'.set_ hx4 (by simp) HB.out.1 2 (X Y gen)).set_ (hx4.set_ 2 _) (by simp) HB.out.1 3 (G A4 bl.length c4)).set_ ((hx4.set_ 2 _).set_ 3 _) (by simp) HB.out.1 4 (G none 0 0)).set_ (((hx4.set_ 2 _).set_ 3 _).set_ 4 _) (by simp) HB.out.1 5 (G A5 fs4.length k5)
 refine⟨rfl,{H.out with sto:=⟨HB.out.1,_,_,_,_,hx5⟩,st:=by rw[←HX0.out];exact hS1.fr f5 (by decide) (by decide) (by simp) (by simp),lx:=hX1.fr f5 (by decide) (by simp) (by simp)},(hF1.mono (by decide) (by simp)).trans (f5.mono (by decide) (by simp))⟩
def bc (ag fl ah aj quota V d ss tp chp dp gen:Nat)(bs:Value)(now:Nat):Array Value:=
 #[X Z 168364297,X Y ag,X Y fl,X Y ah,X Y 1500,X Y aj,X Y quota,X Y V,PT (some ⟨d,0,none⟩),PT (some ⟨ss,0,none⟩),PT (some ⟨tp,0,none⟩),PT (some ⟨chp,0,none⟩),PT (some ⟨dp,0,none⟩),X Y gen,bs,X Y now,X Y 0,bL false,bL false]
theorem Aw (l:List Be):de (fun b:Be=>(fun _:Int=>false) b.id) l=l:=by unfold de;simp
theorem cr.fr {p:Nat}{w w':World}{t:TypeId}{cs:Array Value}{aa:Nat}(h:cr p w w')(hp:ab w p t cs)(hb:aa≤p):Fr [t] [] aa w w':=by
 refine⟨h.below hb (nT hb (Nat.le_of_lt hp.lt)),fun g t' cs' h0 ht=>h.blk h0 (fun e=>?_),fun b es c h0 _=>(h.block b (Array.getElem?_eq_some_iff.1 h0).1 (fun e=>?_)).trans h0⟩
 ·subst e
  have h1:w.heap[g]? =some (.cells cs t (0,0)):=hp
  have h2:w.heap[g]? =some (.cells cs' t' (0,0)):=h0
  rw[h1] at h2
  injection h2 with h2
  injection h2 with _ h3
  exact ht (by simp[h3])
 ·subst e
  have h1:w.heap[b]? =some (.cells cs t (0,0)):=hp
  rw[h1] at h0
  cases h0
theorem Ch.fr {w w':World}{p ag aa:Nat}{l:List Be}{t:List Int}{made:Int}{K:List TypeId}{M:List Nat}(h:Ch w p ag l t made)(hf:Fr K M aa w w')(h1:269∉K)(h2:34∉K)(h3:3∉K):Ch w' p ag l t made:=by
 obtain⟨A,n,c,A2,c2,g1,g2,g3,g4⟩:=h
 exact⟨A,n,c,A2,c2,hf.blk _ _ _ g1 h1,hf.own g2 h2,hf.own g3 h3,g4⟩
theorem uc (aa b0 bp ag fl ah aj quota V d ss tp chp dp gen now:Nat)(A:Option Addr)(c:Nat)(bl l0:List Be)(t0:List Int)(made:Int)(dm qp qm:Nat)(w:World)
  (hb:ab w bp 69 (bc ag fl ah aj quota V d ss tp chp dp gen (G A bl.length c) now))(ho:w.ownsRow b0 34 3 (G A bl.length c) bl.length (aC bl))(hch:Ch w chp ag l0 t0 made)(hd:dU w aa dp dm qp qm)(hm:dd ag=true)(hok:dD bl)(bu:dz bl.length bl)(hmd:0≤made∧made≤1000000):
  Calls Pg 92 #[PT (some ⟨bp,0,none⟩)] w fun e w'=>e=rT (tU #[])∧Ch w' chp ag bl (tableF bl ag) (made + 1)∧cr chp w w':=by
 have CS:=wW chp ag l0 t0 made (.func (.func 185) #[PT (some ⟨dp,0,none⟩)] #[]) (fun b=>(fun _:Int=>false) b.id) A bl.length c w.drew.heap.size bl w.drew (hch.below (bR _ _).drew) hm (Reads.of_own ho).drew (nR _) hok (dN ho).1 (fun e=>gA ho e) bu hmd (fun W hW=>
  Br 185 (PT (some ⟨dp,0,none⟩)) (fun _=>false) (enters_of func185 (by kernel_rfl) rfl) A bl.length c W.heap.size bl W (Reads.of_own (aJ (World.ownsRow.drew ho) hW)) (nR _) (by have:=bu.1;omega) (fun e=>gA ho e) (fun W' id hW'=>Cz aa dp dm qp qm id W' ((hd.made ((bR _ _).drew.trans hW)).made hW')))
 rw[Aw] at CS
 have HS:=jH CS
 have az:bp≠chp:=by obtain⟨cs,hk⟩:=hch.blk;exact hb.ne_ hk (by decide)
 have c0:w.drew.cell? ⟨bp,11,none⟩=some (PT (some ⟨chp,0,none⟩))∧w.drew.cell? ⟨bp,12,none⟩=some (PT (some ⟨dp,0,none⟩))∧w.drew.cell? ⟨bp,14,none⟩=some (G A bl.length c):=⟨by have:=hb.drew.cell 11;simpa [bc] using this,by have:=hb.drew.cell 12;simpa [bc] using this,by have:=hb.drew.cell 14;simpa [bc] using this⟩
 have HB:=jH hb
 clear hb ho hch hd CS
 go_enter func92,ntmps92
 go_wp2_with fail
 go_region_held3 (fun wS=>wS.cell? ⟨bp,11,none⟩=some (PT (some ⟨chp,0,none⟩))∧wS.cell? ⟨bp,12,none⟩=some (PT (some ⟨dp,0,none⟩))∧wS.cell? ⟨bp,14,none⟩=some (G A bl.length c)) (first|with_reducible exact c0|with_reducible exact e0|fail)
  (first
   |(go_at_call 184;(with_reducible refine HS.out.mono ?_);rintro e w1 ⟨rfl,hc1,cQ⟩;have k1:=cQ.blk HB.out.drew az;have e0:w1.cell? ⟨bp,11,none⟩=some (PT (some ⟨chp,0,none⟩))∧w1.cell? ⟨bp,12,none⟩=some (PT (some ⟨dp,0,none⟩))∧w1.cell? ⟨bp,14,none⟩=some (G A bl.length c):=⟨by {have:=k1.cell 11;simpa [bc] using this},by {have:=k1.cell 12;simpa [bc] using this},by {have:=k1.cell 14;simpa [bc] using this}⟩))
 have HF:Hid (Ch w1 chp ag bl (tableF bl ag) (made + 1)∧cr chp w w1):=⟨hc1,(cr.of_below (bR w.heap.size w).drew).trans cQ⟩
 clear hc1 cQ k1 e0
 go_wp2
 go_end0
 exact⟨rfl,HF.out⟩
theorem re {w:World}{q bp:Nat}{t1 t2:TypeId}{v0 v1 v2 v3 v4 v5 v6 v7 v8 v9 v10 v11 v12 v13:Value}{ag fl ah aj quota V d ss tp chp dp gen now:Nat}{bs:Value}(hx:ab w q t1 #[v0,v1,v2,v3,v4,v5,v6,v7,v8,v9,v10,v11,v12,v13])(hb:ab w bp t2 (bc ag fl ah aj quota V d ss tp chp dp gen bs now)):w.cell? ⟨q,0,none⟩=some v0∧w.cell? ⟨q,1,none⟩=some v1∧w.cell? ⟨q,2,none⟩=some v2∧w.cell? ⟨q,3,none⟩=some v3∧w.cell? ⟨q,4,none⟩=some v4∧w.cell? ⟨q,5,none⟩=some v5∧w.cell? ⟨q,6,none⟩=some v6∧w.cell? ⟨q,7,none⟩=some v7∧w.cell? ⟨q,8,none⟩=some v8∧w.cell? ⟨q,9,none⟩=some v9∧w.cell? ⟨q,10,none⟩=some v10∧w.cell? ⟨q,11,none⟩=some v11∧w.cell? ⟨q,12,none⟩=some v12∧w.cell? ⟨q,13,none⟩=some v13∧w.cell? ⟨bp,9,none⟩=some (PT (some ⟨ss,0,none⟩))∧w.cell? ⟨bp,17,none⟩=some (bL false):=
 ⟨hx.cell 0,hx.cell 1,hx.cell 2,hx.cell 3,hx.cell 4,hx.cell 5,hx.cell 6,hx.cell 7,hx.cell 8,hx.cell 9,hx.cell 10,hx.cell 11,hx.cell 12,hx.cell 13,by have:=hb.cell 9;simpa [bc] using this,by have:=hb.cell 17;simpa [bc] using this⟩
theorem tK (aa bp ag fl ah aj quota V d ss tp chp dp gen now:Nat)(bs:Value)(M:List Nat)(Q:World→World→Prop)(v0 v1 v2 v3 v4 v5 v6 v7 v8 v9 v10 v11 v12 v13:Value)(w:World)
  (hb:ab w bp 69 (bc ag fl ah aj quota V d ss tp chp dp gen bs now))(an:aa≤w.heap.size)
  (CW:∀W,Below w.heap.size w W→Calls Pg 110 #[PT (some ⟨ss,0,none⟩),aG #[v0,v1,v2,v3,v4,v5,v6,v7,v8,v9,v10,v11,v12,v13]] W fun e w'=>e=rT (X Y 0)∧Q W w'∧Fr KW M aa W w'):
  Calls Pg 42 #[PT (some ⟨bp,0,none⟩),aG #[v0,v1,v2,v3,v4,v5,v6,v7,v8,v9,v10,v11,v12,v13]] w fun e w'=>e=rT (tU #[])∧(∃W,Below w.heap.size w W∧Q W w')∧Fr KW M aa w w':=by
 have hx:=ab.new w 119 #[v0,v1,v2,v3,v4,v5,v6,v7,v8,v9,v10,v11,v12,v13]
 have ao:=(bR w.heap.size w).alloc (nR _) (cL #[v0,v1,v2,v3,v4,v5,v6,v7,v8,v9,v10,v11,v12,v13] 119)
 have hbb:=hb.below ao hb.lt
 have CC:=jH (CW (w.alloc (cL #[v0,v1,v2,v3,v4,v5,v6,v7,v8,v9,v10,v11,v12,v13] 119)).drew ao.drew)
 obtain⟨q,hq⟩:∃q,q=w.heap.size:=⟨_,rfl⟩
 rw[←hq] at hx ao
 have d0:=re hx.drew hbb.drew
 have e17:(w.alloc (cL #[v0,v1,v2,v3,v4,v5,v6,v7,v8,v9,v10,v11,v12,v13] 119)).cell? ⟨bp,17,none⟩=some (bL false):=by have:=hbb.cell 17;simpa [bc] using this
 have H:=jH (aI hx (aI ao (aI hbb hq)))
 clear hb CW hx ao hbb
 go_enter func42,ntmps42
 go_wp2_with fail
 rw[←hq]
 generalize w.alloc (cL #[v0,v1,v2,v3,v4,v5,v6,v7,v8,v9,v10,v11,v12,v13] 119)=w1 at *
 clear hq
 go_region_held3 (fun wS=>wS.cell? ⟨q,0,none⟩=some v0∧wS.cell? ⟨q,1,none⟩=some v1∧wS.cell? ⟨q,2,none⟩=some v2∧wS.cell? ⟨q,3,none⟩=some v3∧wS.cell? ⟨q,4,none⟩=some v4∧wS.cell? ⟨q,5,none⟩=some v5∧wS.cell? ⟨q,6,none⟩=some v6∧wS.cell? ⟨q,7,none⟩=some v7∧wS.cell? ⟨q,8,none⟩=some v8∧wS.cell? ⟨q,9,none⟩=some v9∧wS.cell? ⟨q,10,none⟩=some v10∧wS.cell? ⟨q,11,none⟩=some v11∧wS.cell? ⟨q,12,none⟩=some v12∧wS.cell? ⟨q,13,none⟩=some v13∧wS.cell? ⟨bp,9,none⟩=some (PT (some ⟨ss,0,none⟩))∧wS.cell? ⟨bp,17,none⟩=some (bL false)) (first|with_reducible exact d0|with_reducible exact d1|fail)
  (first
   |(go_at_call 110;(with_reducible refine CC.out.mono ?_);rintro e w2 ⟨rfl,hQ,hF⟩;have d1:=re (hF.blk _ _ _ H.out.1.drew (by decide)) (hF.blk _ _ _ H.out.2.2.1.drew (by decide))))
 have HF:Hid ((∃W,Below w.heap.size w W∧Q W w2)∧Fr KW M aa w w2):=by
  obtain⟨h1,h2,h3,h4⟩:=H.out
  rw[h4] at h2
  exact⟨⟨_,h2.drew,hQ⟩,(Fr.of_below KW M h2.drew an).trans hF⟩
 clear hQ hF d1 d0 CC
 go_wp2
 go_end0
 exact⟨rfl,HF.out⟩
theorem Ek (aa bp ag fl ah aj quota V d ss tp chp dp gen now:Nat)(bs:Value)(M:List Nat)(Q:World→World→Prop)(A:Option Addr)(n c:Nat)(w:World)
  (hb:ab w bp 69 (bc ag fl ah aj quota V d ss tp chp dp gen bs now))(an:aa≤w.heap.size)(hlo:aa≤bp)(hgen:gen + 1≤1000000)
  (CW:∀W,Fr [69] [] aa w W→Calls Pg 110 #[PT (some ⟨ss,0,none⟩),.agg (cU ((gen + 1:Nat):Int) (G A n c))] W fun e w'=>e=rT (X Y 0)∧Q W w'∧Fr KW M aa W w'):
  Calls Pg 115 #[PT (some ⟨bp,0,none⟩),G A n c] w fun e w'=>e=rT (tU #[])∧(∃W,Fr [69] [] aa w W∧Q W w')∧ab w' bp 69 (bc ag fl ah aj quota V d ss tp chp dp (gen + 1) (G A n c) now)∧Fr (KW++[69]) M aa w w':=by
 have hw:IntKind.i64.wrap ((gen:Int) + 1)=((gen + 1:Nat):Int):=by unfold IntKind.wrap;simp[IntKind.bits,IntKind.signed];omega
 have hmn:min (((gen + 1:Nat):Int)) 1000000=((gen + 1:Nat):Int):=by omega
 have c13:=hb.cell 13
 have z13:=hb.frozen 13
 have c14:=hb.cell 14
 have z14:=hb.frozen 14
 simp only[bc,ga,gz,gN] at c13 c14
 have af:ab ((w.setCell ⟨bp,13,none⟩ (X Y (gen + 1:Nat))).setCell ⟨bp,14,none⟩ (G A n c)) bp 69 (bc ag fl ah aj quota V d ss tp chp dp (gen + 1) (G A n c) now):=(hb.set_ 13 _).set_ 14 _
 have hf2:Fr [69] [] aa w ((w.setCell ⟨bp,13,none⟩ (X Y (gen + 1:Nat))).setCell ⟨bp,14,none⟩ (G A n c)):=((Fr.refl _ _ aa w).set_ hb (by simp) hlo 13 _).set_ (hb.set_ 13 _) (by simp) hlo 14 _
 have H:=jH (aI af hf2)
 have HC:=jH CW
 clear hb af hf2 CW
 go_enter func115,ntmps115
 go_wp2_with fail
 rw[show min ((gen:Int) + 1) 1000000=((gen + 1:Nat):Int) by omega]
 generalize (w.setCell ⟨bp,13,none⟩ (X Y (gen + 1:Nat))).setCell ⟨bp,14,none⟩ (G A n c)=w1 at H⊢
 have hs1:=H.out.2.size
 have CB:=jH (tK aa bp ag fl ah aj quota V d ss tp chp dp (gen + 1) now (G A n c) M Q _ _ _ _ _ _ _ _ _ _ _ _ _ _ w1 H.out.1 (nT an hs1) (fun W hW=>HC.out W (H.out.2.made hW (nT an hs1))))
 refine CB.out.mono ?_
 rintro e w2 ⟨rfl,⟨W,hW,hQ⟩,hF⟩
 have HF:Hid ((∃W,Fr [69] [] aa w W∧Q W w2)∧ab w2 bp 69 (bc ag fl ah aj quota V d ss tp chp dp (gen + 1) (G A n c) now)∧Fr (KW++[69]) M aa w w2):=
  ⟨⟨W,H.out.2.made hW (nT an hs1),hQ⟩,hF.blk _ _ _ H.out.1 (by decide),(H.out.2.mono (by simp) (by simp)).trans (hF.mono (fun t h=>List.mem_append_left _ h) (fun _ h=>h))⟩
 clear CB hQ hF HC
 go_wp2
 go_end0
 exact⟨rfl,HF.out⟩
end
section
open Go.RowKit
def eN (z:Int):Nat:=[3,7,13,61,127,251].getD (ai z % 6) 3
def gw (v:Int):Nat:=1 + ai v % 3
def tJ (ag flows ver:Nat):Array Value:=#[X Z 168364297,X Y ag,X Y flows,X Y 51,X Y 1500,X Y 316,X Y 32000,X Y ver]
theorem sv:(Pg.info? 61).map (·.size)=some 8:=by kernel_rfl
theorem D5 (z v:Int)(fl:Nat)(hfl:fl < 20)(w:World):Calls Pg 15 #[X Y z,X Y fl,X Y 50,X Y 300,X Y 30000,X Y v] w fun e w'=>e=rT (.agg (tJ (eN z) fl (gw v)))∧Below w.heap.size w w':=by
 have e0:=jl z
 have hj:ai z % 6 < 6:=Nat.mod_lt _ (by omega)
 have e1:((ai z:Nat):Int).tmod 6=((ai z % 6:Nat):Int):=by rw[Int.tmod_eq_emod_of_nonneg (by omega)];omega
 have e2:IntKind.u64.wrap ((ai z % 6:Nat):Int)=((ai z % 6:Nat):Int):=by rw[IntKind.wrap_u64];omega
 have e3:IntKind.i64.wrap ((ai z % 6:Nat):Int)=((ai z % 6:Nat):Int):=by rw[IntWalk.i64_in _ (by omega)]
 have v0:=jl v
 have hv:ai v % 3 < 3:=Nat.mod_lt _ (by omega)
 have v1:((ai v:Nat):Int).tmod 3=((ai v % 3:Nat):Int):=by rw[Int.tmod_eq_emod_of_nonneg (by omega)];omega
 have v2:IntKind.u64.wrap ((ai v % 3:Nat):Int)=((ai v % 3:Nat):Int):=by rw[IntKind.wrap_u64];omega
 have v3:IntKind.i64.wrap ((ai v % 3:Nat):Int)=((ai v % 3:Nat):Int):=by rw[IntWalk.i64_in _ (by omega)]
 have v4:IntKind.i64.wrap (1 + ((ai v % 3:Nat):Int))=((gw v:Nat):Int):=by unfold gw;rw[IntWalk.i64_in _ (by omega)];omega
 generalize gw v=V at *
 generalize ai v=uv at *
 generalize uv % 3=jv at *
 have hp:eN z=[3,7,13,61,127,251].getD (ai z % 6) 3:=rfl
 obtain⟨pz,hpz⟩:∃pz,eN z=pz:=⟨_,rfl⟩
 rw[hpz] at hp⊢
 clear hpz
 generalize ai z=u at *
 obtain⟨j,hjj⟩:∃j,u % 6=j:=⟨_,rfl⟩
 rw[hjj] at hj e1 e2 e3 hp
 clear hjj
 have g1:IntKind.u64.wrap (fl:Int)=(fl:Int):=by rw[IntKind.wrap_u64];omega
 have g2:(fl:Int).tmod 20=(fl:Int):=by rw[Int.tmod_eq_emod_of_nonneg (by omega)];omega
 have g3:IntKind.i64.wrap (fl:Int)=(fl:Int):=by rw[IntWalk.i64_in _ (by omega)]
 unfold tJ
 have:j=0∨j=1∨j=2∨j=3∨j=4∨j=5:=by omega
 rcases this with rfl|rfl|rfl|rfl|rfl|rfl
 all_goals
  simp only[show ((0:Nat):Int)=0 from rfl,show ((1:Nat):Int)=1 from rfl,show ((2:Nat):Int)=2 from rfl,show ((3:Nat):Int)=3 from rfl,show ((4:Nat):Int)=4 from rfl,show ((5:Nat):Int)=5 from rfl] at e1 e2 e3
  simp at hp
  subst hp
  go_enter func15,ntmps15
  go_wp2_with fail
  refine bodyPost_ret (results_cell_row rfl _ _ w.heap.size 61 _ (0,0) _ rfl ((ab.new w 61 _).alloc _) underlying61 rfl sv) rfl ?_
  exact⟨rfl,((bR w.heap.size w).alloc (nR _) _).alloc (by simp) _⟩
theorem kK (n a b:Nat)(h1:a≤n)(h2:n≤b)(w:World):Calls Pg 84 #[X Y n,X Y a,X Y b] w fun e w'=>e=rT (bL true)∧w=w':=by
 have d1:decide ((a:Int)≤(n:Int))=true:=decide_eq_true (by omega)
 have d2:decide ((n:Int)≤(b:Int))=true:=decide_eq_true (by omega)
 go_enter func84,ntmps84
 go_wp2_with fail
 go_ret
 exact⟨rfl,rfl⟩
def jh (ag flows ah aj quota V:Nat):Array Value:=#[X Z 168364297,X Y ag,X Y flows,X Y ah,X Y 1500,X Y aj,X Y quota,X Y V]
structure pB (ag flows ah aj quota V:Nat):Prop where
 a1:ag∈[3,7,13,61,127,251]
 a2:flows≤256
 a3:1≤ah
 a4:ah≤1099511627776
 a5:43≤aj
 a6:aj≤957
 a7:quota≤1000000
 a8:10000≤quota
 a9:1≤V
 a10:V≤3
theorem El (ag flows ah aj quota V:Nat)(h:pB ag flows ah aj quota V)(w:World):Calls Pg 29 #[.agg (jh ag flows ah aj quota V)] w fun e w'=>e=rT (bL true)∧Below w.heap.size w w':=by
 obtain⟨h1,h2,h3,h4,h5,h6,h7,h8,h9,h10⟩:=h
 have hm:dd ag=true:=by
  simp at h1
  rcases h1 with rfl|rfl|rfl|rfl|rfl|rfl<;>decide
 have hs:ag≤1000000:=by
  simp at h1
  omega
 have CM:=jH (lM ag hs)
 rw[hm] at CM
 have hb:=(bR w.heap.size w).alloc (nR _) (cL (jh ag flows ah aj quota V) 61)
 have C1:=jH (kK flows 0 256 (by omega) h2)
 have C2:=jH (kK 1500 0 2000 (by omega) (by omega))
 have C3:=jH (kK aj 16 1048576 (by omega) (by omega))
 have C4:=jH (kK quota 0 67108864 (by omega) (by omega))
 have C5:=jH (kK V 1 3 h9 h10)
 have d1:decide ((1:Int)≤(ah:Int))=true:=decide_eq_true (by omega)
 have d2:decide ((ah:Int)≤1099511627776)=true:=decide_eq_true (by omega)
 simp only[show ((0:Nat):Int)=0 from rfl,show ((256:Nat):Int)=256 from rfl,show ((1500:Nat):Int)=1500 from rfl,show ((2000:Nat):Int)=2000 from rfl,show ((16:Nat):Int)=16 from rfl,show ((1048576:Nat):Int)=1048576 from rfl,show ((67108864:Nat):Int)=67108864 from rfl,show ((3:Nat):Int)=3 from rfl,show ((1:Nat):Int)=1 from rfl] at C1 C2 C3 C4 C5
 unfold jh at *
 clear h1 hm
 go_enter func29,ntmps29
 go_wp2_with fail
 refine(CM.out _).mono ?_
 rintro e w1 ⟨rfl,rfl⟩
 go_wp2_with fail
 refine(C1.out _).mono ?_
 rintro e w1 ⟨rfl,rfl⟩
 go_wp2_with fail
 refine(C2.out _).mono ?_
 rintro e w1 ⟨rfl,rfl⟩
 go_wp2_with fail
 refine(C3.out _).mono ?_
 rintro e w1 ⟨rfl,rfl⟩
 go_wp2_with fail
 refine(C4.out _).mono ?_
 rintro e w1 ⟨rfl,rfl⟩
 go_wp2_with fail
 refine(C5.out _).mono ?_
 rintro e w1 ⟨rfl,rfl⟩
 go_wp2_with fail
 go_ret
 exact⟨rfl,hb⟩
theorem Cf (w:World):Calls Pg 24 #[] w fun e w'=>e=rT (.agg (jh 13 8 30 200 20000 3))∧Below w.heap.size w w':=by
 go_enter func24,ntmps24
 go_wp2_with fail
 refine bodyPost_ret (results_cell_row rfl _ _ w.heap.size 61 _ (0,0) _ rfl (ab.new w 61 _) underlying61 rfl sv) rfl ?_
 exact⟨rfl,(bR w.heap.size w).alloc (nR _) _⟩
end
section
open Go.RowKit Go.Maps
theorem As (aa tp tm tk qp qm most ah now:Nat)(fm:List (Tu×Fl))(l:List It)(f g:Fl)(hgk:g.k=f.k)(hgb:g.be=f.be)(hgs:g.seen=now)(aV:now≤1099511627776)(hle:f.seen≤now)(w:World)(h:cg w aa tp tm tk qp qm most ah fm l)(hg:av fm f.k=some f)(an:aa≤w.heap.size):
  Calls Pg 108 #[PT (some ⟨tp,0,none⟩),bj g,bL true,X Y f.be,bL false] w fun e w'=>e=rT (G none 0 0)∧(∃l',dK l (bD f.k) now l'∧cg w' aa tp tm tk qp qm most ah (aw fm f.k {f with seen:=now}) l')∧bC qp KF [tm,tk,qm] aa w w':=by
 have ao:=(bR w.heap.size w).alloc (nR _) (.cells g.vals 47)
 have CT:=jH (BY aa tp tm tk qp qm most ah now fm l f aV hle _ (h.fr (Fr.of_below [] [] ao an) (by simp) (by simp) (by simp) (by simp) (by simp) (by simp) (by simp)) hg)
 have HB:Hid (bC qp KF [tm,tk,qm] aa w (w.alloc (.cells g.vals 47))):=((Fr.of_below [] [] ao an).q qp (by simp)).mono (by simp) (by simp)
 obtain⟨⟨s2,d2,p2,sp2,dp2⟩,b2,g2,n2⟩:=g
 dsimp only at hgk hgb hgs
 subst hgs hgb
 rw[←hgk] at CT
 have HK:=jH hgk
 clear h hg ao hgk
 unfold bj bS Fl.vals Tu.vals at *
 dsimp only at *
 go_enter func108,ntmps108
 go_wp2_with fail
 refine CT.out.mono ?_
 rintro e w1 ⟨rfl,hl,hf⟩
 have HF:=jH (aI hl (HB.out.trans hf))
 clear hl hf CT HB
 go_wp2
 go_ret
 rw[←HK.out]
 exact⟨rfl,HF.out⟩
theorem Au (aa tp tm tk qp qm most ah:Nat)(fm:List (Tu×Fl))(l:List It)(g:Fl)(was:Int)(hok:cI g)(w:World)(h:cg w aa tp tm tk qp qm most ah fm l)(hg:av fm g.k=none)(au:fm.length < most)(an:aa≤w.heap.size):
  Calls Pg 108 #[PT (some ⟨tp,0,none⟩),bj g,bL false,X Y was,bL false] w fun e w'=>(∃b,e=rT (G (some ⟨b,0,none⟩) 1 1)∧w.heap.size≤b∧ab w' b 119 (recC 1 g 0 (G none 0 0)))∧(∃l',dK l (bD g.k) g.seen l'∧cg w' aa tp tm tk qp qm most ah (aw fm g.k g) l')∧bC qp KF [tm,tk,qm] aa w w':=by
 have ao:=(bR w.heap.size w).alloc (nR _) (.cells g.vals 47)
 have hx0:=ab.new w 47 g.vals
 have CT:=jH (sT aa tp tm tk qp qm most ah fm l g hok _ (h.fr (Fr.of_below [] [] ao an) (by simp) (by simp) (by simp) (by simp) (by simp) (by simp) (by simp)) hg au)
 have HB:Hid (bC qp KF [tm,tk,qm] aa w (w.alloc (.cells g.vals 47))):=((Fr.of_below [] [] ao an).q qp (by simp)).mono (by simp) (by simp)
 have HX:=jH hx0
 clear h hg ao hok hx0
 obtain⟨⟨s2,d2,p2,sp2,dp2⟩,b2,g2,n2⟩:=g
 unfold bj Fl.vals at *
 dsimp only[recC] at *
 go_enter func108,ntmps108
 go_wp2_with fail
 refine CT.out.mono ?_
 rintro e w1 ⟨rfl,⟨l',hq,hW⟩,hf⟩
 have hx1:=hf.blk _ _ _ HX.out (by decide)
 obtain⟨x0,x1,x2,x3,x4,x5,x6,x7⟩:=hx1.c8
 have HF:=jH (aI hq (aI hW (HB.out.trans hf)))
 have hs1:=(HB.out.trans hf).size
 clear hq hW hf CT HB hx1
 go_wp2
 go_ret
 have af:=(bR w1.heap.size w1).alloc (nR _) (cL #[X Y 1,X Z s2,X Z d2,X Y p2,X Y sp2,X Y dp2,X Y b2,X Y g2,X Y n2,X Y 0,G none 0 0,X Y 0,X Y 0,X Y 0] 119)
 exact⟨⟨w1.heap.size,rfl,hs1,ab.new w1 _ _⟩,⟨l',HF.out.1,HF.out.2.1.fr (Fr.of_below [] [] af (nT an hs1)) (by simp) (by simp) (by simp) (by simp) (by simp) (by simp) (by simp)⟩,HF.out.2.2.made af (nT an hs1)⟩
end
section
open Go.RowKit
theorem yE (x y:Int):bits .or .i64 x y=IntKind.i64.wrap ((BitVec.ofInt 64 x|||BitVec.ofInt 64 y).toNat:Nat):=rfl
theorem E9 (x y:Int):bits .and .i64 x y=IntKind.i64.wrap ((BitVec.ofInt 64 x&&& BitVec.ofInt 64 y).toNat:Nat):=rfl
theorem oC (k:Nat)(hk:k≤62)(n:Int):bits .and .i64 n ((2 ^ k - 1:Nat):Int)=((n % ((2 ^ k:Nat):Int)).toNat:Int):=by
 have hm:(BitVec.ofInt 64 ((2 ^ k - 1:Nat):Int)).toNat=2 ^ k - 1:=by
  rw[BitVec.ofInt_natCast,BitVec.toNat_ofNat]
  exact Nat.mod_eq_of_lt (Nat.lt_of_lt_of_le (Nat.sub_lt (Nat.two_pow_pos k) (by omega)) (Nat.pow_le_pow_right (by omega) (by omega)))
 have key:(BitVec.ofInt 64 n&&& BitVec.ofInt 64 ((2 ^ k - 1:Nat):Int)).toNat=(n % ((2 ^ 64:Nat):Int)).toNat % 2 ^ k:=by
  rw[BitVec.toNat_and,BitVec.toNat_ofInt,hm,Nat.and_two_pow_sub_one_eq_mod]
 rw[E9,key]
 have hp:(2 ^ k:Nat)≤2 ^ 62:=Nat.pow_le_pow_right (by omega) hk
 have hd:(2 ^ k:Nat)∣2 ^ 64:=Nat.pow_dvd_pow 2 (by omega)
 have hpos:0 < 2 ^ k:=Nat.two_pow_pos k
 have e:((n % ((2 ^ 64:Nat):Int)).toNat % 2 ^ k:Nat)=(n % ((2 ^ k:Nat):Int)).toNat:=by
  have h0:0≤n % ((2 ^ 64:Nat):Int):=Int.emod_nonneg _ (by decide)
  apply Int.ofNat.inj
  show (((n % ((2 ^ 64:Nat):Int)).toNat % 2 ^ k:Nat):Int)=(((n % ((2 ^ k:Nat):Int)).toNat:Nat):Int)
  rw[Int.natCast_emod,Int.toNat_of_nonneg h0,Int.toNat_of_nonneg (Int.emod_nonneg _ (by omega))]
  exact Int.emod_emod_of_dvd _ (Int.natCast_dvd_natCast.2 hd)
 rw[e]
 have au:(n % ((2 ^ k:Nat):Int)).toNat < 2 ^ k:=by
  have h1:=Int.emod_lt_of_pos n (show (0:Int) < ((2 ^ k:Nat):Int) by omega)
  have h2:=Int.emod_nonneg n (show ((2 ^ k:Nat):Int)≠0 by omega)
  omega
 have e62:(2 ^ 62:Nat)=4611686018427387904:=by decide
 rw[e62] at hp
 generalize (n % ((2 ^ k:Nat):Int)).toNat=x at *
 exact IntWalk.i64_in _ (by omega)
theorem Bc (a b:Nat)(ha:a < 9223372036854775808)(hb:b < 9223372036854775808):bits .or .i64 (a:Int) (b:Int)=((a|||b:Nat):Int):=
 (bits_nat .i64 63 (by decide) (fun n h0 h1=>IntWalk.i64_in n (by
  have:(2:Int) ^ 63=9223372036854775808:=by decide
  omega)) a b ha hb).2
theorem oA (a b:Nat)(ha:a < 9223372036854775808)(hb:b < 9223372036854775808):bits .and .i64 (a:Int) (b:Int)=((a&&& b:Nat):Int):=
 (bits_nat .i64 63 (by decide) (fun n h0 h1=>IntWalk.i64_in n (by
  have:(2:Int) ^ 63=9223372036854775808:=by decide
  omega)) a b ha hb).1
structure Hd where
 ihl:Int
 tos:Int
 len:Int
 id:Int
 flags:Int
 off:Int
 ttl:Int
 proto:Int
 sum:Int
 src:Nat
 dst:Nat
def Hd.vals (h:Hd):Array Value:=#[X Y h.ihl,X Y h.tos,X Y h.len,X Y h.id,X Y h.flags,X Y h.off,X Y h.ttl,X Y h.proto,X Y h.sum,X Z h.src,X Z h.dst]
def dc:Hd:=⟨0,0,0,0,0,0,0,0,0,0,0⟩
def at' (b:List Nat)(j:Nat):Nat:=b.getD j 0
def aR (b:List Nat)(j:Nat):Nat:=at' b j * 256 + at' b (j + 1)
def dG (b:List Nat)(j:Nat):Nat:=aR b j * 65536 + aR b (j + 2)
theorem fR {b:List Nat}(h:ay b)(j:Nat):at' b j < 256:=by
 unfold at'
 rw[List.getD_eq_getElem?_getD]
 by_cases hj:j < b.length
 ·rw[List.getElem?_eq_getElem hj];exact h _ (List.getElem_mem hj)
 ·rw[List.getElem?_eq_none (by omega)];simp
theorem dV {b:List Nat}(h:ay b)(j:Nat):aR b j < 65536:=by
 unfold aR
 have:=fR h j
 have:=fR h (j + 1)
 omega
theorem sL {b:List Nat}(h:ay b)(j:Nat):dG b j < 4294967296:=by
 unfold dG
 have:=dV h j
 have:=dV h (j + 2)
 omega
theorem drop_one {b:List Nat}{j:Nat}(h:j < b.length):b.drop j=at' b j::b.drop (j + 1):=by
 rw[List.drop_eq_getElem_cons h]
 unfold at'
 simp[h]
theorem zd {b:List Nat}{j:Nat}(h:j < b.length):nb ((b.drop j).take 1)=at' b j:=by
 rw[drop_one h];simp[nb]
theorem za {b:List Nat}{j:Nat}(h:j + 1 < b.length):nb ((b.drop j).take 2)=aR b j:=by
 rw[drop_one (j:=j) (by omega),drop_one (j:=j + 1) h];simp[nb,aR]
theorem zc {b:List Nat}{j:Nat}(h:j + 3 < b.length):nb ((b.drop j).take 4)=dG b j:=by
 have h2:b.drop (j + 1 + 1)=at' b (j + 2)::b.drop (j + 3):=drop_one (j:=j + 2) (by omega)
 have h3:b.drop (j + 3)=at' b (j + 3)::b.drop (j + 4):=drop_one (j:=j + 3) h
 rw[drop_one (j:=j) (by omega),drop_one (j:=j + 1) (by omega),h2,h3]
 show _=(at' b j * 256 + at' b (j + 1)) * 65536 + (at' b (j + 2) * 256 + at' b (j + 3))
 simp[nb]
 omega
def cE (b:List Nat):Nat:=at' b 0 % 16
def bX (b:List Nat):Nat:=aR b 2
def fh (b:List Nat):Hd:=⟨(cE b:Nat),(at' b 1:Nat),(bX b:Nat),(aR b 4:Nat),(aR b 6 / 8192:Nat),(aR b 6 % 8192:Nat),(at' b 8:Nat),(at' b 9:Nat),(aR b 10:Nat),dG b 12,dG b 16⟩
def cD (b:List Nat):Nat:=
 if b.length < 20 then 1
 else if at' b 0 / 16≠4 then 2
 else if cE b < 5 then 3
 else if b.length < 4 * cE b then 1
 else if eh (b.take (4 * cE b))≠0 then 4
 else if bX b < 4 * cE b then 3
 else if b.length < bX b then 5
 else 0
def bO (b:List Nat):List Nat:=(b.take (bX b)).drop (4 * cE b)
def eD (h:Hd):Nat:=(h.flags % 8).toNat * 8192 + (h.off % 8192).toNat
def dB (h:Hd)(c:Nat):List Nat:=be 69 1++be (ai h.tos) 1++be (ai h.len) 2++be (ai h.id) 2++be (eD h) 2++be (ai h.ttl) 1++be (ai h.proto) 1++be c 2++be h.src 4++be h.dst 4
def bW (h:Hd):List Nat:=dB h (eh (dB h 0))
theorem sC (h:Hd)(c:Nat):(dB h c).length=20:=by simp[dB,be_length]
theorem oE (h:Hd)(c:Nat):ay (dB h c):=by
 unfold dB
 exact(((((((((bZ _ _).append (bZ _ _)).append (bZ _ _)).append (bZ _ _)).append (bZ _ _)).append (bZ _ _)).append (bZ _ _)).append (bZ _ _)).append (bZ _ _)).append (bZ _ _)
theorem gK (h:Hd):(bW h).length=20:=sC _ _
theorem Ef (h:Hd):ay (bW h):=oE _ _
structure mx (h:Hd):Prop where
 ihl:-9223372036854775808≤h.ihl∧h.ihl≤9223372036854775807
 tos:-9223372036854775808≤h.tos∧h.tos≤9223372036854775807
 len:-9223372036854775808≤h.len∧h.len≤9223372036854775807
 id:-9223372036854775808≤h.id∧h.id≤9223372036854775807
 flags:-9223372036854775808≤h.flags∧h.flags≤9223372036854775807
 off:-9223372036854775808≤h.off∧h.off≤9223372036854775807
 ttl:-9223372036854775808≤h.ttl∧h.ttl≤9223372036854775807
 proto:-9223372036854775808≤h.proto∧h.proto≤9223372036854775807
 sum:-9223372036854775808≤h.sum∧h.sum≤9223372036854775807
 src:h.src < 4294967296
 dst:h.dst < 4294967296
theorem vA (z:Int):(BitVec.ofInt 64 (IntKind.i64.wrap z)).toNat=(z % 18446744073709551616).toNat:=by
 rw[BitVec.toNat_ofInt,IntKind.wrap_i64]
 have e2:((2 ^ 64:Nat):Int)=18446744073709551616:=by decide
 rw[e2]
 omega
theorem vz (o:Nat)(h:o < 8192):(BitVec.ofInt 64 (o:Int)).toNat=o:=by
 rw[BitVec.ofInt_natCast,BitVec.toNat_ofNat]
 exact Nat.mod_eq_of_lt (Nat.lt_of_lt_of_le h (by decide))
theorem yD (z:Int)(o:Nat)(hz:z % 8192=0)(h:o < 8192):bits .or .i64 (IntKind.i64.wrap z) (o:Int)=IntKind.i64.wrap (((z % 18446744073709551616).toNat + o:Nat):Int):=by
 have h0:(z % 18446744073709551616).toNat % 2 ^ 13=0:=by omega
 rw[yE,BitVec.toNat_or,vA,vz o h,nat_join 13 _ o h0 h]
theorem uR (z:Int):ai (IntKind.i64.wrap z)=(z % 18446744073709551616).toNat:=by
 unfold ai
 rw[IntKind.wrap_i64]
 omega
theorem B3 (h:Hd):be (ai (bits .or .i64 (IntKind.i64.wrap (h.flags * 8192)) ((h.off % 8192).toNat:Int))) 2=be (eD h) 2:=by
 have hol:(h.off % 8192).toNat < 8192:=by omega
 rw[yD _ _ (by omega) hol,uR]
 apply Ez
 unfold eD
 generalize (h.off % 8192).toNat=o at *
 generalize h.flags=f at *
 have e:(256:Nat) ^ 2=65536:=by decide
 rw[e]
 omega
theorem nI {p j k:Nat}{l:List Nat}{w w':World}(h:gO p k (l.drop j) w w'):aD w' p (l.drop (j + k))∧w.grownBy w' (some p):=by
 obtain⟨h1,h2⟩:=h
 rw[List.drop_drop] at h1
 exact⟨h1,h2⟩
theorem uP (p j:Nat)(l:List Nat)(w:World)(hj:j + 1≤l.length)(hl:l.length≤140737488355328)(ha:ay l)(h:aD w p (l.drop j)):
  Calls Pg 406 #[PT (some ⟨p,0,none⟩)] w fun e w'=>e=rT (X Y (at' l j:Nat))∧aD w' p (l.drop (j + 1))∧w.grownBy w' (some p):=by
 refine(mG p (l.drop j) w (by simp;omega) (by simp;omega) (ha.drop j) h).mono ?_
 rintro e w' ⟨he,hn⟩
 rw[zd (by omega)] at he
 exact⟨he,nI hn⟩
theorem mM (p j:Nat)(l:List Nat)(w:World)(hj:j + 2≤l.length)(hl:l.length≤140737488355328)(ha:ay l)(h:aD w p (l.drop j)):
  Calls Pg 306 #[PT (some ⟨p,0,none⟩)] w fun e w'=>e=rT (X Y (aR l j:Nat))∧aD w' p (l.drop (j + 2))∧w.grownBy w' (some p):=by
 refine(mQ p (l.drop j) w (by simp;omega) (by simp;omega) (ha.drop j) h).mono ?_
 rintro e w' ⟨he,hn⟩
 rw[za (by omega)] at he
 exact⟨he,nI hn⟩
theorem uT (p j:Nat)(l:List Nat)(w:World)(hj:j + 4≤l.length)(hl:l.length≤140737488355328)(ha:ay l)(h:aD w p (l.drop j)):
  Calls Pg 305 #[PT (some ⟨p,0,none⟩)] w fun e w'=>e=rT (X Z (dG l j:Nat))∧aD w' p (l.drop (j + 4))∧w.grownBy w' (some p):=by
 refine(mJ p (l.drop j) w (by simp;omega) (by simp;omega) (ha.drop j) h).mono ?_
 rintro e w' ⟨he,hn⟩
 rw[zc (by omega)] at he
 exact⟨he,nI hn⟩
theorem rf (A:Option Addr)(n c B:Nat)(l:List Nat)(w:World)(hr:Reads w B 1 A n (bv l))(hB:B≤w.heap.size)(hn:n≤140737488355328)(h20:20≤n)(ha:ay l):
  Calls Pg 320 #[G A n c] w fun e w'=>e=rT (tU #[X Y (at' l 0 / 16:Nat),.agg (fh l).vals])∧Below w.heap.size w w':=by
 have ax:=hr.length
 have bI:A=none→c=0:=by
  intro e
  obtain⟨_,h,_⟩:=hr.2 (by omega)
  rw[e] at h;cases h
 have C1:=jH (fun w' (hb:Below w.heap.size w w')=>ja A n c w'.heap.size l w' ((hr.below (hb.mono hB)).more (nT hB hb.size)) (nR _) hn bI)
 have U8:=jH (fun p j w=>uP p j l w)
 have U16:=jH (fun p j w=>mM p j l w)
 have U32:=jH (fun p j w=>uT p j l w)
 have HL:=jH (aI (show 20≤l.length by omega) (aI (show l.length≤140737488355328 by omega) ha))
 obtain⟨R,hR⟩:∃R,R=Value.tuple #[X Y (at' l 0 / 16:Nat),.agg (fh l).vals]:=⟨_,rfl⟩
 rw[←hR]
 have HP:Hid (R=tU #[X Y (at' l 0 / 16:Nat),aG #[X Y (at' l 0 % 16:Nat),X Y (at' l 1:Nat),X Y (aR l 2:Nat),X Y (aR l 4:Nat),X Y (aR l 6 / 8192:Nat),X Y (aR l 6 % 8192:Nat),X Y (at' l 8:Nat),X Y (at' l 9:Nat),X Y (aR l 10:Nat),X Z (dG l 12:Nat),X Z (dG l 16:Nat)]]):=hR
 clear hR
 have b0:=fR ha 0
 have b1:=fR ha 1
 have b2:=dV ha 2
 have b4:=dV ha 4
 have b6:=dV ha 6
 have b8:=fR ha 8
 have b9:=fR ha 9
 have b10:=dV ha 10
 have cN:=sL ha 12
 have b16:=sL ha 16
 clear ax bI hr hB ha
 go_enter func320,ntmps320
 go_wp2_with fail
 refine(C1.out _ ((bR _ _).alloc (nR _) _)).mono ?_
 rintro e w1 ⟨p,rfl,hp,hrb,ae⟩
 have hB1:Below w.heap.size w w1:=((bR _ _).alloc (nR _) _).trans (ae.mono (by simp))
 have cz:=(ab.new w 132 #[X Y 0,X Y 0,X Y 0,X Y 0,X Y 0,X Y 0,X Y 0,X Y 0,X Y 0,X Z 0,X Z 0]).below ae (by simp)
 have hpw:w.heap.size < p:=by simp at hp;omega
 have hs1:=hB1.size
 obtain⟨q,hq⟩:∃q,q=w.heap.size:=⟨_,rfl⟩
 rw[←hq] at cz hpw⊢
 have HQ:=jH hq
 have hrb0:aD w1 p (l.drop 0):=hrb
 clear ae hp hrb C1 hq
 go_wp2_with fail
 refine(U8.out p 0 w1 (by have:=HL.out.1;omega) HL.out.2.1 HL.out.2.2 hrb0).mono ?_
 rintro e w2 ⟨rfl,hrb1,hg1⟩
 have hB2:Below w.heap.size w w2:=hB1.grown hg1 hs1 (fun k hk=>by cases hk;have:=HQ.out;omega)
 have hres2:=cz.grown hg1 (by intro h;cases h;omega)
 clear hg1 hrb0 cz hB1 hs1
 have hmask:bits BinOp.and IntKind.i64 ((at' l 0:Nat):Int) 15=((at' l 0 % 16:Nat):Int):=by
  have:=oA (at' l 0) 15 (by omega) (by omega)
  rw[nat_mask4] at this
  exact this
 have hdiv:((at' l 0:Nat):Int) / 16=((at' l 0 / 16:Nat):Int):=by omega
 have hmod:=jH (show at' l 0 % 16 < 16 by omega)
 generalize at' l 0=x0 at *
 go_wp2_with fail
 refine(U8.out p 1 w2 (by have:=HL.out.1;omega) HL.out.2.1 HL.out.2.2 hrb1).mono ?_
 rintro e w3 ⟨rfl,hrb2,hg2⟩
 have hB3:Below w.heap.size w w3:=hB2.grown hg2 hB2.size (fun k hk=>by cases hk;have:=HQ.out;omega)
 have hres3:=hres2.grown hg2 (by intro h;cases h;omega)
 clear hg2 hrb1 hres2 hB2
 generalize at' l 1=x1 at *
 go_wp2_with fail
 refine(U16.out p 2 w3 (by have:=HL.out.1;omega) HL.out.2.1 HL.out.2.2 hrb2).mono ?_
 rintro e w4 ⟨rfl,hrb4,hg3⟩
 have hB4:Below w.heap.size w w4:=hB3.grown hg3 hB3.size (fun k hk=>by cases hk;have:=HQ.out;omega)
 have bN:=hres3.grown hg3 (by intro h;cases h;omega)
 clear hg3 hrb2 hres3 hB3
 generalize aR l 2=x2 at *
 go_wp2_with fail
 refine(U16.out p 4 w4 (by have:=HL.out.1;omega) HL.out.2.1 HL.out.2.2 hrb4).mono ?_
 rintro e w5 ⟨rfl,hrb6,hg4⟩
 have hB5:Below w.heap.size w w5:=hB4.grown hg4 hB4.size (fun k hk=>by cases hk;have:=HQ.out;omega)
 have hres5:=bN.grown hg4 (by intro h;cases h;omega)
 clear hg4 hrb4 bN hB4
 generalize aR l 4=x4 at *
 go_wp2_with fail
 obtain⟨w6,hw6⟩:∃w6,w6=w5.alloc (cL #[X Y ((x0:Int) % 16),X Y x1,X Y x2,X Y x4,X Y 0,X Y 0,X Y 0,X Y 0,X Y 0,X Z 0,X Z 0] 132):=⟨_,rfl⟩
 obtain⟨ph,hph⟩:∃ph,ph=w5.heap.size:=⟨_,rfl⟩
 have hbh:ab w6 ph 132 #[X Y ((x0:Int) % 16),X Y x1,X Y x2,X Y x4,X Y 0,X Y 0,X Y 0,X Y 0,X Y 0,X Z 0,X Z 0]:=by rw[hw6,hph];exact ab.new _ _ _
 have hrb6':aD w6 p (l.drop 6):=by rw[hw6];exact hrb6.below ((bR _ _).alloc (nR _) _)
 have hres6:=hres5.alloc (cL #[X Y ((x0:Int) % 16),X Y x1,X Y x2,X Y x4,X Y 0,X Y 0,X Y 0,X Y 0,X Y 0,X Z 0,X Z 0] 132)
 have hB6:Below w.heap.size w w6:=by rw[hw6];exact hB5.alloc hB5.size _
 have hpp:p < ph:=by rw[hph];exact hrb6.lt
 rw[←hw6] at hres6⊢
 rw[←hph]
 have hqh:q < ph:=by omega
 clear hw6 hph hres5 hB5 hrb6
 refine(U16.out p 6 w6 (by have:=HL.out.1;omega) HL.out.2.1 HL.out.2.2 hrb6').mono ?_
 rintro e w7 ⟨rfl,hrb8,hg6⟩
 have hB7:Below w.heap.size w w7:=hB6.grown hg6 hB6.size (fun k hk=>by cases hk;have:=HQ.out;omega)
 have hres7:=hres6.grown hg6 (by intro h;cases h;omega)
 have hbh7:=hbh.grown hg6 (by intro h;cases h;omega)
 obtain⟨-,-,-,-,hf4,hf5⟩:=hbh7.f6
 obtain⟨-,-,-,-,hc4,hc5⟩:=hbh7.c6
 clear hg6 hrb6' hres6 hB6 hbh
 have hmask6:bits BinOp.and IntKind.i64 ((aR l 6:Nat):Int) 8191=((aR l 6:Nat):Int) % 8192:=by
  have:=oA (aR l 6) 8191 (by omega) (by omega)
  rw[nat_mask13] at this
  exact this.trans (by omega)
 generalize aR l 6=x6 at *
 go_wp2_with fail
 obtain⟨w8,hw8⟩:∃w8,w8=(w7.setCell ⟨ph,4,none⟩ (X Y ((x6:Int) / 8192))).setCell ⟨ph,5,none⟩ (X Y ((x6:Int) % 8192)):=⟨_,rfl⟩
 have hb78:Below ph w7 w8:=by rw[hw8];exact((bR _ _).setCell (p:=⟨ph,4,none⟩) (nR _) _).setCell (p:=⟨ph,5,none⟩) (nR _) _
 have hbh8:=(hbh7.set_ 4 (X Y ((x6:Int) / 8192))).set_ 5 (X Y ((x6:Int) % 8192))
 rw[←hw8] at hbh8⊢
 have hrb8':=hrb8.behind hb78 hpp
 have hres8:=hres7.below hb78 hqh
 have hB8:Below w.heap.size w w8:=hB7.trans (hb78.mono (by have:=HQ.out;omega))
 clear hw8 hb78 hbh7 hrb8 hres7 hB7 hf4 hf5 hc4 hc5
 refine(U8.out p 8 w8 (by have:=HL.out.1;omega) HL.out.2.1 HL.out.2.2 hrb8').mono ?_
 rintro e w9 ⟨rfl,hrb9,hg8⟩
 have hB9:Below w.heap.size w w9:=hB8.grown hg8 hB8.size (fun k hk=>by cases hk;have:=HQ.out;omega)
 have hres9:=hres8.grown hg8 (by intro h;cases h;omega)
 have hbh9:=hbh8.grown hg8 (by intro h;cases h;omega)
 clear hg8 hrb8' hres8 hB8 hbh8
 generalize at' l 8=x8 at *
 go_wp2_with fail
 refine(U8.out p 9 w9 (by have:=HL.out.1;omega) HL.out.2.1 HL.out.2.2 hrb9).mono ?_
 rintro e w10 ⟨rfl,hrb10,hg9⟩
 have hB10:Below w.heap.size w w10:=hB9.grown hg9 hB9.size (fun k hk=>by cases hk;have:=HQ.out;omega)
 have hres10:=hres9.grown hg9 (by intro h;cases h;omega)
 have hbh10:=hbh9.grown hg9 (by intro h;cases h;omega)
 clear hg9 hrb9 hres9 hB9 hbh9
 generalize at' l 9=x9 at *
 go_wp2_with fail
 refine(U16.out p 10 w10 (by have:=HL.out.1;omega) HL.out.2.1 HL.out.2.2 hrb10).mono ?_
 rintro e w11 ⟨rfl,hrb12,hg10⟩
 have hB11:Below w.heap.size w w11:=hB10.grown hg10 hB10.size (fun k hk=>by cases hk;have:=HQ.out;omega)
 have hres11:=hres10.grown hg10 (by intro h;cases h;omega)
 have hbh11:=hbh10.grown hg10 (by intro h;cases h;omega)
 clear hg10 hrb10 hres10 hB10 hbh10
 generalize aR l 10=x10 at *
 obtain⟨-,-,-,-,-,-,hf6,hf7,hf8⟩:=hbh11.f9
 have hc6:=hbh11.cell 6
 have hc7:=hbh11.cell 7
 have hc8:=hbh11.cell 8
 simp only[Array.getElem?_setIfInBounds,ga,gz,gN] at hc6 hc7 hc8
 simp at hc6 hc7 hc8
 go_wp2_with fail
 obtain⟨w12,hw12⟩:∃w12,w12=((w11.setCell ⟨ph,6,none⟩ (X Y x8)).setCell ⟨ph,7,none⟩ (X Y x9)).setCell ⟨ph,8,none⟩ (X Y x10):=⟨_,rfl⟩
 have hb1112:Below ph w11 w12:=by rw[hw12];exact(((bR _ _).setCell (p:=⟨ph,6,none⟩) (nR _) _).setCell (p:=⟨ph,7,none⟩) (nR _) _).setCell (p:=⟨ph,8,none⟩) (nR _) _
 have hbh12:=((hbh11.set_ 6 (X Y x8)).set_ 7 (X Y x9)).set_ 8 (X Y x10)
 rw[←hw12] at hbh12⊢
 have hrb12':=hrb12.behind hb1112 hpp
 have hres12:=hres11.below hb1112 hqh
 have hB12:Below w.heap.size w w12:=hB11.trans (hb1112.mono (by have:=HQ.out;omega))
 clear hw12 hb1112 hbh11 hrb12 hres11 hB11 hf6 hf7 hf8 hc6 hc7 hc8
 refine(U32.out p 12 w12 (by have:=HL.out.1;omega) HL.out.2.1 HL.out.2.2 hrb12').mono ?_
 rintro e w13 ⟨rfl,hrb16,hg12⟩
 have hB13:Below w.heap.size w w13:=hB12.grown hg12 hB12.size (fun k hk=>by cases hk;have:=HQ.out;omega)
 have hres13:=hres12.grown hg12 (by intro h;cases h;omega)
 have hbh13:=hbh12.grown hg12 (by intro h;cases h;omega)
 clear hg12 hrb12' hres12 hB12 hbh12
 generalize dG l 12=x12 at *
 go_wp2_with fail
 refine(U32.out p 16 w13 (by have:=HL.out.1;omega) HL.out.2.1 HL.out.2.2 hrb16).mono ?_
 rintro e w14 ⟨rfl,hrb20,hg16⟩
 have hB14:Below w.heap.size w w14:=hB13.grown hg16 hB13.size (fun k hk=>by cases hk;have:=HQ.out;omega)
 have hres14:=hres13.grown hg16 (by intro h;cases h;omega)
 have hbh14:=hbh13.grown hg16 (by intro h;cases h;omega)
 clear hg16 hrb16 hrb20 hres13 hB13 hbh13
 generalize dG l 16=x16 at *
 obtain⟨-,-,-,-,-,-,-,-,-,hf9,hf10⟩:=hbh14.f11
 have hc9:=hbh14.cell 9
 have hc10:=hbh14.cell 10
 simp at hc9 hc10
 go_wp2_with fail
 obtain⟨w15,hw15⟩:∃w15,w15=(w14.setCell ⟨ph,9,none⟩ (X Z x12)).setCell ⟨ph,10,none⟩ (X Z x16):=⟨_,rfl⟩
 have hb1415:Below ph w14 w15:=by rw[hw15];exact((bR _ _).setCell (p:=⟨ph,9,none⟩) (nR _) _).setCell (p:=⟨ph,10,none⟩) (nR _) _
 have hbh15:ab w15 ph 132 #[X Y ((x0:Int) % 16),X Y x1,X Y x2,X Y x4,X Y ((x6:Int) / 8192),X Y ((x6:Int) % 8192),X Y x8,X Y x9,X Y x10,X Z x12,X Z x16]:=by
  rw[hw15]
  exact(hbh14.set_ 9 (X Z x12)).set_ 10 (X Z x16)
 rw[←hw15]
 have hres15:=hres14.below hb1415 hqh
 have hB15:Below w.heap.size w w15:=hB14.trans (hb1415.mono (by have:=HQ.out;omega))
 clear hw15 hb1415 hbh14 hres14 hB14 hf9 hf10 hc9 hc10
 clear U8 U16 U32 HL b0 b1 b2 b4 b6 b8 b9 b10 cN b16 hmask hdiv hmod hmask6
 refine wp_region_still_tail 4 (by kernel_rfl) (by kernel_rfl) ?_
 change wpStill _ _ (World.drew w15) (fun a'=>wpList _ _ _ _ a' (World.drew w15)) _ _
 have hbh16:=hbh15.drew
 have hres16:=hres15.drew
 have hB16:=hB15.drew
 clear hbh15 hres15 hB15
 generalize World.drew w15=w16 at *
 obtain⟨hc0,hc1,hc2,hc3,hc4,hc5,hc6,hc7,hc8,hc9,hc10⟩:=hbh16.c11
 simp only[List.take_succ_cons,List.take_zero,List.drop_succ_cons,List.drop_zero]
 repeat still_step
 refine wpStill_nil ?_
 clear hc0 hc1 hc2 hc3 hc4 hc5 hc6 hc7 hc8 hc9 hc10
 obtain⟨he0,he1,he2,he3,he4,he5,he6,he7,he8,he9,he10⟩:=hres16.c11
 obtain⟨hf0,hf1,hf2,hf3,hf4,hf5,hf6,hf7,hf8,hf9,hf10⟩:=hres16.f11
 go_wp2_with fail
 obtain⟨w17,hw17⟩:∃w17,w17=(((((((((((w16).setCell ⟨q,0,none⟩ (X Y ((x0:Int) % 16))).setCell ⟨q,1,none⟩ (X Y x1)).setCell ⟨q,2,none⟩ (X Y x2)).setCell ⟨q,3,none⟩ (X Y x4)).setCell ⟨q,4,none⟩ (X Y ((x6:Int) / 8192))).setCell ⟨q,5,none⟩ (X Y ((x6:Int) % 8192))).setCell ⟨q,6,none⟩ (X Y x8)).setCell ⟨q,7,none⟩ (X Y x9)).setCell ⟨q,8,none⟩ (X Y x10)).setCell ⟨q,9,none⟩ (X Z x12)).setCell ⟨q,10,none⟩ (X Z x16):=⟨_,rfl⟩
 have hbr17:ab w17 q 132 #[X Y ((x0:Int) % 16),X Y x1,X Y x2,X Y x4,X Y ((x6:Int) / 8192),X Y ((x6:Int) % 8192),X Y x8,X Y x9,X Y x10,X Z x12,X Z x16]:=by
  rw[hw17]
  have hset:=(((((((((((hres16).set_ 0 (X Y ((x0:Int) % 16))).set_ 1 (X Y x1)).set_ 2 (X Y x2)).set_ 3 (X Y x4)).set_ 4 (X Y ((x6:Int) / 8192))).set_ 5 (X Y ((x6:Int) % 8192))).set_ 6 (X Y x8)).set_ 7 (X Y x9)).set_ 8 (X Y x10)).set_ 9 (X Z x12)).set_ 10 (X Z x16)
  simp only[List.setIfInBounds_toArray,List.set_cons_zero,List.set_cons_succ] at hset
  exact hset
 have hB17:Below w.heap.size w w17:=by
  rw[hw17]
  exact hB16.trans (((((((((((((bR q w16).setCell (p:=⟨q,0,none⟩) (nR _) _).setCell (p:=⟨q,1,none⟩) (nR _) _).setCell (p:=⟨q,2,none⟩) (nR _) _).setCell (p:=⟨q,3,none⟩) (nR _) _).setCell (p:=⟨q,4,none⟩) (nR _) _).setCell (p:=⟨q,5,none⟩) (nR _) _).setCell (p:=⟨q,6,none⟩) (nR _) _).setCell (p:=⟨q,7,none⟩) (nR _) _).setCell (p:=⟨q,8,none⟩) (nR _) _).setCell (p:=⟨q,9,none⟩) (nR _) _).setCell (p:=⟨q,10,none⟩) (nR _) _:Below q w16 _).mono (by have:=HQ.out;omega))
 rw[←hw17]
 clear hw17
 obtain⟨hr0,hr1,hr2,hr3,hr4,hr5,hr6,hr7,hr8,hr9,hr10⟩:=hbr17.c11
 refine bodyPost_ret (v:=tU #[X Y ((x0:Int) / 16),aG #[X Y ((x0:Int) % 16),X Y x1,X Y x2,X Y x4,X Y ((x6:Int) / 8192),X Y ((x6:Int) % 8192),X Y x8,X Y x9,X Y x10,X Z x12,X Z x16]]) (by simp[results,results320,go_sem,hr0,hr1,hr2,hr3,hr4,hr5,hr6,hr7,hr8,hr9,hr10]) rfl ⟨?_,hB17⟩
 rw[HP.out]
 simp only[Int.natCast_ediv,Int.natCast_emod]
 rfl
def gm (l:List Nat)(w:World)(e:Ending)(w':World):Prop:=
 (cD l=0∧∃A c,e=rT (tU #[.agg (fh l).vals,G A (bX l - 4 * cE l) c,X Y 0])∧w'.ownsRow w.heap.size 5 1 (G A (bX l - 4 * cE l) c) (bX l - 4 * cE l) (bv (bO l)))∨
 (cD l≠0∧e=rT (tU #[.agg dc.vals,G none 0 0,X Y (cD l:Nat)]))
theorem pN {l:List Nat}(h:l.length < 20):cD l=1:=by unfold cD;rw[if_pos h]
theorem mB {l:List Nat}{n v s L z:Nat}(h20:20≤n)(hn:l.length=n)(hv:at' l 0 / 16=v)(hs:cE l=s)(hL:bX l=L)(hz:eh (l.take (4 * s))=z):
  (v≠4∧cD l=2)∨(v=4∧s < 5∧cD l=3)∨(v=4∧5≤s∧n < 4 * s∧cD l=1)∨(v=4∧5≤s∧4 * s≤n∧z≠0∧cD l=4)∨
  (v=4∧5≤s∧4 * s≤n∧z=0∧L < 4 * s∧cD l=3)∨(v=4∧5≤s∧4 * s≤n∧z=0∧4 * s≤L∧n < L∧cD l=5)∨(v=4∧5≤s∧4 * s≤n∧z=0∧4 * s≤L∧L≤n∧cD l=0):=by
 unfold cD
 rw[hn,hv,hs,hL,hz,if_neg (by omega)]
 by_cases h1:v≠4
 ·rw[if_pos h1];exact .inl ⟨h1,rfl⟩
 ·rw[if_neg h1]
  by_cases h2:s < 5
  ·rw[if_pos h2];exact .inr (.inl ⟨by omega,h2,rfl⟩)
  ·rw[if_neg h2]
   by_cases h3:n < 4 * s
   ·rw[if_pos h3];exact .inr (.inr (.inl ⟨by omega,by omega,h3,rfl⟩))
   ·rw[if_neg h3]
    by_cases h4:z≠0
    ·rw[if_pos h4];exact .inr (.inr (.inr (.inl ⟨by omega,by omega,by omega,h4,rfl⟩)))
    ·rw[if_neg h4]
     by_cases h5:L < 4 * s
     ·rw[if_pos h5];exact .inr (.inr (.inr (.inr (.inl ⟨by omega,by omega,by omega,by omega,h5,rfl⟩))))
     ·rw[if_neg h5]
      by_cases h6:n < L
      ·rw[if_pos h6];exact .inr (.inr (.inr (.inr (.inr (.inl ⟨by omega,by omega,by omega,by omega,by omega,h6,rfl⟩)))))
      ·rw[if_neg h6];exact .inr (.inr (.inr (.inr (.inr (.inr ⟨by omega,by omega,by omega,by omega,by omega,by omega,rfl⟩)))))
theorem sD (l:List Nat)(ha:ay l):∃v s x1 L x4 x6 x7 x8 x9 x10 x12 x16:Nat,at' l 0 / 16=v∧cE l=s∧bX l=L∧(fh l).vals=#[X Y s,X Y x1,X Y L,X Y x4,X Y x6,X Y x7,X Y x8,X Y x9,X Y x10,X Z x12,X Z x16]∧v < 16∧s < 16∧L < 65536:=
 ⟨_,_,_,_,_,_,_,_,_,_,_,_,rfl,rfl,rfl,rfl,by have:=fR ha 0;omega,by unfold cE;omega,dV ha 2⟩
theorem yr (A:Option Addr)(n c B:Nat)(l:List Nat)(w:World)(hr:Reads w B 1 A n (bv l))(h20:n < 20):
  Calls Pg 206 #[G A n c] w fun e w'=>gm l w e w'∧Below w.heap.size w w':=by
 have hwhy:=pN (l:=l) (by have:=hr.length;omega)
 have HR:Hid (∀w',gm l w (rT (tU #[aG #[X Y 0,X Y 0,X Y 0,X Y 0,X Y 0,X Y 0,X Y 0,X Y 0,X Y 0,X Z 0,X Z 0],G none 0 0,X Y 1])) w'):=fun w'=>.inr ⟨by omega,by rw[hwhy];rfl⟩
 clear hr hwhy
 go_enter func206,ntmps206
 go_wp2_with fail
 exact bodyPost_ret (v:=tU #[aG #[X Y 0,X Y 0,X Y 0,X Y 0,X Y 0,X Y 0,X Y 0,X Y 0,X Y 0,X Z 0,X Z 0],G none 0 0,X Y 1]) (by simp[results,results206,go_sem]) rfl ⟨HR.out _,(bR _ _).alloc (nR _) _⟩
theorem yu (A:Option Addr)(n c B:Nat)(l:List Nat)(w:World)(hr:Reads w B 1 A n (bv l))(hB:B≤w.heap.size)(hn:n≤140737488355328)(hnc:n≤c)(h20:20≤n)(ha:ay l)(hno:cD l≠0):
  Calls Pg 206 #[G A n c] w fun e w'=>gm l w e w'∧Below w.heap.size w w':=by
 have ax:=hr.length
 obtain⟨v,s,x1,L,x4,x6,x7,x8,x9,x10,x12,x16,hv,hs,hL,hvals,v16,s16,L16⟩:=sD l ha
 obtain⟨z,hz⟩:∃z,eh (l.take (4 * s))=z:=⟨_,rfl⟩
 have hcases:=mB h20 ax hv hs hL hz
 have HV:=jH (aI hv hvals)
 have HZ:=jH hz
 have C1:=jH (fun w' (hb:Below w.heap.size w w')=>rf A n c w'.heap.size l w' ((hr.below (hb.mono hB)).more (nT hB hb.size)) (nR _) hn h20 ha)
 have CN:=jH (fun w' (hb:Below w.heap.size w w') (h4:4 * s≤n)=>net_any w' w'.heap.size A (4 * s) c (l.take (4 * s)) (((hr.below (hb.mono hB)).more (nT hB hb.size)).takeb h4) (by omega) (ha.take _))
 rw[hz] at CN
 obtain⟨r,hwr,hr0⟩:∃r,cD l=r∧r≠0:=⟨_,rfl,hno⟩
 rw[hwr] at hcases
 have HC:=jH hcases
 have HR:Hid (∀w',gm l w (rT (tU #[aG #[X Y 0,X Y 0,X Y 0,X Y 0,X Y 0,X Y 0,X Y 0,X Y 0,X Y 0,X Z 0,X Z 0],G none 0 0,X Y r])) w'):=fun w'=>.inr ⟨by rw[hwr];exact hr0,by rw[hwr];rfl⟩
 clear hr ax hv hs hL hvals hz hcases hwr hno ha
 go_enter func206,ntmps206
 go_wp2_with fail
 refine(C1.out _ ((bR _ _).alloc (nR _) _)).mono ?_
 rintro e w1 ⟨he,ae⟩
 rw[HV.out.1,HV.out.2] at he
 subst he
 have hB1:Below w.heap.size w w1:=((bR _ _).alloc (nR _) _).trans (ae.mono (by simp))
 have cz:=(ab.new w 132 #[X Y 0,X Y 0,X Y 0,X Y 0,X Y 0,X Y 0,X Y 0,X Y 0,X Y 0,X Z 0,X Z 0]).below ae (by simp)
 clear ae C1
 obtain⟨q,hq⟩:∃q,q=w.heap.size:=⟨_,rfl⟩
 rw[←hq] at cz⊢
 have HQ:=jH hq
 clear hq
 go_upto_block 0 with fail
 go_cut [8] (fun v8 wx=>v8=X Y r∧wx=w1.alloc (cL #[X Y s,X Y x1,X Y L,X Y x4,X Y x6,X Y x7,X Y x8,X Y x9,X Y x10,X Z x12,X Z x16] 132))
 case first=>
  rcases HC.out with⟨a1,h⟩|⟨a1,a2,h⟩|⟨a1,a2,a3,h⟩|⟨a1,a2,a3,a4,h⟩|⟨a1,a2,a3,a4,a5,h⟩|⟨a1,a2,a3,a4,a5,a6,h⟩|⟨a1,a2,a3,a4,a5,a6,h⟩
  ·have hb:((v:Int) !=4)=true:=by simp;omega
   have HH:=jH h
   clear a1 h hr0
   go_wp2_with fail
   go_meet
   exact⟨by rw[HH.out];rfl,rfl⟩
  ·have hb:((v:Int) !=4)=false:=by simp;omega
   have HH:=jH h
   clear a1 h hr0
   go_wp2_with fail
   go_meet
   exact⟨by rw[HH.out];rfl,rfl⟩
  ·have hb:((v:Int) !=4)=false:=by simp;omega
   have HH:=jH h
   clear a1 h hr0
   go_wp2_with fail
   go_meet
   exact⟨by rw[HH.out];rfl,rfl⟩
  ·have hb:((v:Int) !=4)=false:=by simp;omega
   have af:((z:Int) !=0)=true:=by simp;omega
   have HH:=jH h
   have HN:=jH (fun w' hb=>CN.out w' hb a3)
   clear a1 h hr0 a4
   go_wp2_with fail
   refine(HN.out _ (hB1.alloc hB1.size _)).mono ?_
   rintro e w' ⟨rfl,rfl⟩
   go_wp2_with fail
   go_meet
   exact⟨by rw[HH.out];rfl,rfl⟩
  ·have hb:((v:Int) !=4)=false:=by simp;omega
   have af:((z:Int) !=0)=false:=by simp;omega
   have HH:=jH h
   have HN:=jH (fun w' hb=>CN.out w' hb a3)
   clear a1 h hr0 a4
   go_wp2_with fail
   refine(HN.out _ (hB1.alloc hB1.size _)).mono ?_
   rintro e w' ⟨rfl,rfl⟩
   go_wp2_with fail
   go_meet
   exact⟨by rw[HH.out];rfl,rfl⟩
  ·have hb:((v:Int) !=4)=false:=by simp;omega
   have af:((z:Int) !=0)=false:=by simp;omega
   have HH:=jH h
   have HN:=jH (fun w' hb=>CN.out w' hb a3)
   clear a1 h hr0 a4
   go_wp2_with fail
   refine(HN.out _ (hB1.alloc hB1.size _)).mono ?_
   rintro e w' ⟨rfl,rfl⟩
   go_wp2_with fail
   go_meet
   exact⟨by rw[HH.out];rfl,rfl⟩
  ·exact absurd h hr0
 case rest=>
  obtain⟨rfl,hwc⟩:=hcut
  have af:Below w.heap.size w wc:=by rw[hwc];exact hB1.alloc hB1.size _
  have hres2:ab wc q 132 #[X Y 0,X Y 0,X Y 0,X Y 0,X Y 0,X Y 0,X Y 0,X Y 0,X Y 0,X Z 0,X Z 0]:=by rw[hwc];exact cz.alloc _
  clear hwc cz hB1 CN HC HV HZ
  obtain⟨he0,he1,he2,he3,he4,he5,he6,he7,he8,he9,he10⟩:=hres2.c11
  obtain⟨hf0,hf1,hf2,hf3,hf4,hf5,hf6,hf7,hf8,hf9,hf10⟩:=hres2.f11
  go_wp2_with fail
  obtain⟨w3,hw3⟩:∃w3,w3=(((((((((((wc).setCell ⟨q,0,none⟩ (X Y 0)).setCell ⟨q,1,none⟩ (X Y 0)).setCell ⟨q,2,none⟩ (X Y 0)).setCell ⟨q,3,none⟩ (X Y 0)).setCell ⟨q,4,none⟩ (X Y 0)).setCell ⟨q,5,none⟩ (X Y 0)).setCell ⟨q,6,none⟩ (X Y 0)).setCell ⟨q,7,none⟩ (X Y 0)).setCell ⟨q,8,none⟩ (X Y 0)).setCell ⟨q,9,none⟩ (X Z 0)).setCell ⟨q,10,none⟩ (X Z 0):=⟨_,rfl⟩
  have hres3:ab w3 q 132 #[X Y 0,X Y 0,X Y 0,X Y 0,X Y 0,X Y 0,X Y 0,X Y 0,X Y 0,X Z 0,X Z 0]:=by
   rw[hw3]
   have hset:=(((((((((((hres2).set_ 0 (X Y 0)).set_ 1 (X Y 0)).set_ 2 (X Y 0)).set_ 3 (X Y 0)).set_ 4 (X Y 0)).set_ 5 (X Y 0)).set_ 6 (X Y 0)).set_ 7 (X Y 0)).set_ 8 (X Y 0)).set_ 9 (X Z 0)).set_ 10 (X Z 0)
   simp only[List.setIfInBounds_toArray,List.set_cons_zero,List.set_cons_succ] at hset
   exact hset
  have hB3:Below w.heap.size w w3:=by
   rw[hw3]
   exact af.trans (((((((((((((bR q wc).setCell (p:=⟨q,0,none⟩) (nR _) _).setCell (p:=⟨q,1,none⟩) (nR _) _).setCell (p:=⟨q,2,none⟩) (nR _) _).setCell (p:=⟨q,3,none⟩) (nR _) _).setCell (p:=⟨q,4,none⟩) (nR _) _).setCell (p:=⟨q,5,none⟩) (nR _) _).setCell (p:=⟨q,6,none⟩) (nR _) _).setCell (p:=⟨q,7,none⟩) (nR _) _).setCell (p:=⟨q,8,none⟩) (nR _) _).setCell (p:=⟨q,9,none⟩) (nR _) _).setCell (p:=⟨q,10,none⟩) (nR _) _:Below q wc _).mono (by rw[HQ.out];exact nR _))
  rw[←hw3]
  clear hw3
  obtain⟨hr0',hr1',hr2',hr3',hr4',hr5',hr6',hr7',hr8',hr9',hr10'⟩:=hres3.c11
  exact bodyPost_ret (v:=tU #[aG #[X Y 0,X Y 0,X Y 0,X Y 0,X Y 0,X Y 0,X Y 0,X Y 0,X Y 0,X Z 0,X Z 0],G none 0 0,X Y r]) (by simp[results,results206,go_sem,hr0',hr1',hr2',hr3',hr4',hr5',hr6',hr7',hr8',hr9',hr10']) rfl ⟨HR.out _,hB3⟩
theorem cell_far {w:World}{q j ph k:Nat}{u:Value}(h:¬ph=q):(w.setCell ⟨q,j,none⟩ u).cell? ⟨ph,k,none⟩=w.cell? ⟨ph,k,none⟩:=
 World.cell?_setCell_other w _ _ u (fun e=>h (by injection e with e1;first|exact e1|exact e1.symm))
theorem gB {w:World}{aa base' n size:Nat}{e:TypeId}{v:Value}{xs:List Value}(h:w.ownsRow aa e size v n xs)(hb:base'≤aa):w.ownsRow base' e size v n xs:=by
 refine⟨h.1,?_⟩
 rcases h.2 with hn|⟨g,cap,cur,hv,hg,rest⟩
 ·exact .inl hn
 ·exact .inr ⟨g,cap,cur,hv,by omega,rest⟩
theorem yt (A:Option Addr)(n c B:Nat)(l:List Nat)(w:World)(hr:Reads w B 1 A n (bv l))(hB:B≤w.heap.size)(hn:n≤140737488355328)(hnc:n≤c)(h20:20≤n)(ha:ay l)(hyes:cD l=0):
  Calls Pg 206 #[G A n c] w fun e w'=>gm l w e w'∧Below w.heap.size w w':=by
 have ax:=hr.length
 obtain⟨v,s,x1,L,x4,x6,x7,x8,x9,x10,x12,x16,hv,hs,hL,hvals,v16,s16,L16⟩:=sD l ha
 obtain⟨z,hz⟩:∃z,eh (l.take (4 * s))=z:=⟨_,rfl⟩
 have hcases:=mB h20 ax hv hs hL hz
 rw[hyes] at hcases
 obtain⟨a1,a2,a3,a4,a5,a6⟩:v=4∧5≤s∧4 * s≤n∧z=0∧4 * s≤L∧L≤n:=by
  rcases hcases with⟨_,h⟩|⟨_,_,h⟩|⟨_,_,_,h⟩|⟨_,_,_,_,h⟩|⟨_,_,_,_,_,h⟩|⟨_,_,_,_,_,_,h⟩|⟨b1,b2,b3,b4,b5,b6,h⟩
  ·cases h
  ·cases h
  ·cases h
  ·cases h
  ·cases h
  ·cases h
  ·exact⟨b1,b2,b3,b4,b5,b6⟩
 obtain⟨ad,hA,_⟩:=hr.2 (by omega)
 subst hA
 have HV:=jH (aI hv hvals)
 have C1:=jH (fun w' (hb:Below w.heap.size w w')=>rf (some ad) n c w'.heap.size l w' ((hr.below (hb.mono hB)).more (nT hB hb.size)) (nR _) hn h20 ha)
 have CN:=jH (fun w' (hb:Below w.heap.size w w')=>net_any w' w'.heap.size (some ad) (4 * s) c (l.take (4 * s)) (((hr.below (hb.mono hB)).more (nT hB hb.size)).takeb a3) (by omega) (ha.take _))
 rw[hz] at CN
 have hbody:bO l=(l.take L).drop (4 * s):=by unfold bO;rw[hL,hs]
 have CC:=jH (fun w' (hb:Below w.heap.size w w')=>jO (if c=4 * s then some ad else some (ad.add (4 * s))) (L - 4 * s) (c - 4 * s) w'.heap.size (bO l) w' (by
  have h1:=(((hr.below (hb.mono hB)).more (nT hB hb.size)).takeb a6).cut (k:=4 * s) (cap:=c) a5 (by omega)
  rw[Nat.mul_one] at h1
  rw[hbody,show bv ((l.take L).drop (4 * s))=(bv (l.take L)).drop (4 * s) from by simp[bv]]
  by_cases hc:c=4 * s
  ·rw[if_pos hc] at h1⊢;exact h1
  ·rw[if_neg hc] at h1⊢;exact h1) (nR _) (by omega) (fun e=>by split at e<;>cases e))
 have HR:Hid (∀A' c' w',w'.ownsRow w.heap.size 5 1 (G A' (L - 4 * s) c') (L - 4 * s) (bv (bO l))→gm l w (rT (tU #[aG #[X Y s,X Y x1,X Y L,X Y x4,X Y x6,X Y x7,X Y x8,X Y x9,X Y x10,X Z x12,X Z x16],G A' (L - 4 * s) c',X Y 0])) w'):=by
  intro A' c' w' ho
  refine .inl ⟨hyes,A',c',?_,?_⟩
  ·rw[hvals,hL,hs]
  ·rw[hL,hs];exact ho
 subst a4
 subst a1
 have a7:L≤c:=by omega
 have a8:4 * s≤c:=by omega
 clear hr ax hv hs hL hvals hz hcases hyes ha hbody
 have both:∀(A2:Option Addr),(if c=4 * s then some ad else some (ad.add (4 * s)))=A2→Calls Pg 206 #[G (some ad) n c] w fun e w'=>gm l w e w'∧Below w.heap.size w w':=by
  intro A2 hA2
  rw[hA2] at CC
  have HC:=jH (fun h:c=4 * s=>by rw[if_pos h] at hA2;exact hA2)
  have HC2:=jH (fun h:¬c=4 * s=>by rw[if_neg h] at hA2;exact hA2)
  clear hA2
  by_cases hcs:c=4 * s
  ·have e2:=HC.out hcs
   subst e2
   clear HC HC2
   subst hcs
   have hL4:L - 4 * s=0:=by omega
   rw[hL4] at CC HR
   rw[Nat.sub_self] at CC
   clear hL4
   go_enter func206,ntmps206
   go_wp2_with fail
   refine(C1.out _ ((bR _ _).alloc (nR _) _)).mono ?_
   rintro e w1 ⟨he,ae⟩
   rw[HV.out.1,HV.out.2] at he
   subst he
   have hB1:Below w.heap.size w w1:=((bR _ _).alloc (nR _) _).trans (ae.mono (by simp))
   have cz:=(ab.new w 132 #[X Y 0,X Y 0,X Y 0,X Y 0,X Y 0,X Y 0,X Y 0,X Y 0,X Y 0,X Z 0,X Z 0]).below ae (by simp)
   clear ae C1
   obtain⟨q,hq⟩:∃q,q=w.heap.size:=⟨_,rfl⟩
   rw[←hq] at cz⊢
   have HQ:=jH hq
   clear hq
   go_wp2_with fail
   refine(CN.out _ (hB1.alloc hB1.size _)).mono ?_
   rintro e w' ⟨rfl,rfl⟩
   go_wp2_with fail
   have hres2:=cz.alloc (cL #[X Y s,X Y x1,X Y L,X Y x4,X Y x6,X Y x7,X Y x8,X Y x9,X Y x10,X Z x12,X Z x16] 132)
   have hbh2:=ab.new w1 132 #[X Y s,X Y x1,X Y L,X Y x4,X Y x6,X Y x7,X Y x8,X Y x9,X Y x10,X Z x12,X Z x16]
   have hB2:Below w.heap.size w (w1.alloc (cL #[X Y s,X Y x1,X Y L,X Y x4,X Y x6,X Y x7,X Y x8,X Y x9,X Y x10,X Z x12,X Z x16] 132)):=hB1.alloc hB1.size _
   have hqp0:¬q=w1.heap.size:=by have:=cz.lt;omega
   generalize w1.alloc (cL #[X Y s,X Y x1,X Y L,X Y x4,X Y x6,X Y x7,X Y x8,X Y x9,X Y x10,X Z x12,X Z x16] 132)=w2 at *
   generalize w1.heap.size=ph at *
   clear cz CN hB1
   obtain⟨hc0,hc1,hc2,hc3,hc4,hc5,hc6,hc7,hc8,hc9,hc10⟩:=hbh2.c11
   have hlt2:=hbh2.lt
   have hqlt:q < w2.heap.size:=hres2.lt
   have hqp:¬q=ph:=hqp0
   have hqp':¬ph=q:=fun e=>hqp e.symm
   obtain⟨dc,hd1,hd2,hd3,hd4,hd5,hd6,hd7,hd8,hd9,hd10⟩:=hbh2.drew.c11
   have i1:(0:Int)≤4 * (s:Int):=by omega
   have i2:4 * (s:Int)≤(L:Int):=by omega
   have i3:(L:Int)≤((4 * s:Nat):Int):=by omega
   have i4:(4 * (s:Int)).toNat=4 * s:=by omega
   have i5:¬(4 * (s:Int) < 0):=by omega
   have i6:¬((L:Int) < 4 * (s:Int)):=by omega
   have i7:(L:Int)≤4 * (s:Int):=by omega
   have i8:L≤4 * s:=by omega
   have i9:L - 4 * s=0:=by omega
   have i10:¬(4 * (s:Int) < (L:Int)):=by omega
   clear HV
   go_region_held3 (fun wS=>wS.cell? ⟨ph,0,none⟩=some (X Y s)∧wS.cell? ⟨ph,1,none⟩=some (X Y x1)∧wS.cell? ⟨ph,2,none⟩=some (X Y L)∧wS.cell? ⟨ph,3,none⟩=some (X Y x4)∧wS.cell? ⟨ph,4,none⟩=some (X Y x6)∧wS.cell? ⟨ph,5,none⟩=some (X Y x7)∧wS.cell? ⟨ph,6,none⟩=some (X Y x8)∧wS.cell? ⟨ph,7,none⟩=some (X Y x9)∧wS.cell? ⟨ph,8,none⟩=some (X Y x10)∧wS.cell? ⟨ph,9,none⟩=some (X Z x12)∧wS.cell? ⟨ph,10,none⟩=some (X Z x16)) (first|with_reducible exact⟨hc0,hc1,hc2,hc3,hc4,hc5,hc6,hc7,hc8,hc9,hc10⟩|with_reducible exact⟨dc,hd1,hd2,hd3,hd4,hd5,hd6,hd7,hd8,hd9,hd10⟩|with_reducible exact⟨hk0,hk1,hk2,hk3,hk4,hk5,hk6,hk7,hk8,hk9,hk10⟩|(simp only[cell_far hqp',hk0,hk1,hk2,hk3,hk4,hk5,hk6,hk7,hk8,hk9,hk10,and_self]))
    (first|(go_at_call 266;refine(CC.out _ (hB2.drew)).mono ?_;rintro e w4 ⟨A',c',rfl,hown,aq⟩;have hbh4:=hbh2.drew.below aq hlt2;have bN:=hres2.drew.below aq hqlt;have hk0:=hbh4.cell 0;have hk1:=hbh4.cell 1;have hk2:=hbh4.cell 2;have hk3:=hbh4.cell 3;have hk4:=hbh4.cell 4;have hk5:=hbh4.cell 5;have hk6:=hbh4.cell 6;have hk7:=hbh4.cell 7;have hk8:=hbh4.cell 8;have hk9:=hbh4.cell 9;have hk10:=hbh4.cell 10;simp only[ga,gz,gN] at hk0 hk1 hk2 hk3 hk4 hk5 hk6 hk7 hk8 hk9 hk10;have he0:=bN.cell 0;have he1:=bN.cell 1;have he2:=bN.cell 2;have he3:=bN.cell 3;have he4:=bN.cell 4;have he5:=bN.cell 5;have he6:=bN.cell 6;have he7:=bN.cell 7;have he8:=bN.cell 8;have he9:=bN.cell 9;have he10:=bN.cell 10;simp only[ga,gz,gN] at he0 he1 he2 he3 he4 he5 he6 he7 he8 he9 he10;have hf0:=bN.frozen 0;have hf1:=bN.frozen 1;have hf2:=bN.frozen 2;have hf3:=bN.frozen 3;have hf4:=bN.frozen 4;have hf5:=bN.frozen 5;have hf6:=bN.frozen 6;have hf7:=bN.frozen 7;have hf8:=bN.frozen 8;have hf9:=bN.frozen 9;have hf10:=bN.frozen 10))
   go_wp2_with fail
   obtain⟨w5,hw5⟩:∃w5,w5=(((((((((((w4).setCell ⟨q,0,none⟩ (X Y s)).setCell ⟨q,1,none⟩ (X Y x1)).setCell ⟨q,2,none⟩ (X Y L)).setCell ⟨q,3,none⟩ (X Y x4)).setCell ⟨q,4,none⟩ (X Y x6)).setCell ⟨q,5,none⟩ (X Y x7)).setCell ⟨q,6,none⟩ (X Y x8)).setCell ⟨q,7,none⟩ (X Y x9)).setCell ⟨q,8,none⟩ (X Y x10)).setCell ⟨q,9,none⟩ (X Z x12)).setCell ⟨q,10,none⟩ (X Z x16):=⟨_,rfl⟩
   have K0:=bN
   have O0:=hown
   have O1:=aB O0 K0 (by decide) 0 (X Y s)
   have K1:=K0.set_ 0 (X Y s)
   clear O0
   have O2:=aB O1 K1 (by decide) 1 (X Y x1)
   have K2:=K1.set_ 1 (X Y x1)
   clear O1
   have O3:=aB O2 K2 (by decide) 2 (X Y L)
   have K3:=K2.set_ 2 (X Y L)
   clear O2
   have O4:=aB O3 K3 (by decide) 3 (X Y x4)
   have K4:=K3.set_ 3 (X Y x4)
   clear O3
   have O5:=aB O4 K4 (by decide) 4 (X Y x6)
   have K5:=K4.set_ 4 (X Y x6)
   clear O4
   have O6:=aB O5 K5 (by decide) 5 (X Y x7)
   have K6:=K5.set_ 5 (X Y x7)
   clear O5
   have O7:=aB O6 K6 (by decide) 6 (X Y x8)
   have K7:=K6.set_ 6 (X Y x8)
   clear O6
   have O8:=aB O7 K7 (by decide) 7 (X Y x9)
   have K8:=K7.set_ 7 (X Y x9)
   clear O7
   have O9:=aB O8 K8 (by decide) 8 (X Y x10)
   have K9:=K8.set_ 8 (X Y x10)
   clear O8
   have O10:=aB O9 K9 (by decide) 9 (X Z x12)
   have K10:=K9.set_ 9 (X Z x12)
   clear O9
   have O11:=aB O10 K10 (by decide) 10 (X Z x16)
   have K11:=K10.set_ 10 (X Z x16)
   clear O10
   have hres5:ab w5 q 132 #[X Y s,X Y x1,X Y L,X Y x4,X Y x6,X Y x7,X Y x8,X Y x9,X Y x10,X Z x12,X Z x16]:=by
    rw[hw5]
    simp only[List.setIfInBounds_toArray,List.set_cons_zero,List.set_cons_succ] at K11
    exact K11
   have cC:w5.ownsRow w.heap.size 5 1 (G A' 0 c') 0 (bv (bO l)):=by
    rw[hw5]
    exact gB O11 (by have:=hB2.drew.size;exact this)
   have hB5:Below w.heap.size w w5:=by
    rw[hw5]
    exact(hB2.drew.trans (aq.mono hB2.drew.size)).trans (((((((((((((bR q w4).setCell (p:=⟨q,0,none⟩) (nR _) _).setCell (p:=⟨q,1,none⟩) (nR _) _).setCell (p:=⟨q,2,none⟩) (nR _) _).setCell (p:=⟨q,3,none⟩) (nR _) _).setCell (p:=⟨q,4,none⟩) (nR _) _).setCell (p:=⟨q,5,none⟩) (nR _) _).setCell (p:=⟨q,6,none⟩) (nR _) _).setCell (p:=⟨q,7,none⟩) (nR _) _).setCell (p:=⟨q,8,none⟩) (nR _) _).setCell (p:=⟨q,9,none⟩) (nR _) _).setCell (p:=⟨q,10,none⟩) (nR _) _:Below q w4 _).mono (by rw[HQ.out];exact nR _))
   rw[←hw5]
   clear hw5 K11 O11
   obtain⟨hr0,hr1,hr2,hr3,hr4,hr5,hr6,hr7,hr8,hr9,hr10⟩:=hres5.c11
   exact bodyPost_ret (v:=tU #[aG #[X Y s,X Y x1,X Y L,X Y x4,X Y x6,X Y x7,X Y x8,X Y x9,X Y x10,X Z x12,X Z x16],G A' 0 c',X Y 0]) (by simp[results,results206,go_sem,hr0,hr1,hr2,hr3,hr4,hr5,hr6,hr7,hr8,hr9,hr10]) rfl ⟨HR.out _ _ _ cC,hB5⟩
  ·have e2:=HC2.out hcs
   subst e2
   clear HC HC2
   go_enter func206,ntmps206
   go_wp2_with fail
   refine(C1.out _ ((bR _ _).alloc (nR _) _)).mono ?_
   rintro e w1 ⟨he,ae⟩
   rw[HV.out.1,HV.out.2] at he
   subst he
   have hB1:Below w.heap.size w w1:=((bR _ _).alloc (nR _) _).trans (ae.mono (by simp))
   have cz:=(ab.new w 132 #[X Y 0,X Y 0,X Y 0,X Y 0,X Y 0,X Y 0,X Y 0,X Y 0,X Y 0,X Z 0,X Z 0]).below ae (by simp)
   clear ae C1
   obtain⟨q,hq⟩:∃q,q=w.heap.size:=⟨_,rfl⟩
   rw[←hq] at cz⊢
   have HQ:=jH hq
   clear hq
   go_wp2_with fail
   refine(CN.out _ (hB1.alloc hB1.size _)).mono ?_
   rintro e w' ⟨rfl,rfl⟩
   go_wp2_with fail
   have hres2:=cz.alloc (cL #[X Y s,X Y x1,X Y L,X Y x4,X Y x6,X Y x7,X Y x8,X Y x9,X Y x10,X Z x12,X Z x16] 132)
   have hbh2:=ab.new w1 132 #[X Y s,X Y x1,X Y L,X Y x4,X Y x6,X Y x7,X Y x8,X Y x9,X Y x10,X Z x12,X Z x16]
   have hB2:Below w.heap.size w (w1.alloc (cL #[X Y s,X Y x1,X Y L,X Y x4,X Y x6,X Y x7,X Y x8,X Y x9,X Y x10,X Z x12,X Z x16] 132)):=hB1.alloc hB1.size _
   have hqp0:¬q=w1.heap.size:=by have:=cz.lt;omega
   generalize w1.alloc (cL #[X Y s,X Y x1,X Y L,X Y x4,X Y x6,X Y x7,X Y x8,X Y x9,X Y x10,X Z x12,X Z x16] 132)=w2 at *
   generalize w1.heap.size=ph at *
   clear cz CN hB1
   obtain⟨hc0,hc1,hc2,hc3,hc4,hc5,hc6,hc7,hc8,hc9,hc10⟩:=hbh2.c11
   have hlt2:=hbh2.lt
   have hqlt:q < w2.heap.size:=hres2.lt
   have hqp:¬q=ph:=hqp0
   have hqp':¬ph=q:=fun e=>hqp e.symm
   obtain⟨dc,hd1,hd2,hd3,hd4,hd5,hd6,hd7,hd8,hd9,hd10⟩:=hbh2.drew.c11
   have i1:(0:Int)≤4 * (s:Int):=by omega
   have i2:4 * (s:Int)≤(L:Int):=by omega
   have i3:(L:Int)≤((c:Nat):Int):=by omega
   have i4:(4 * (s:Int)).toNat=4 * s:=by omega
   have i5:¬(4 * (s:Int) < 0):=by omega
   have i6:¬((L:Int) < 4 * (s:Int)):=by omega
   clear HV
   go_region_held3 (fun wS=>wS.cell? ⟨ph,0,none⟩=some (X Y s)∧wS.cell? ⟨ph,1,none⟩=some (X Y x1)∧wS.cell? ⟨ph,2,none⟩=some (X Y L)∧wS.cell? ⟨ph,3,none⟩=some (X Y x4)∧wS.cell? ⟨ph,4,none⟩=some (X Y x6)∧wS.cell? ⟨ph,5,none⟩=some (X Y x7)∧wS.cell? ⟨ph,6,none⟩=some (X Y x8)∧wS.cell? ⟨ph,7,none⟩=some (X Y x9)∧wS.cell? ⟨ph,8,none⟩=some (X Y x10)∧wS.cell? ⟨ph,9,none⟩=some (X Z x12)∧wS.cell? ⟨ph,10,none⟩=some (X Z x16)) (first|with_reducible exact⟨hc0,hc1,hc2,hc3,hc4,hc5,hc6,hc7,hc8,hc9,hc10⟩|with_reducible exact⟨dc,hd1,hd2,hd3,hd4,hd5,hd6,hd7,hd8,hd9,hd10⟩|with_reducible exact⟨hk0,hk1,hk2,hk3,hk4,hk5,hk6,hk7,hk8,hk9,hk10⟩|(simp only[cell_far hqp',hk0,hk1,hk2,hk3,hk4,hk5,hk6,hk7,hk8,hk9,hk10,and_self]))
    (first|(go_at_call 266;refine(CC.out _ (hB2.drew)).mono ?_;rintro e w4 ⟨A',c',rfl,hown,aq⟩;have hbh4:=hbh2.drew.below aq hlt2;have bN:=hres2.drew.below aq hqlt;have hk0:=hbh4.cell 0;have hk1:=hbh4.cell 1;have hk2:=hbh4.cell 2;have hk3:=hbh4.cell 3;have hk4:=hbh4.cell 4;have hk5:=hbh4.cell 5;have hk6:=hbh4.cell 6;have hk7:=hbh4.cell 7;have hk8:=hbh4.cell 8;have hk9:=hbh4.cell 9;have hk10:=hbh4.cell 10;simp only[ga,gz,gN] at hk0 hk1 hk2 hk3 hk4 hk5 hk6 hk7 hk8 hk9 hk10;have he0:=bN.cell 0;have he1:=bN.cell 1;have he2:=bN.cell 2;have he3:=bN.cell 3;have he4:=bN.cell 4;have he5:=bN.cell 5;have he6:=bN.cell 6;have he7:=bN.cell 7;have he8:=bN.cell 8;have he9:=bN.cell 9;have he10:=bN.cell 10;simp only[ga,gz,gN] at he0 he1 he2 he3 he4 he5 he6 he7 he8 he9 he10;have hf0:=bN.frozen 0;have hf1:=bN.frozen 1;have hf2:=bN.frozen 2;have hf3:=bN.frozen 3;have hf4:=bN.frozen 4;have hf5:=bN.frozen 5;have hf6:=bN.frozen 6;have hf7:=bN.frozen 7;have hf8:=bN.frozen 8;have hf9:=bN.frozen 9;have hf10:=bN.frozen 10))
   go_wp2_with fail
   obtain⟨w5,hw5⟩:∃w5,w5=(((((((((((w4).setCell ⟨q,0,none⟩ (X Y s)).setCell ⟨q,1,none⟩ (X Y x1)).setCell ⟨q,2,none⟩ (X Y L)).setCell ⟨q,3,none⟩ (X Y x4)).setCell ⟨q,4,none⟩ (X Y x6)).setCell ⟨q,5,none⟩ (X Y x7)).setCell ⟨q,6,none⟩ (X Y x8)).setCell ⟨q,7,none⟩ (X Y x9)).setCell ⟨q,8,none⟩ (X Y x10)).setCell ⟨q,9,none⟩ (X Z x12)).setCell ⟨q,10,none⟩ (X Z x16):=⟨_,rfl⟩
   have K0:=bN
   have O0:=hown
   have O1:=aB O0 K0 (by decide) 0 (X Y s)
   have K1:=K0.set_ 0 (X Y s)
   clear O0
   have O2:=aB O1 K1 (by decide) 1 (X Y x1)
   have K2:=K1.set_ 1 (X Y x1)
   clear O1
   have O3:=aB O2 K2 (by decide) 2 (X Y L)
   have K3:=K2.set_ 2 (X Y L)
   clear O2
   have O4:=aB O3 K3 (by decide) 3 (X Y x4)
   have K4:=K3.set_ 3 (X Y x4)
   clear O3
   have O5:=aB O4 K4 (by decide) 4 (X Y x6)
   have K5:=K4.set_ 4 (X Y x6)
   clear O4
   have O6:=aB O5 K5 (by decide) 5 (X Y x7)
   have K6:=K5.set_ 5 (X Y x7)
   clear O5
   have O7:=aB O6 K6 (by decide) 6 (X Y x8)
   have K7:=K6.set_ 6 (X Y x8)
   clear O6
   have O8:=aB O7 K7 (by decide) 7 (X Y x9)
   have K8:=K7.set_ 7 (X Y x9)
   clear O7
   have O9:=aB O8 K8 (by decide) 8 (X Y x10)
   have K9:=K8.set_ 8 (X Y x10)
   clear O8
   have O10:=aB O9 K9 (by decide) 9 (X Z x12)
   have K10:=K9.set_ 9 (X Z x12)
   clear O9
   have O11:=aB O10 K10 (by decide) 10 (X Z x16)
   have K11:=K10.set_ 10 (X Z x16)
   clear O10
   have hres5:ab w5 q 132 #[X Y s,X Y x1,X Y L,X Y x4,X Y x6,X Y x7,X Y x8,X Y x9,X Y x10,X Z x12,X Z x16]:=by
    rw[hw5]
    simp only[List.setIfInBounds_toArray,List.set_cons_zero,List.set_cons_succ] at K11
    exact K11
   have cC:w5.ownsRow w.heap.size 5 1 (G A' (L - 4 * s) c') (L - 4 * s) (bv (bO l)):=by
    rw[hw5]
    exact gB O11 (by have:=hB2.drew.size;exact this)
   have hB5:Below w.heap.size w w5:=by
    rw[hw5]
    exact(hB2.drew.trans (aq.mono hB2.drew.size)).trans (((((((((((((bR q w4).setCell (p:=⟨q,0,none⟩) (nR _) _).setCell (p:=⟨q,1,none⟩) (nR _) _).setCell (p:=⟨q,2,none⟩) (nR _) _).setCell (p:=⟨q,3,none⟩) (nR _) _).setCell (p:=⟨q,4,none⟩) (nR _) _).setCell (p:=⟨q,5,none⟩) (nR _) _).setCell (p:=⟨q,6,none⟩) (nR _) _).setCell (p:=⟨q,7,none⟩) (nR _) _).setCell (p:=⟨q,8,none⟩) (nR _) _).setCell (p:=⟨q,9,none⟩) (nR _) _).setCell (p:=⟨q,10,none⟩) (nR _) _:Below q w4 _).mono (by rw[HQ.out];exact nR _))
   rw[←hw5]
   clear hw5 K11 O11
   obtain⟨hr0,hr1,hr2,hr3,hr4,hr5,hr6,hr7,hr8,hr9,hr10⟩:=hres5.c11
   exact bodyPost_ret (v:=tU #[aG #[X Y s,X Y x1,X Y L,X Y x4,X Y x6,X Y x7,X Y x8,X Y x9,X Y x10,X Z x12,X Z x16],G A' (L - 4 * s) c',X Y 0]) (by simp[results,results206,go_sem,hr0,hr1,hr2,hr3,hr4,hr5,hr6,hr7,hr8,hr9,hr10]) rfl ⟨HR.out _ _ _ cC,hB5⟩
 exact both _ rfl
theorem lD (A:Option Addr)(n c B:Nat)(l:List Nat)(w:World)(hr:Reads w B 1 A n (bv l))(hB:B≤w.heap.size)(hn:n≤140737488355328)(hnc:n≤c)(ha:ay l):
  Calls Pg 206 #[G A n c] w fun e w'=>gm l w e w'∧Below w.heap.size w w':=by
 by_cases h20:n < 20
 ·exact yr A n c B l w hr h20
 ·by_cases h:cD l=0
  ·exact yt A n c B l w hr hB hn hnc (by omega) ha h
  ·exact yu A n c B l w hr hB hn hnc (by omega) ha h
theorem tM (b:Nat)(h:Hd)(c:Nat)(w:World)(hc:c < 65536)(hok:mx h)(hbk:ab w b 132 h.vals):
  Calls Pg 262 #[X .u16 c,PT (some ⟨b,0,none⟩)] w fun e w'=>∃A c',e=rT (G A 20 c')∧w'.ownsRow w.heap.size 5 1 (G A 20 c') 20 (bv (dB h c))∧Below w.heap.size w w':=by
 have HB:=jH (fun w' (hb:Below w.heap.size w w')=>hbk.below hb hbk.lt)
 have HH:Hid (dB h c=be (ai 69) 1++be (ai h.tos) 1++be (ai h.len) 2++be (ai h.id) 2++be (ai (bits .or .i64 (IntKind.i64.wrap (h.flags * 8192)) ((h.off % 8192).toNat:Int))) 2++be (ai h.ttl) 1++be (ai h.proto) 1++be (ai (c:Int)) 2++be h.src 4++be h.dst 4):=by
  show _=_
  rw[B3,fF c (by omega)]
  rfl
 have U8:=jH (fun p z l w'=>mE p w.heap.size z l w')
 have U16:=jH (fun p z l w'=>iW p w.heap.size z l w')
 have U32:=jH (fun p n l w'=>jm p w.heap.size n l w')
 obtain⟨ihl,tos,len,id,flags,off,ttl,proto,sum,src,dst⟩:=h
 obtain⟨k0,k1,k2,k3,k4,k5,k6,k7,k8,k9,k10⟩:=hok
 have hand:bits BinOp.and IntKind.i64 off 8191=((off % 8192).toNat:Int):=oC 13 (by omega) off
 have hol:(off % 8192).toNat < 8192:=by omega
 dsimp only at HH k9 k10
 generalize (off % 8192).toNat=o at *
 obtain⟨zf,hzf⟩:∃zf,zf=bits BinOp.or .i64 (IntKind.i64.wrap (flags * 8192)) (o:Int):=⟨_,rfl⟩
 rw[←hzf] at HH
 have HL:=jH hzf
 clear hzf hbk k0 k1 k2 k3 k6 k7 k8
 go_enter func262,ntmps262
 go_wp2_with fail
 have hw0:bh (w.alloc (cL #[G none 0 0] 251)) w.heap.size w.heap.size []:=⟨nR _,none,0,ab.new_ rfl,World.ownsRow_nil _ _ _ _⟩
 have hB0:Below w.heap.size w (w.alloc (cL #[G none 0 0] 251)):=(bR _ _).alloc (nR _) _
 generalize w.alloc (cL #[G none 0 0] 251)=v0 at *
 refine(U8.out w.heap.size 69 [] v0 (by simp) hw0 hB0.size).mono ?_
 rintro e v1 ⟨rfl,hw1,ae⟩
 have hB1:=hB0.trans ae
 rw[List.nil_append] at hw1
 clear hw0 hB0 ae
 have hk1:=(HB.out v1 hB1).cell 1
 simp only[Hd.vals,ga,gz,gN] at hk1
 go_wp2_with fail
 refine(U8.out w.heap.size tos _ v1 (by simp[be_length]) hw1 hB1.size).mono ?_
 rintro e v2 ⟨rfl,hw2,af⟩
 have hB2:=hB1.trans af
 clear hw1 hB1 af hk1
 have hk2:=(HB.out v2 hB2).cell 2
 simp only[Hd.vals,ga,gz,gN] at hk2
 go_wp2_with fail
 refine(U16.out w.heap.size len _ v2 (by simp[be_length]) hw2 hB2.size).mono ?_
 rintro e v3 ⟨rfl,hw3,al⟩
 have hB3:=hB2.trans al
 clear hw2 hB2 al hk2
 have hk3:=(HB.out v3 hB3).cell 3
 simp only[Hd.vals,ga,gz,gN] at hk3
 go_wp2_with fail
 refine(U16.out w.heap.size id _ v3 (by simp[be_length]) hw3 hB3.size).mono ?_
 rintro e v4 ⟨rfl,hw4,aq⟩
 have hB4:=hB3.trans aq
 clear hw3 hB3 aq hk3
 have hk4:=(HB.out v4 hB4).cell 4
 have hk5:=(HB.out v4 hB4).cell 5
 simp only[Hd.vals,ga,gz,gN] at hk4 hk5
 go_wp2_with fail
 have hor:bits BinOp.or IntKind.i64 (wrap64 (flags * 8192)) (o:Int)=zf:=by
  rw[HL.out,IntKind.wrap_i64,wrap64]
 rw[hor]
 clear hor
 refine(U16.out w.heap.size zf _ v4 (by simp[be_length]) hw4 hB4.size).mono ?_
 rintro e v5 ⟨rfl,hw5,aK⟩
 have hB5:=hB4.trans aK
 clear hw4 hB4 aK hk4 hk5
 have hk6:=(HB.out v5 hB5).cell 6
 simp only[Hd.vals,ga,gz,gN] at hk6
 go_wp2_with fail
 refine(U8.out w.heap.size ttl _ v5 (by simp[be_length]) hw5 hB5.size).mono ?_
 rintro e v6 ⟨rfl,hw6,hb6⟩
 have hB6:=hB5.trans hb6
 clear hw5 hB5 hb6 hk6
 have hk7:=(HB.out v6 hB6).cell 7
 simp only[Hd.vals,ga,gz,gN] at hk7
 go_wp2_with fail
 refine(U8.out w.heap.size proto _ v6 (by simp[be_length]) hw6 hB6.size).mono ?_
 rintro e v7 ⟨rfl,hw7,hb7⟩
 have hB7:=hB6.trans hb7
 clear hw6 hB6 hb7 hk7
 go_wp2_with fail
 refine(U16.out w.heap.size (c:Int) _ v7 (by simp[be_length]) hw7 hB7.size).mono ?_
 rintro e v8 ⟨rfl,hw8,hb8⟩
 have hB8:=hB7.trans hb8
 clear hw7 hB7 hb8
 have hk9:=(HB.out v8 hB8).cell 9
 simp only[Hd.vals,ga,gz,gN] at hk9
 go_wp2_with fail
 refine(U32.out w.heap.size src _ v8 (by omega) (by simp[be_length]) hw8 hB8.size).mono ?_
 rintro e v9 ⟨rfl,hw9,hb9⟩
 have hB9:=hB8.trans hb9
 clear hw8 hB8 hb9 hk9
 have hk10:=(HB.out v9 hB9).cell 10
 simp only[Hd.vals,ga,gz,gN] at hk10
 go_wp2_with fail
 refine(U32.out w.heap.size dst _ v9 (by omega) (by simp[be_length]) hw9 hB9.size).mono ?_
 rintro e v10 ⟨rfl,hw10,hb10⟩
 have hB10:=hB9.trans hb10
 clear hw9 hB9 hb10 hk10
 go_wp2_with fail
 have ax:(be (ai 69) 1++be (ai tos) 1++be (ai len) 2++be (ai id) 2++be (ai zf) 2++be (ai ttl) 1++be (ai proto) 1++be (ai (c:Int)) 2++be src 4++be dst 4).length=20:=by simp[be_length]
 rw[←HH.out] at hw10 ax
 have CB:=jH (ia w.heap.size w.heap.size _ v10 hw10 (by rw[ax];omega))
 rw[ax] at CB
 clear hw10 ax
 refine CB.out.mono ?_
 rintro e w' ⟨A',c',rfl,hown,hb⟩
 have hsz:=hB10.size
 go_wp2_with fail
 go_ret
 exact⟨A',c',rfl,gB hown hsz,hB10.trans (hb.mono hsz)⟩
theorem tL (h:Hd)(w:World)(hok:mx h):
  Calls Pg 160 #[.agg h.vals] w fun e w'=>∃A c',e=rT (G A 20 c')∧w'.ownsRow w.heap.size 5 1 (G A 20 c') 20 (bv (bW h))∧Below w.heap.size w w':=by
 have hbk:ab (w.alloc (.cells h.vals 132)) w.heap.size 132 h.vals:=ab.new _ _ _
 have hB0:Below w.heap.size w (w.alloc (.cells h.vals 132)):=(bR _ _).alloc (nR _) _
 have C1:=jH (tM w.heap.size h 0 _ (by omega) hok hbk)
 have C2:=jH (fun c w' (hc:c < 65536) (hb:Below (w.alloc (.cells h.vals 132)).heap.size (w.alloc (.cells h.vals 132)) w')=>tM w.heap.size h c w' hc hok (hbk.below hb hbk.lt))
 have hall:=jH (oE h 0)
 have hnl:=nK (dB h 0)
 have HD:Hid (bW h=dB h (eh (dB h 0))):=rfl
 have hsz:w.heap.size≤(w.alloc (.cells h.vals 132)).heap.size:=by simp
 clear hbk hok
 unfold Hd.vals at *
 go_enter func160,ntmps160
 go_wp2_with fail
 refine C1.out.mono ?_
 rintro e w1 ⟨A1,c1,rfl,aQ,ae⟩
 have hr1:=Reads.of_own aQ
 clear aQ C1
 go_wp2_with fail
 refine(net_any w1 _ A1 20 c1 (dB h 0) hr1 (by omega) hall.out).mono ?_
 rintro e w' ⟨rfl,rfl⟩
 generalize eh (dB h 0)=z at *
 go_wp2_with fail
 refine(C2.out z w1 hnl ae).mono ?_
 rintro e w2 ⟨A2,c2,rfl,bH,af⟩
 have hs1:=ae.size
 have hB1:=hB0.trans (ae.mono hsz)
 have hB2:=hB1.trans (af.mono (nT hsz hs1))
 rw[←HD.out] at bH
 go_wp2_with fail
 go_ret
 exact⟨A2,c2,rfl,gB bH (nT hsz hs1),hB2⟩
namespace R1
theorem folded_any (s:Nat)(hs:s < 4294967296)(w:World):
  Calls Pg 356 #[X Z s] w fun e w'=>e=rT (X Z (fo s))∧w=w':=by
 go_enter func356,ntmps356
 go_wp2
 go_loop [0] (fun t=>∃k:Nat,k < 4294967296∧Hid (fo k=fo s)∧t=X Z k) (fun t=>(intOf t).toNat)
 case atStart=>exact⟨s,hs,rfl,rfl⟩
 case round=>
  obtain⟨k,hk,hf,rfl⟩:=hrel
  by_cases h:65535 < k
  ·have hb:bits BinOp.and IntKind.u32 (k:Int) 65535=((k % 65536:Nat):Int):=by
    have:=u32_and_nat k 65535 hk (by omega)
    rw[nat_mask16] at this
    exact this
   have hr:(((k:Int) / 65536 + ((k % 65536:Nat):Int)) % 4294967296)=((k / 65536 + k % 65536:Nat):Int):=by omega
   have HB:=jH hb
   have HR:=jH hr
   clear hb hr
   go_wp2
   go_round
   case rel=>exact⟨k / 65536 + k % 65536,by omega,by rw[←hf.out];exact sN h,by rw[HB.out,HR.out]⟩
   case measure=>rw[HB.out,HR.out];simp only[intOf];omega
  ·go_wp2
   go_ret
   exact⟨gU (by rw[←hf.out,sO (by omega)]),rfl⟩
theorem folded_at (z:Int)(h0:0≤z)(h1:z < 4294967296)(w:World):
  Calls Pg 356 #[X Z z] w fun e w'=>e=rT (X Z (fo z.toNat))∧w=w':=by
 obtain⟨n,rfl⟩:=Int.eq_ofNat_of_zero_le h0
 exact folded_any n (by omega) w
theorem fold_any (s:Nat)(hs:s < 4294967296)(w:World):
  Calls Pg 242 #[X Z s] w fun e w'=>e=rT (X .u16 (jI s))∧w=w':=by
 have hl:=kE s
 go_enter func242,ntmps242
 go_wp2_with (go_at_call 356;refine(folded_any s hs _).mono ?_;rintro e w' ⟨rfl,rfl⟩)
 go_ret
 exact⟨gU (lH _ hl),rfl⟩
theorem part_any (s:Nat)(hs:s < 4294967296)(w:World)(B:Nat)(A:Option Addr)(n c:Nat)(l:List Nat)(h:Reads w B 1 A n (bv l))(hn:n≤281474976710656)(hb:ay l):
  Calls Pg 243 #[X Z s,G A n c] w fun e w'=>e=rT (X Z (dE s l))∧w=w':=by
 have hln:l.length=n:=by have:=h.1;rw[el] at this;omega
 have hfs:=kE s
 go_enter func243,ntmps243
 go_wp2_with (go_at_call 356;refine(folded_any s hs _).mono ?_;rintro e w' ⟨rfl,rfl⟩)
 go_loop [0,5] (fun t i=>∃k:Nat,2 * k≤n + 1∧i=X Y (2 * (k:Int))∧t=X Z (dE s (l.take (2 * k)))) (fun _ i=>n + 1 - (intOf i).toNat)
 case atStart=>exact⟨0,by omega,rfl,by simp[dE,ed]⟩
 case round=>
  obtain⟨k,hk,rfl,rfl⟩:=hrel
  have hp:=lC s (l.take (2 * k))
  generalize hP:dE s (l.take (2 * k))=p at hp
  have HP:=jH hP
  clear hP
  by_cases au:2 * k < n
  ·obtain⟨ad,hl0,rfl,hc0⟩:=gJ h au
   have hx:=hb _ (List.getElem_mem hl0)
   generalize hX:l[2 * k]=x at hc0 hx
   have HX:=jH hX
   clear hX
   by_cases hlt1:2 * k + 1 < n
   ·obtain⟨_,hl1,e,hc1⟩:=gJ h hlt1
    cases e
    have hy:=hb _ (List.getElem_mem hl1)
    rw[add_succ] at hc1
    generalize hY:l[2 * k + 1]=y at hc1 hy
    have HY:=jH hY
    clear hY h
    have HF:Hid (fo (p + (x * 256 + y))=dE s (l.take (2 * (k + 1)))):=by
     show _=_
     rw[dE,pG l k (by omega),HX.out,HY.out,←HP.out,dE,kF,Nat.add_assoc]
    have hor:bits BinOp.or IntKind.u32 ((x:Int) * 256) (y:Int)=((x * 256 + y:Nat):Int):=by
     have:=u32_or_nat (x * 256) y (by omega) (by omega)
     rw[nat_join 8 (x * 256) y (by omega) (by omega)] at this
     exact this
    go_wp2_with (go_at_call 356;refine(folded_at _ (by omega) (by omega) _).mono ?_;rintro e w' ⟨rfl,rfl⟩)
    go_round
    case rel=>exact⟨k + 1,by omega,by go_num,by rw[←HF.out];congr 3⟩
    case measure=>simp[intOf];omega
   ·have HF:Hid (fo (p + x * 256)=dE s (l.take (2 * (k + 1)))):=by
     show _=_
     rw[dE,List.take_of_length_le (by omega),pH l k (by omega),HX.out,←HP.out,dE,kF,Nat.add_assoc]
    clear h
    go_wp2_with (go_at_call 356;refine(folded_at _ (by omega) (by omega) _).mono ?_;rintro e w' ⟨rfl,rfl⟩)
    go_round
    case rel=>exact⟨k + 1,by omega,by go_num,by rw[←HF.out];congr 3⟩
    case measure=>simp[intOf];omega
  ·have HF:Hid (p=dE s l):=by
    show _=_
    rw[←HP.out,List.take_of_length_le (by omega)]
   go_wp2
   go_ret
   exact⟨gU (by rw[HF.out]),rfl⟩
theorem net_any (w:World)(B:Nat)(A:Option Addr)(n c:Nat)(l:List Nat)(h:Reads w B 1 A n (bv l))(hn:n≤281474976710656)(hb:ay l):
  Calls Pg 132 #[G A n c] w fun e w'=>e=rT (X .u16 (eh l))∧w=w':=by
 have hp:=lC 0 l
 have HF:=jH (rK l)
 go_enter func132,ntmps132
 go_wp2_with (first|(go_at_call 243;refine(part_any 0 (by omega) _ B A n c l h hn hb).mono ?_;rintro e w' ⟨rfl,rfl⟩)|(go_at_call 242;refine(fold_any _ (by omega) _).mono ?_;rintro e w' ⟨rfl,rfl⟩))
 go_ret
 exact⟨gU (by rw[HF.out]),rfl⟩
end R1
theorem mK (z:Int)(w:World)(hz:-9223372036854775808≤z∧z≤9223372036854775807):
  Calls Pg 130 #[X Y z] w fun e w'=>e=rT (G (some ⟨w.heap.size,0,none⟩) 2 2)∧w.alloc (cL #[X .u8 ((ai z) / 256 % 256:Nat),X .u8 ((ai z) % 256:Nat)] 5)=w':=by
 have h1:Hid (z % 256=((ai z % 256:Nat):Int)):=by show _=_;unfold ai;omega
 have h2:Hid (z / 256 % 256=((ai z / 256 % 256:Nat):Int)):=by show _=_;unfold ai;omega
 go_enter func130,ntmps130
 go_wp2_with fail
 rw[h1.out,h2.out]
 go_ret
 exact⟨rfl,rfl⟩
theorem pY (z:Nat)(w:World)(hz:z < 4294967296):
  Calls Pg 131 #[X Z z] w fun e w'=>e=rT (G (some ⟨w.heap.size,0,none⟩) 4 4)∧w.alloc (cL #[X .u8 (z / 16777216 % 256:Nat),X .u8 (z / 65536 % 256:Nat),X .u8 (z / 256 % 256:Nat),X .u8 (z % 256:Nat)] 5)=w':=by
 have h1:Hid ((z:Int) / 16777216=((z / 16777216 % 256:Nat):Int)):=by show _=_;omega
 have h2:Hid ((z:Int) / 65536 % 256=((z / 65536 % 256:Nat):Int)):=by show _=_;omega
 have h3:Hid ((z:Int) / 256 % 256=((z / 256 % 256:Nat):Int)):=by show _=_;omega
 have h4:Hid ((z:Int) % 256=((z % 256:Nat):Int)):=by show _=_;omega
 go_enter func131,ntmps131
 go_wp2_with fail
 rw[h1.out,h2.out,h3.out,h4.out]
 go_ret
 exact⟨rfl,rfl⟩
theorem gY (h:Hd)(c:Nat):dB h c=[69,ai h.tos % 256,ai h.len / 256 % 256,ai h.len % 256,ai h.id / 256 % 256,ai h.id % 256,eD h / 256 % 256,eD h % 256,ai h.ttl % 256,ai h.proto % 256,c / 256 % 256,c % 256,
  h.src / 16777216 % 256,h.src / 65536 % 256,h.src / 256 % 256,h.src % 256,h.dst / 16777216 % 256,h.dst / 65536 % 256,h.dst / 256 % 256,h.dst % 256]:=by
 simp[dB,Ey,ua,EC]
theorem uu (h:Hd)(c:Nat)(hc:c < 65536):ed (dB h c)=ed (dB h 0) + c:=by
 rw[gY,gY]
 simp only[ed]
 omega
theorem yZ (h:Hd):eh (bW h)=0:=by
 unfold bW
 have e:=uu h (eh (dB h 0)) (nK _)
 unfold eh at e⊢
 rw[e,BU]
theorem ic {a b:List Nat}{j:Nat}(h:j < a.length):at' (a++b) j=at' a j:=by
 unfold at'
 simp[List.getD_eq_getElem?_getD,List.getElem?_append_left h]
theorem iC {a b:List Nat}{j:Nat}(h:j + 1 < a.length):aR (a++b) j=aR a j:=by
 unfold aR
 rw[ic (by omega),ic h]
theorem lU {a b:List Nat}{j:Nat}(h:j + 3 < a.length):dG (a++b) j=dG a j:=by
 unfold dG
 rw[iC (by omega),iC (j:=j + 2) (by omega)]
theorem Fm {a:List Nat}(b:List Nat)(h:20≤a.length):fh (a++b)=fh a:=by
 unfold fh cE bX
 rw[ic (by omega),ic (by omega),iC (by omega),iC (by omega),iC (by omega),ic (by omega),ic (by omega),iC (by omega),lU (by omega),lU (by omega)]
theorem AU {a:List Nat}(b:List Nat)(h:20≤a.length):cE (a++b)=cE a:=by
 unfold cE;rw[ic (by omega)]
theorem oi {a:List Nat}(b:List Nat)(h:20≤a.length):bX (a++b)=bX a:=by
 unfold bX;rw[iC (by omega)]
theorem sy (h:Hd)(c:Nat):at' (dB h c) 0=69:=by rw[gY];rfl
theorem Bn (h:Hd)(c:Nat):cE (dB h c)=5:=by unfold cE;rw[sy]
theorem oD (h:Hd)(c:Nat):bX (dB h c)=ai h.len % 65536:=by
 unfold bX aR
 rw[gY]
 show ai h.len / 256 % 256 * 256 + ai h.len % 256=_
 omega
theorem pO (h:Hd)(r:List Nat)(ax:20≤ai h.len % 65536):cD (bW h++r)=if 20 + r.length < ai h.len % 65536 then 5 else 0:=by
 have hl:=gK h
 have h0:at' (bW h++r) 0=69:=by rw[ic (by omega)];exact sy _ _
 have hi:cE (bW h++r)=5:=by unfold cE;rw[h0]
 have hL:bX (bW h++r)=ai h.len % 65536:=by rw[oi r (by omega)];exact oD _ _
 have hn:eh ((bW h++r).take (4 * 5))=0:=by
  rw[show 4 * 5=(bW h).length from by rw[hl],List.take_left' rfl]
  exact yZ h
 unfold cD
 rw[hi,hL,h0,hn,List.length_append,hl,if_neg (by omega),if_neg (by omega),if_neg (by omega),if_neg (by omega),if_neg (by omega),if_neg (by omega)]
theorem pc (h:Hd)(r:List Nat)(L:Nat)(hL:ai h.len % 65536=20 + L):bO (bW h++r)=r.take L:=by
 have hl:=gK h
 unfold bO
 rw[oi r (by omega),AU r (by omega)]
 rw[show bX (bW h)=20 + L from (oD _ _).trans hL,show cE (bW h)=5 from Bn _ _]
 rw[List.take_append,hl,List.drop_append]
 simp[hl]
theorem Eb (h:Hd)(r:List Nat):bX (bW h++r)=ai h.len % 65536:=by
 have hl:=gK h
 rw[oi r (by omega)];exact oD _ _
theorem lv {w:World}{g n B:Nat}{e:TypeId}{C:Array Value}{xs:List Value}(h:ab w g e C)(hn:C.size=n)(hB:g < B)(hx:C.toList=xs):Reads w B 1 (some ⟨g,0,none⟩) n xs:=by
 subst hn hx
 refine⟨by simp,fun _=>⟨_,rfl,hB,fun j u hu=>?_⟩⟩
 have hj:(⟨g,0,none⟩:Addr).add j=⟨g,j,none⟩:=by unfold Addr.add;split<;>simp_all
 rw[hj,h.cell j]
 simpa using hu
theorem uS (z:Nat)(h:z < 65536):ai (z:Int)=z:=by unfold ai;omega
theorem iZ {w:World}{aa n size:Nat}{e:TypeId}{v:Value}{xs:List Value}(h:w.ownsRow aa e size v n xs):w.drew.ownsRow aa e size v n xs:=h
def Row (w wr:World)(B:Nat)(v:Value)(n:Nat)(l:List Nat):Prop:=
 ∃g c,v=G (some ⟨g,0,none⟩) n c∧wr.ownsRow B 5 1 (G (some ⟨g,0,none⟩) n c) n (bv l)∧Below B w wr
theorem xL (h:Hd)(w:World)(hok:mx h):
  Calls Pg 54 #[.agg h.vals] w fun e w'=>∃A c',e=rT (G A 20 c')∧w'.ownsRow w.heap.size 5 1 (G A 20 c') 20 (bv (bW h))∧Below w.heap.size w w':=by
 obtain⟨ihl,tos,len,id,flags,off,ttl,proto,sum,src,dst⟩:=h
 have klen:=hok.len
 have gE:=hok.id
 have ksrc:=hok.src
 have kdst:=hok.dst
 dsimp only at klen gE ksrc kdst
 have ht:Hid (tos % 256=((ai tos % 256:Nat):Int)):=by show _=_;unfold ai;omega
 have hHB:Hid (∀c,dB ⟨ihl,tos,len,id,flags,off,ttl,proto,sum,src,dst⟩ c=_):=fun c=>gY _ c
 have mF:bits BinOp.and IntKind.i64 flags 7=((flags % 8).toNat:Int):=oC 3 (by omega) flags
 have mO:bits BinOp.and IntKind.i64 off 8191=((off % 8192).toNat:Int):=oC 13 (by omega) off
 have hfl:eD ⟨ihl,tos,len,id,flags,off,ttl,proto,sum,src,dst⟩=(flags % 8).toNat * 8192 + (off % 8192).toNat:=rfl
 obtain⟨F,hF,hFl⟩:∃F,F=(flags % 8).toNat∧F < 8:=⟨_,rfl,by omega⟩
 obtain⟨O,hO,hOl⟩:∃O,O=(off % 8192).toNat∧O < 8192:=⟨_,rfl,by omega⟩
 rw[←hF] at mF hfl
 rw[←hO] at mO hfl
 have hor:bits BinOp.or IntKind.i64 ((F:Int) * 8192) (O:Int)=((F * 8192 + O:Nat):Int):=by
  have:=Bc (F * 8192) O (by omega) (by omega)
  rw[nat_join 13 (F * 8192) O (by omega) (by omega)] at this
  exact this
 obtain⟨zf,hzf⟩:∃zf,zf=F * 8192 + O:=⟨_,rfl⟩
 rw[←hzf] at hfl hor
 have hzl:zf < 65536:=by omega
 have HF:=jH hfl
 have htt:Hid (ttl % 256=((ai ttl % 256:Nat):Int)):=by show _=_;unfold ai;omega
 have hpr:Hid (proto % 256=((ai proto % 256:Nat):Int)):=by show _=_;unfold ai;omega
 clear hok hF hO hzf hfl
 unfold Hd.vals
 dsimp only
 go_enter func54,ntmps54
 go_wp2_with fail
 rw[ht.out]
 have hq:=(ab.new w 132 #[X Y ihl,X Y tos,X Y len,X Y id,X Y flags,X Y off,X Y ttl,X Y proto,X Y sum,X Z src,X Z dst]).alloc (cL #[X .u8 69,X .u8 (ai tos % 256:Nat)] 5)
 have hB0:Below w.heap.size w ((w.alloc (cL #[X Y ihl,X Y tos,X Y len,X Y id,X Y flags,X Y off,X Y ttl,X Y proto,X Y sum,X Z src,X Z dst] 132)).alloc (cL #[X .u8 69,X .u8 (ai tos % 256:Nat)] 5)):=((bR _ _).alloc (nR _) _).alloc (by simp) _
 have hown0:((w.alloc (cL #[X Y ihl,X Y tos,X Y len,X Y id,X Y flags,X Y off,X Y ttl,X Y proto,X Y sum,X Z src,X Z dst] 132)).alloc (cL #[X .u8 69,X .u8 (ai tos % 256:Nat)] 5)).ownsRow (w.heap.size + 1) 5 1 (G (some ⟨w.heap.size + 1,0,none⟩) 2 2) 2 (bv [69,ai tos % 256]):=
  kr (cs:=#[X .u8 69,X .u8 (ai tos % 256:Nat)]) (ab.new_ (by simp)) (nR _) (by decide) rfl rfl
 obtain⟨q,hqq⟩:∃q,q=w.heap.size:=⟨_,rfl⟩
 have hsz:((w.alloc (cL #[X Y ihl,X Y tos,X Y len,X Y id,X Y flags,X Y off,X Y ttl,X Y proto,X Y sum,X Z src,X Z dst] 132)).alloc (cL #[X .u8 69,X .u8 (ai tos % 256:Nat)] 5)).heap.size=q + 2:=by simp[hqq]
 rw[←hqq] at hq hown0⊢
 generalize (w.alloc (cL #[X Y ihl,X Y tos,X Y len,X Y id,X Y flags,X Y off,X Y ttl,X Y proto,X Y sum,X Z src,X Z dst] 132)).alloc (cL #[X .u8 69,X .u8 (ai tos % 256:Nat)] 5)=v0 at *
 have HQ:=jH hqq
 have HS:=jH hsz
 have hszl:q + 2≤v0.heap.size:=by omega
 clear hqq hsz
 obtain⟨-,-,hc2,hc3⟩:=hq.c4
 go_cut [3] (fun v wx=>Row v0 wx (q + 1) v 6 ([69,ai tos % 256]++[ai len / 256 % 256,ai len % 256]++[ai id / 256 % 256,ai id % 256]))
 case first=>
  have dc:v0.drew.ownsRow (q + 1) 5 1 (G (some ⟨q + 1,0,none⟩) 2 2) 2 (bv [69,ai tos % 256]):=hown0
  have hall2:∀o,(v0.alloc o).drew.cell? ⟨q,2,none⟩=some (X Y len):=fun o=>(hq.alloc o).drew.cell 2
  have hall3:∀o,(v0.alloc o).drew.cell? ⟨q,3,none⟩=some (X Y id):=fun o=>(hq.alloc o).drew.cell 3
  go_region_law (first
   |(go_simp;go_at_call 130;(with_reducible refine(mK len _ klen).mono ?_);rintro e w' ⟨rfl,rfl⟩;first|(have _t:=tok2;have tok21:True:=trivial;clear _t tok2)|(have tok1:True:=trivial))
   |(go_simp;go_at_call 130;(with_reducible refine(mK id _ gE).mono ?_);rintro e w' ⟨rfl,rfl⟩;first|(have _t:=tok1;have tok12:True:=trivial;clear _t tok1)|(have tok2:True:=trivial))
   |(have _t:=tok1;clear _t tok1;go_loud (refine eL rfl (.tmp 9) (.tmp 12) _ rfl 5 cJ underlying23 (q + 1) (G (some ⟨q + 1,0,none⟩) 2 2) 2 ([69,ai tos % 256]) (by simp[Act.eval,Act.put]) (iZ (hown0.alloc _)) _ (some ⟨v0.heap.size,0,none⟩) 2 2 ([ai len / 256 % 256,ai len % 256]) (by simp[Act.eval,Act.put]) ((dQ _ _ _ _ 2 _ _ (by rfl) (by rfl) (by simp) _ (by simp[bv])).drew) 4 rfl (by omega) (by simp;omega) ?_;intro A1 c1 w1 aQ ae hg1 hat1;have tokA:True:=trivial;have hBy:=(((bR (q + 1) v0).alloc (by omega) _).drew.trans ae);have hq1:=hq.below hBy (Nat.lt_succ_self q);have hk3:=hq1.cell 3;simp only[ga,gz,gN] at hk3))
   |(have _t:=tok12;clear _t tok12;refine eL rfl (.tmp 9) (.tmp 12) _ rfl 5 cJ underlying23 (q + 1) (G (some ⟨q + 1,0,none⟩) 2 2) 2 ([69,ai tos % 256]) (by simp[Act.eval,Act.put]) (iZ ((hown0.alloc _).alloc _)) _ (some ⟨v0.heap.size,0,none⟩) 2 2 ([ai len / 256 % 256,ai len % 256]) (by simp[Act.eval,Act.put]) (((dQ _ _ _ _ 2 _ _ (by rfl) (by rfl) (by simp) _ (by simp[bv])).alloc (by simp) _).drew) 4 rfl (by omega) (by simp;omega) ?_;intro A1 c1 w1 aQ ae hg1 hat1;have tokB:True:=trivial;have hBy:=((((bR (q + 1) v0).alloc (by omega) _).alloc (by simp;omega) _).drew.trans ae);have hbB:=(ab.drew (ab.new_ (w:=v0.alloc (cL #[X .u8 (ai len / 256 % 256:Nat),X .u8 (ai len % 256:Nat)] 5)) (g:=v0.heap.size + 1) (t:=5) (cs:=#[X .u8 (ai id / 256 % 256:Nat),X .u8 (ai id % 256:Nat)]) (by simp))).grown hg1 (by intro h;cases h;omega))
   |(have _t:=tok21;clear _t tok21;refine eL rfl (.tmp 9) (.tmp 12) _ rfl 5 cJ underlying23 (q + 1) (G (some ⟨q + 1,0,none⟩) 2 2) 2 ([69,ai tos % 256]) (by simp[Act.eval,Act.put]) (iZ ((hown0.alloc _).alloc _)) _ (some ⟨v0.heap.size + 1,0,none⟩) 2 2 ([ai len / 256 % 256,ai len % 256]) (by simp[Act.eval,Act.put]) ((dQ _ _ _ _ 2 _ _ (by rfl) (by rfl) (by simp) _ (by simp[bv])).drew) 4 rfl (by omega) (by simp;omega) ?_;intro A1 c1 w1 aQ ae hg1 hat1;have tokC:True:=trivial;have hBy:=((((bR (q + 1) v0).alloc (by omega) _).alloc (by simp;omega) _).drew.trans ae);have hbC:=(ab.drew (ab.alloc (ab.new_ (w:=v0) (g:=v0.heap.size) (t:=5) (cs:=#[X .u8 (ai id / 256 % 256:Nat),X .u8 (ai id % 256:Nat)]) rfl) _)).grown hg1 (by intro h;cases h;omega))
   |(have _t:=tokA;clear _t tokA;refine eL rfl (.tmp 13) (.tmp 16) _ rfl 5 cJ underlying23 (q + 1) (G A1 4 c1) 4 ([69,ai tos % 256]++[ai len / 256 % 256,ai len % 256]) (by simp[Act.eval,Act.put]) (aQ.alloc _) _ (some ⟨w1.heap.size,0,none⟩) 2 2 ([ai id / 256 % 256,ai id % 256]) (by simp[Act.eval,Act.put]) (dQ _ _ _ _ 2 _ _ (by rfl) (by rfl) (by simp) _ (by simp[bv])) 6 rfl (by omega) (by have:=hBy.size;simp;omega) ?_;intro A2 c2 w2 bH af hg2 hat2;have hBz:=(hBy.alloc (by have:=hBy.size;omega) _).trans af)
   |(have _t:=tokB;clear _t tokB;refine eL rfl (.tmp 13) (.tmp 16) _ rfl 5 cJ underlying23 (q + 1) (G A1 4 c1) 4 ([69,ai tos % 256]++[ai len / 256 % 256,ai len % 256]) (by simp[Act.eval,Act.put]) (aQ) _ (some ⟨v0.heap.size + 1,0,none⟩) 2 2 ([ai id / 256 % 256,ai id % 256]) (by simp[Act.eval,Act.put]) (lv hbB (by rfl) (Nat.lt_succ_self _) (by rfl)) 6 rfl (by omega) (by have:=hBy.size;omega) ?_;intro A2 c2 w2 bH af hg2 hat2;have hBz:=hBy.trans af)
   |(have _t:=tokC;clear _t tokC;refine eL rfl (.tmp 13) (.tmp 16) _ rfl 5 cJ underlying23 (q + 1) (G A1 4 c1) 4 ([69,ai tos % 256]++[ai len / 256 % 256,ai len % 256]) (by simp[Act.eval,Act.put]) (aQ) _ (some ⟨v0.heap.size,0,none⟩) 2 2 ([ai id / 256 % 256,ai id % 256]) (by simp[Act.eval,Act.put]) (lv hbC (by rfl) (Nat.lt_succ_self _) (by rfl)) 6 rfl (by omega) (by have:=hBy.size;omega) ?_;intro A2 c2 w2 bH af hg2 hat2;have hBz:=hBy.trans af))
  all_goals
   go_wp2_with fail
   go_meet
   obtain⟨g2,hA2,_,_⟩:=fy bH (by omega)
   subst hA2
   exact⟨g2,c2,rfl,bH,hBz⟩
 case rest=>
  obtain⟨g2,c2,rfl,bH,hB2⟩:=hcut
  have hq2:=hq.below hB2 (Nat.lt_succ_self q)
  have hs2:=hB2.size
  clear hc2 hc3 hown0 hq
  obtain⟨-,-,-,-,hc4,hc5⟩:=hq2.c6
  go_wp2_with fail
  refine(mK (zf:Int) wc (by omega)).mono ?_
  rintro e w3 ⟨rfl,hw3⟩
  rw[uS zf hzl] at hw3
  subst hw3
  go_wp2_with (at_builtin;refine cu ?_)
  refine cw ?_
  refine ee rfl (.tmp 18) (.tmp 27) _ rfl 5 cJ underlying23 (q + 1) (G (some ⟨g2,0,none⟩) 6 c2) 6 _ rfl (bH.alloc _) _ (some ⟨wc.heap.size,0,none⟩) 2 2 [zf / 256 % 256,zf % 256] rfl (dQ _ _ _ _ 2 _ _ (by rfl) (by rfl) (by rfl) _ (by rfl)) 8 rfl (by omega) (by simp;omega) ?_
  intro A3 c3 w3 bK al _ _
  have hB3:=(hB2.alloc (by omega) _).trans al
  have hq3:=hq2.below ((bR _ _).alloc (nR _) (cL #[X .u8 (zf / 256 % 256:Nat),X .u8 (zf % 256:Nat)] 5)) hq2.lt
  have hq3:=hq3.below al (Nat.lt_succ_self q)
  clear bH al hc4 hc5 hq2 mF mO hor
  have hs3:=hB3.size
  obtain⟨-,-,-,-,-,-,hc6,hc7⟩:=hq3.c8
  go_wp2_with (at_builtin;refine cu ?_)
  refine cw ?_
  rw[htt.out,hpr.out]
  refine ee rfl (.tmp 29) (.tmp 36) _ rfl 5 cJ underlying23 (q + 1) (G A3 8 c3) 8 _ rfl (bK.alloc _) _ (some ⟨w3.heap.size,0,none⟩) 4 4 [ai ttl % 256,ai proto % 256,0,0] rfl (dQ _ _ _ _ 4 _ _ (by rfl) (by rfl) (by rfl) _ (by rfl)) 12 rfl (by omega) (by simp;omega) ?_
  intro A4 c4 w4 bF aq _ _
  have hB4:=(hB3.alloc (by omega) _).trans aq
  have hq4:=hq3.below ((bR _ _).alloc (nR _) (cL #[X .u8 (ai ttl % 256:Nat),X .u8 (ai proto % 256:Nat),X .u8 0,X .u8 0] 5)) hq3.lt
  have hq4:=hq4.below aq (Nat.lt_succ_self q)
  clear bK aq hc6 hc7 hq3
  have hs4:=hB4.size
  obtain⟨g4,hA4,_,hg4⟩:=fy bF (by omega)
  subst hA4
  obtain⟨-,-,-,-,-,-,-,-,-,hc9,hc10⟩:=hq4.c11
  go_wp2_with fail
  obtain⟨Lp,hLp⟩:∃Lp,Lp=[69,ai tos % 256]++[ai len / 256 % 256,ai len % 256]++[ai id / 256 % 256,ai id % 256]++[zf / 256 % 256,zf % 256]++[ai ttl % 256,ai proto % 256,0,0]:=⟨_,rfl⟩
  rw[←hLp] at bF
  have HLP:=jH hLp
  have HB4:=jH hB4
  have hq4l:=hq4.lt
  clear hLp hB4 hB3 hB2 hs2 hs3
  go_cut [3] (fun v wx=>Row w4 wx (q + 1) v 20 (Lp++[src / 16777216 % 256,src / 65536 % 256,src / 256 % 256,src % 256]++[dst / 16777216 % 256,dst / 65536 % 256,dst / 256 % 256,dst % 256]))
  case first=>
   have hall9:∀o,(w4.alloc o).drew.cell? ⟨q,9,none⟩=some (X Z src):=fun o=>(hq4.alloc o).drew.cell 9
   have hall10:∀o,(w4.alloc o).drew.cell? ⟨q,10,none⟩=some (X Z dst):=fun o=>(hq4.alloc o).drew.cell 10
   go_region_law (first
    |(go_simp;go_at_call 131;(with_reducible refine(pY src _ ksrc).mono ?_);rintro e w' ⟨rfl,rfl⟩;first|(have _t:=tok2;have tok21:True:=trivial;clear _t tok2)|(have tok1:True:=trivial))
    |(go_simp;go_at_call 131;(with_reducible refine(pY dst _ kdst).mono ?_);rintro e w' ⟨rfl,rfl⟩;first|(have _t:=tok1;have tok12:True:=trivial;clear _t tok1)|(have tok2:True:=trivial))
    |(have _t:=tok1;clear _t tok1;refine eL rfl (.tmp 38) (.tmp 41) _ rfl 5 cJ underlying23 (q + 1) (G (some ⟨g4,0,none⟩) 12 c4) 12 (Lp) (by simp[Act.eval,Act.put]) (iZ (bF.alloc _)) _ (some ⟨w4.heap.size,0,none⟩) 4 4 ([src / 16777216 % 256,src / 65536 % 256,src / 256 % 256,src % 256]) (by simp[Act.eval,Act.put]) ((dQ _ _ _ _ 4 _ _ (by rfl) (by rfl) (by simp) _ (by simp[bv])).drew) 16 rfl (by omega) (by simp;omega) ?_;intro A5 c5 w5 cC aK hg5 hat5;have tokA:True:=trivial;have hBy:=((bR (q + 1) w4).alloc (by omega) _).drew.trans aK;have hq5:=hq4.below hBy (Nat.lt_succ_self q);have hk10:=hq5.cell 10;simp only[ga,gz,gN] at hk10)
    |(have _t:=tok12;clear _t tok12;refine eL rfl (.tmp 38) (.tmp 41) _ rfl 5 cJ underlying23 (q + 1) (G (some ⟨g4,0,none⟩) 12 c4) 12 (Lp) (by simp[Act.eval,Act.put]) (iZ ((bF.alloc _).alloc _)) _ (some ⟨w4.heap.size,0,none⟩) 4 4 ([src / 16777216 % 256,src / 65536 % 256,src / 256 % 256,src % 256]) (by simp[Act.eval,Act.put]) (((dQ _ _ _ _ 4 _ _ (by rfl) (by rfl) (by simp) _ (by simp[bv])).alloc (by simp) _).drew) 16 rfl (by omega) (by simp;omega) ?_;intro A5 c5 w5 cC aK hg5 hat5;have tokB:True:=trivial;have hBy:=(((bR (q + 1) w4).alloc (by omega) _).alloc (by simp;omega) _).drew.trans aK;have hbB:=(ab.drew (ab.new_ (w:=w4.alloc (cL #[X .u8 (src / 16777216 % 256:Nat),X .u8 (src / 65536 % 256:Nat),X .u8 (src / 256 % 256:Nat),X .u8 (src % 256:Nat)] 5)) (g:=w4.heap.size + 1) (t:=5) (cs:=#[X .u8 (dst / 16777216 % 256:Nat),X .u8 (dst / 65536 % 256:Nat),X .u8 (dst / 256 % 256:Nat),X .u8 (dst % 256:Nat)]) (by simp))).grown hg5 (by intro h;cases h;omega))
    |(have _t:=tok21;clear _t tok21;refine eL rfl (.tmp 38) (.tmp 41) _ rfl 5 cJ underlying23 (q + 1) (G (some ⟨g4,0,none⟩) 12 c4) 12 (Lp) (by simp[Act.eval,Act.put]) (iZ ((bF.alloc _).alloc _)) _ (some ⟨w4.heap.size + 1,0,none⟩) 4 4 ([src / 16777216 % 256,src / 65536 % 256,src / 256 % 256,src % 256]) (by simp[Act.eval,Act.put]) ((dQ _ _ _ _ 4 _ _ (by rfl) (by rfl) (by simp) _ (by simp[bv])).drew) 16 rfl (by omega) (by simp;omega) ?_;intro A5 c5 w5 cC aK hg5 hat5;have tokC:True:=trivial;have hBy:=(((bR (q + 1) w4).alloc (by omega) _).alloc (by simp;omega) _).drew.trans aK;have hbC:=(ab.drew (ab.alloc (ab.new_ (w:=w4) (g:=w4.heap.size) (t:=5) (cs:=#[X .u8 (dst / 16777216 % 256:Nat),X .u8 (dst / 65536 % 256:Nat),X .u8 (dst / 256 % 256:Nat),X .u8 (dst % 256:Nat)]) rfl) _)).grown hg5 (by intro h;cases h;omega))
    |(have _t:=tokA;clear _t tokA;refine eL rfl (.tmp 42) (.tmp 45) _ rfl 5 cJ underlying23 (q + 1) (G A5 16 c5) 16 (Lp++[src / 16777216 % 256,src / 65536 % 256,src / 256 % 256,src % 256]) (by simp[Act.eval,Act.put]) (cC.alloc _) _ (some ⟨w5.heap.size,0,none⟩) 4 4 ([dst / 16777216 % 256,dst / 65536 % 256,dst / 256 % 256,dst % 256]) (by simp[Act.eval,Act.put]) (dQ _ _ _ _ 4 _ _ (by rfl) (by rfl) (by simp) _ (by simp[bv])) 20 rfl (by omega) (by have:=hBy.size;simp;omega) ?_;intro A6 c6 w6 cA hb6 hg6 hat6;have hBz:=(hBy.alloc (by have:=hBy.size;omega) _).trans hb6)
    |(have _t:=tokB;clear _t tokB;refine eL rfl (.tmp 42) (.tmp 45) _ rfl 5 cJ underlying23 (q + 1) (G A5 16 c5) 16 (Lp++[src / 16777216 % 256,src / 65536 % 256,src / 256 % 256,src % 256]) (by simp[Act.eval,Act.put]) (cC) _ (some ⟨w4.heap.size + 1,0,none⟩) 4 4 ([dst / 16777216 % 256,dst / 65536 % 256,dst / 256 % 256,dst % 256]) (by simp[Act.eval,Act.put]) (lv hbB (by rfl) (Nat.lt_succ_self _) (by rfl)) 20 rfl (by omega) (by have:=hBy.size;omega) ?_;intro A6 c6 w6 cA hb6 hg6 hat6;have hBz:=hBy.trans hb6)
    |(have _t:=tokC;clear _t tokC;refine eL rfl (.tmp 42) (.tmp 45) _ rfl 5 cJ underlying23 (q + 1) (G A5 16 c5) 16 (Lp++[src / 16777216 % 256,src / 65536 % 256,src / 256 % 256,src % 256]) (by simp[Act.eval,Act.put]) (cC) _ (some ⟨w4.heap.size,0,none⟩) 4 4 ([dst / 16777216 % 256,dst / 65536 % 256,dst / 256 % 256,dst % 256]) (by simp[Act.eval,Act.put]) (lv hbC (by rfl) (Nat.lt_succ_self _) (by rfl)) 20 rfl (by omega) (by have:=hBy.size;omega) ?_;intro A6 c6 w6 cA hb6 hg6 hat6;have hBz:=hBy.trans hb6))
   all_goals
    go_wp2_with fail
    go_meet
    obtain⟨g6,hA6,_,_⟩:=fy cA (by omega)
    subst hA6
    exact⟨g6,c6,rfl,cA,hBz⟩
  case rest=>
   obtain⟨g6,c6,rfl,cA,hB6'⟩:=hcut
   have hB6:=HB4.out.trans hB6'
   have hs6:=hB6.size
   obtain⟨Lq,hLq⟩:∃Lq,Lq=Lp++[src / 16777216 % 256,src / 65536 % 256,src / 256 % 256,src % 256]++[dst / 16777216 % 256,dst / 65536 % 256,dst / 256 % 256,dst % 256]:=⟨_,rfl⟩
   have HE:Hid (Lq=dB ⟨ihl,tos,len,id,flags,off,ttl,proto,sum,src,dst⟩ 0):=by
    show _=_
    rw[hLq,HLP.out,hHB.out,HF.out]
    rfl
   rw[←hLq] at cA
   have hLl:Lq.length=20:=by rw[HE.out];exact sC _ _
   have hLa:ay Lq:=by rw[HE.out];exact oE _ _
   have CN:=jH (R1.net_any wc wc.heap.size (some ⟨g6,0,none⟩) 20 c6 Lq (Reads.of_own cA) (by omega) hLa)
   obtain⟨z,hz⟩:∃z,z=eh Lq:=⟨_,rfl⟩
   have hzl:z < 65536:=by rw[hz];exact nK _
   rw[←hz] at CN
   have HFin:Hid ((Lq.set 10 (z / 256)).set 11 (z % 256)=bW ⟨ihl,tos,len,id,flags,off,ttl,proto,sum,src,dst⟩):=by
    show _=_
    unfold bW
    rw[←HE.out,←hz,HE.out,hHB.out,hHB.out]
    have e1:z / 256 % 256=z / 256:=by omega
    rw[e1]
    rfl
   have hcx:=jA cA 10 (by omega) (by omega)
   have hcy:=jA cA 11 (by omega) (by omega)
   have hfx:=cA.frozenAt 10
   have hfy:=cA.frozenAt 11
   have hst:=kh (kh cA 10 (z / 256)) 11 (z % 256)
   rw[HFin.out] at hst
   have e256:((256:Nat):Int)=256:=rfl
   simp only[Int.natCast_ediv,Int.natCast_emod,e256] at hst
   clear e256
   have HST:=jH hst
   have hg6:q + 1≤g6:=(cA.lt g6 rfl).1
   have hBq:Below q v0 wc:=hB6.mono (by omega)
   generalize Lq[10]=o10 at hcx
   generalize Lq[11]=o11 at hcy
   clear hst cA hLa hLq hz hB6' hq4
   go_wp2_with fail
   refine CN.out.mono ?_
   rintro e w' ⟨rfl,rfl⟩
   clear CN
   go_wp2_with fail
   go_ret
   refine⟨_,_,rfl,gB HST.out (by rw[←HQ.out];omega),?_⟩
   have h1:=hB0.trans (hBq.mono (by rw[HQ.out];exact nR _))
   exact(h1.setCell (p:=⟨g6,10,none⟩) (by rw[←HQ.out];show q≤g6;omega) _).setCell (p:=⟨g6,11,none⟩) (by rw[←HQ.out];show q≤g6;omega) _
theorem gm.yes {l:List Nat}{w w':World}{e:Ending}(h:gm l w e w')(h0:cD l=0):∃A c,e=rT (tU #[.agg (fh l).vals,G A (bX l - 4 * cE l) c,X Y 0])∧w'.ownsRow w.heap.size 5 1 (G A (bX l - 4 * cE l) c) (bX l - 4 * cE l) (bv (bO l)):=by
 rcases h with⟨_,h⟩|⟨h,_⟩
 ·exact h
 ·exact absurd h0 h
theorem gm.no {l:List Nat}{w w':World}{e:Ending}(h:gm l w e w')(h0:cD l≠0):e=rT (tU #[.agg dc.vals,G none 0 0,X Y (cD l:Nat)]):=by
 rcases h with⟨h,_⟩|⟨_,h⟩
 ·exact absurd h h0
 ·exact h
theorem rC {w:World}{aa m c:Nat}{e:TypeId}{A:Option Addr}{xs:List Value}{size:Nat}(h:w.ownsRow aa e size (G A m c) m xs):m≤c:=by
 rcases h.2 with⟨h,_⟩|⟨g,cap,cur,h,_,_,hc,_⟩
 ·cases h;exact nR _
 ·cases h;exact hc
def fS (b:List Nat):Bool:=decide (20≤b.length∧5≤at' b 12 / 16∧4 * (at' b 12 / 16)≤b.length)
def fE (b:List Nat):Bool:=decide (8≤b.length∧8≤aR b 4∧aR b 4≤b.length)
theorem qq (A:Option Addr)(n c B:Nat)(l:List Nat)(w:World)(hr:Reads w B 1 A n (bv l))(hn:n≤140737488355328)(ha:ay l):
  Calls Pg 316 #[G A n c] w fun e w'=>e=rT (bL (fS l))∧w=w':=by
 have ax:=hr.length
 by_cases h20:n < 20
 ·have H:Hid (fS l=false):=decide_eq_false (by omega)
  go_enter func316,ntmps316
  go_wp2_with fail
  go_ret
  exact⟨by rw[H.out];rfl,rfl⟩
 ·obtain⟨b,off,hA,_,hc⟩:=hr.plain (by omega) (by omega)
  subst hA
  have h12:12 < l.length:=by omega
  have hc12:=hc 12 _ (kL h12)
  rw[show l[12]=at' l 12 from by unfold at';simp[h12]] at hc12
  have hx:=fR ha 12
  have HT:Hid (∀b:Bool,(b=true↔5≤at' l 12 / 16∧4 * (at' l 12 / 16)≤n)→b=fS l):=by
   intro b h
   rw[Bool.eq_iff_iff,h]
   unfold fS
   rw[decide_eq_true_eq,ax]
   constructor
   ·intro h;exact⟨by omega,h.1,h.2⟩
   ·intro h;exact h.2
  have hdv:((at' l 12:Nat):Int) / 16=((at' l 12 / 16:Nat):Int):=by omega
  have au:at' l 12 / 16 < 16:=by omega
  clear hc hr ax h12
  generalize at' l 12 / 16=y at *
  generalize at' l 12=x at *
  by_cases h5:5≤y
  ·by_cases h4:4 * y≤n
   ·have HB:=jH (HT.out true (by simp[h5,h4]))
    have d1:decide ((5:Int)≤(y:Int))=true:=decide_eq_true (by omega)
    have d2:decide (4 * (y:Int)≤(n:Int))=true:=decide_eq_true (by omega)
    go_enter func316,ntmps316
    go_wp2_with fail
    go_ret
    exact⟨by rw[←HB.out];rfl,rfl⟩
   ·have HB:=jH (HT.out false (by simp;omega))
    have d1:decide ((5:Int)≤(y:Int))=true:=decide_eq_true (by omega)
    have d2:decide (4 * (y:Int)≤(n:Int))=false:=decide_eq_false (by omega)
    go_enter func316,ntmps316
    go_wp2_with fail
    go_ret
    exact⟨by rw[←HB.out];rfl,rfl⟩
  ·have HB:=jH (HT.out false (by simp;omega))
   have d1:decide ((5:Int)≤(y:Int))=false:=decide_eq_false (by omega)
   go_enter func316,ntmps316
   go_wp2_with fail
   go_ret
   exact⟨by rw[←HB.out];rfl,rfl⟩
theorem pV (A:Option Addr)(n c B:Nat)(l:List Nat)(w:World)(hr:Reads w B 1 A n (bv l))(hB:B≤w.heap.size)(hn:n≤140737488355328)(hnc:n≤c)(ha:ay l):
  Calls Pg 317 #[G A n c] w fun e w'=>e=rT (bL (fE l))∧Below w.heap.size w w':=by
 have ax:=hr.length
 by_cases h8:n < 8
 ·have H:Hid (fE l=false):=decide_eq_false (by omega)
  go_enter func317,ntmps317
  go_wp2_with fail
  go_ret
  exact⟨by rw[H.out];rfl,bR _ _⟩
 ·obtain⟨b,off,hA,_,_⟩:=hr.plain (by omega) (by omega)
  subst hA
  have hx:=dV ha 4
  have HT:Hid (∀b:Bool,(b=true↔8≤aR l 4∧aR l 4≤n)→b=fE l):=by
   intro b h
   rw[Bool.eq_iff_iff,h]
   unfold fE
   rw[decide_eq_true_eq,ax]
   constructor
   ·intro h;exact⟨by omega,h.1,h.2⟩
   ·intro h;exact h.2
  have hcut:=hr.cut (k:=4) (cap:=c) (by omega) hnc
  have hc4:¬c=4:=by omega
  rw[if_neg hc4,show (bv l).drop (4 * 1)=bv (l.drop 4) from by simp[bv]] at hcut
  simp only[Option.map_some,Addr.add_lit] at hcut
  have CR:=jH (ja (some ⟨b,off + 4 * 1,none⟩) (n - 4) (c - 4) B (l.drop 4) w hcut hB (by omega) (fun h=>by cases h))
  have CU:=jH (fun p w' (h:aD w' p (l.drop 4))=>mM p 4 l w' (by omega) (by omega) ha h)
  have i1:(4:Int)≤(n:Int):=by omega
  have i2:(n:Int)≤(c:Int):=by omega
  clear hr hcut ax
  generalize aR l 4=y at *
  have rest:∀bb:Bool,bb=fE l→(decide ((8:Int)≤(y:Int))&&decide ((y:Int)≤(n:Int)))=bb→Calls Pg 317 #[G (some ⟨b,off,none⟩) n c] w fun e w'=>e=rT (bL (fE l))∧Below w.heap.size w w':=by
   intro bb hbb hd
   have HB:=jH hbb
   have HD:=jH hd
   clear hbb hd HT
   by_cases h1:8≤y
   ·have d1:decide ((8:Int)≤(y:Int))=true:=decide_eq_true (by omega)
    by_cases h2:y≤n
    ·have d2:decide ((y:Int)≤(n:Int))=true:=decide_eq_true (by omega)
     have d3:decide (y≤n)=true:=decide_eq_true h2
     obtain rfl:bb=true:=by rw[←HD.out,d1,d2];rfl
     go_enter func317,ntmps317
     go_wp2_with fail
     refine CR.out.mono ?_
     rintro e w1 ⟨p,rfl,hp,hrb,ae⟩
     go_wp2_with fail
     refine(CU.out p w1 hrb).mono ?_
     rintro e w2 ⟨rfl,_,hg⟩
     have hB2:=ae.grown hg ae.size (fun k hk=>by cases hk;exact hp)
     go_wp2_with fail
     go_ret
     exact⟨by rw[←HB.out];rfl,hB2⟩
    ·have d2:decide ((y:Int)≤(n:Int))=false:=decide_eq_false (by omega)
     have d3:decide (y≤n)=false:=decide_eq_false h2
     obtain rfl:bb=false:=by rw[←HD.out,d1,d2];rfl
     go_enter func317,ntmps317
     go_wp2_with fail
     refine CR.out.mono ?_
     rintro e w1 ⟨p,rfl,hp,hrb,ae⟩
     go_wp2_with fail
     refine(CU.out p w1 hrb).mono ?_
     rintro e w2 ⟨rfl,_,hg⟩
     have hB2:=ae.grown hg ae.size (fun k hk=>by cases hk;exact hp)
     go_wp2_with fail
     go_ret
     exact⟨by rw[←HB.out];rfl,hB2⟩
   ·have d1:decide ((8:Int)≤(y:Int))=false:=decide_eq_false (by omega)
    obtain rfl:bb=false:=by rw[←HD.out,d1];rfl
    go_enter func317,ntmps317
    go_wp2_with fail
    refine CR.out.mono ?_
    rintro e w1 ⟨p,rfl,hp,hrb,ae⟩
    go_wp2_with fail
    refine(CU.out p w1 hrb).mono ?_
    rintro e w2 ⟨rfl,_,hg⟩
    have hB2:=ae.grown hg ae.size (fun k hk=>by cases hk;exact hp)
    go_wp2_with fail
    go_ret
    exact⟨by rw[←HB.out];rfl,hB2⟩
  exact rest (decide ((8:Int)≤(y:Int))&&decide ((y:Int)≤(n:Int))) (HT.out _ (by simp;omega)) rfl
theorem oX (z:Int)(w:World):
  Calls Pg 53 #[X Y z] w fun e w'=>e=rT (G (some ⟨w.heap.size,0,none⟩) 2 2)∧w.alloc (cL #[X .u8 ((ai z) / 256 % 256:Nat),X .u8 ((ai z) % 256:Nat)] 5)=w':=by
 have h1:Hid (z % 256=((ai z % 256:Nat):Int)):=by show _=_;unfold ai;omega
 have h2:Hid (z / 256 % 256=((ai z / 256 % 256:Nat):Int)):=by show _=_;unfold ai;omega
 go_enter func53,ntmps53
 go_wp2_with fail
 rw[h1.out,h2.out]
 go_ret
 exact⟨rfl,rfl⟩
def en (z:Int):List Nat:=[ai z / 256 % 256,ai z % 256]
theorem jU (z:Int):ay (en z):=by
 intro x hx
 simp[en] at hx
 rcases hx with rfl|rfl<;>omega
def gT (k:Tu)(flags:Int):List Nat:=en k.sport++en k.dport++[0,0,0,0,0,0,0,0,80,ai flags % 256,0,0,0,0,0,0]
def eY (k:Tu)(n:Nat):List Nat:=en k.sport++en k.dport++en (8 + (n:Int))++[0,0]
def cR (k:Tu)(flags:Int)(l:List Nat):List Nat:=if k.proto=6 then gT k flags++l else eY k l.length++l
def gX (k:Tu)(ttl:Int)(L:Nat):Hd:=⟨0,0,20 + (L:Int),0,0,0,ttl,k.proto,0,k.src,k.dst⟩
def cW (k:Tu)(ttl flags:Int)(l:List Nat):List Nat:=bW (gX k ttl (cR k flags l).length)++cR k flags l
def mw (k:Tu)(ttl flags:Int)(l:List Nat)(w:World)(e:Ending)(w':World):Prop:=
 ∃A N c,e=rT (G A N c)∧N=(cW k ttl flags l).length∧w'.ownsRow w.heap.size 5 1 (G A N c) N (bv (cW k ttl flags l))∧Below w.heap.size w w'
theorem zI (k:Tu)(ttl flags:Int)(A:Option Addr)(n c B:Nat)(l:List Nat)(w:World)(hk:bT k)(httl:-9223372036854775808≤ttl∧ttl≤9223372036854775807)(hr:Reads w B 1 A n (bv l))(hB:B≤w.heap.size)(hn:n≤100000):
  Calls Pg 20 #[.agg k.vals,X Y ttl,X Y flags,G A n c] w fun e w'=>mw k ttl flags l w e w':=by
 have ax:=hr.length
 obtain⟨src,dst,proto,sport,dport⟩:=k
 obtain⟨k1,k2,k3,k4,k5⟩:=hk
 dsimp only at k1 k2 k3 k4 k5
 have hfl:Hid (flags % 256=((ai flags % 256:Nat):Int)):=by show _=_;unfold ai;omega
 have HR:=jH (fun w' (hb:Below w.heap.size w w')=>(hr.below (hb.mono hB)).more (nT hB hb.size))
 have CB:=jH (fun(L:Nat) (hL:L≤200000) w'=>xL ⟨0,0,20 + (L:Int),0,0,0,ttl,proto,0,src,dst⟩ w' ⟨by dsimp only;omega,by dsimp only;omega,by dsimp only;omega,by dsimp only;omega,by dsimp only;omega,by dsimp only;omega,httl,k3,by dsimp only;omega,k1,k2⟩)
 have HE:Hid (∀P L,cR ⟨src,dst,proto,sport,dport⟩ flags l=P→P.length=L→cW ⟨src,dst,proto,sport,dport⟩ ttl flags l=bW ⟨0,0,20 + (L:Int),0,0,0,ttl,proto,0,src,dst⟩++P):=by
  intro P L h1 h2
  unfold cW gX
  rw[h1,h2]
 have HL:=jH ax
 clear hr ax hB
 unfold Tu.vals
 dsimp only
 unfold Hd.vals at CB
 dsimp only at CB
 have both:∀tcp:Bool,(proto==6)=tcp→Calls Pg 20 #[aG #[X Z src,X Z dst,X Y proto,X Y sport,X Y dport],X Y ttl,X Y flags,G A n c] w fun e w'=>mw ⟨src,dst,proto,sport,dport⟩ ttl flags l w e w':=by
  intro tcp htcp
  have HTC:=jH htcp
  go_enter func20,ntmps20
  go_wp2_with fail
  have hq:=ab.new w 39 #[X Z src,X Z dst,X Y proto,X Y sport,X Y dport]
  have hB0:Below w.heap.size w (w.alloc (cL #[X Z src,X Z dst,X Y proto,X Y sport,X Y dport] 39)):=(bR _ _).alloc (nR _) _
  obtain⟨q,hqq⟩:∃q,q=w.heap.size:=⟨_,rfl⟩
  have hszl:q + 1≤(w.alloc (cL #[X Z src,X Z dst,X Y proto,X Y sport,X Y dport] 39)).heap.size:=by simp[hqq]
  rw[←hqq] at hq⊢
  generalize w.alloc (cL #[X Z src,X Z dst,X Y proto,X Y sport,X Y dport] 39)=v0 at *
  have HQ:=jH hqq
  clear hqq htcp
  obtain⟨-,-,-,hc3,hc4⟩:=hq.c5
  go_cut [9] (fun v wx=>∃A1 c1,v=G A1 4 c1∧wx.ownsRow (q + 1) 5 1 (G A1 4 c1) 4 (bv (en sport++en dport))∧Below (q + 1) v0 wx)
  case first=>
   have hall3:∀o,(v0.alloc o).drew.cell? ⟨q,3,none⟩=some (X Y sport):=fun o=>(hq.alloc o).drew.cell 3
   have hall4:∀o,(v0.alloc o).drew.cell? ⟨q,4,none⟩=some (X Y dport):=fun o=>(hq.alloc o).drew.cell 4
   go_region_law (first
    |(go_simp;go_at_call 53;(with_reducible refine(oX sport _).mono ?_);rintro e w' ⟨rfl,rfl⟩;first|(have _t:=tok2;have tok21:True:=trivial;clear _t tok2)|(have tok1:True:=trivial))
    |(go_simp;go_at_call 53;(with_reducible refine(oX dport _).mono ?_);rintro e w' ⟨rfl,rfl⟩;first|(have _t:=tok1;have tok12:True:=trivial;clear _t tok1)|(have tok2:True:=trivial))
    |(have _t:=tok12;clear _t tok12;refine eL rfl (.tmp 13) (.tmp 16) _ rfl 5 cJ underlying23 (q + 1) (G (some ⟨v0.heap.size,0,none⟩) 2 2) 2 ([ai sport / 256 % 256,ai sport % 256]) (by simp[Act.eval,Act.put]) (kr (cs:=#[X .u8 (ai sport / 256 % 256:Nat),X .u8 (ai sport % 256:Nat)]) (ab.drew (ab.alloc (ab.new_ rfl) _)) (by omega) (by decide) rfl (by simp[bv])) _ (some ⟨v0.heap.size + 1,0,none⟩) 2 2 ([ai dport / 256 % 256,ai dport % 256]) (by simp[Act.eval,Act.put]) ((dQ _ _ _ _ 2 _ _ (by rfl) (by rfl) (by simp) _ (by simp[bv])).drew) 4 rfl (by omega) (by simp;omega) ?_;intro A1 c1 w1 aQ ae hg1 hat1;have hBy:=(((bR (q + 1) v0).alloc (by omega) _).alloc (by simp;omega) _).drew.trans ae)
    |(have _t:=tok21;clear _t tok21;refine eL rfl (.tmp 13) (.tmp 16) _ rfl 5 cJ underlying23 (q + 1) (G (some ⟨v0.heap.size + 1,0,none⟩) 2 2) 2 ([ai sport / 256 % 256,ai sport % 256]) (by simp[Act.eval,Act.put]) (kr (cs:=#[X .u8 (ai sport / 256 % 256:Nat),X .u8 (ai sport % 256:Nat)]) (ab.drew (ab.new_ (by simp))) (by omega) (by decide) rfl (by simp[bv])) _ (some ⟨v0.heap.size,0,none⟩) 2 2 ([ai dport / 256 % 256,ai dport % 256]) (by simp[Act.eval,Act.put]) (((dQ _ _ _ _ 2 _ _ (by rfl) (by rfl) (by simp) _ (by simp[bv])).alloc (by simp) _).drew) 4 rfl (by omega) (by simp;omega) ?_;intro A1 c1 w1 aQ ae hg1 hat1;have hBy:=(((bR (q + 1) v0).alloc (by omega) _).alloc (by simp;omega) _).drew.trans ae))
   all_goals
    go_wp2_with fail
    go_meet
    exact⟨A1,c1,rfl,aQ,hBy⟩
  case rest=>
   obtain⟨A1,c1,rfl,aQ,hB1'⟩:=hcut
   have hB1:=hB0.trans (hB1'.mono (by rw[←HQ.out];omega))
   have hq1:=hq.below hB1' (Nat.lt_succ_self q)
   have hs1':=hB1'.size
   clear hc3 hc4 hq
   obtain⟨-,-,hc2⟩:=hq1.c3
   cases tcp
   ·have hbt:(proto==6)=false:=HTC.out
    have hs1:=hB1.size
    go_wp2_with fail
    refine(oX (8 + (n:Int)) wc).mono ?_
    rintro e w3 ⟨rfl,hw3⟩
    subst hw3
    go_wp2_with (at_builtin;refine cu ?_)
    refine cw ?_
    refine ee rfl (.tmp 26) (.tmp 30) _ rfl 5 cJ underlying23 (q + 1) (G A1 4 c1) 4 _ rfl (aQ.alloc _) _ (some ⟨wc.heap.size,0,none⟩) 2 2 (en (8 + (n:Int))) rfl (dQ _ _ _ _ 2 _ _ (by rfl) (by rfl) (by rfl) _ (by rfl)) 6 rfl (by omega) (by simp;omega) ?_
    intro A2 c2 w2 bH af _ _
    have hB2':=(hB1'.alloc (by omega) _).trans af
    have hq2:=hq1.below ((bR _ _).alloc (nR _) (cL #[X .u8 ((ai (8 + (n:Int))) / 256 % 256:Nat),X .u8 ((ai (8 + (n:Int))) % 256:Nat)] 5)) hq1.lt
    have hq2:=hq2.below af (Nat.lt_succ_self q)
    have hs2:=hB2'.size
    clear aQ af hc2 hq1
    go_wp2_with (at_builtin;refine cu ?_)
    refine cw ?_
    refine ee rfl (.tmp 31) (.tmp 32) _ rfl 5 cJ underlying23 (q + 1) (G A2 6 c2) 6 _ rfl (bH.alloc _) _ (some ⟨w2.heap.size,0,none⟩) 2 2 [0,0] rfl (dQ _ _ _ _ 2 _ _ (by rfl) (by rfl) (by rfl) _ (by rfl)) 8 rfl (by omega) (by simp;omega) ?_
    intro A3 c3 w3 bK al _ _
    have hB3':=(hB2'.alloc (by omega) _).trans al
    have hq3:=hq2.below ((bR _ _).alloc (nR _) (cL #[X .u8 0,X .u8 0] 5)) hq2.lt
    have hq3:=hq3.below al (Nat.lt_succ_self q)
    have hs3:=hB3'.size
    have hB3:=hB0.trans (hB3'.mono (by rw[←HQ.out];omega))
    clear bH al hq2 hB2'
    go_wp2_with (at_builtin;refine cu ?_)
    refine cw ?_
    refine ee rfl (.tmp 34) (.tmp 35) _ rfl 5 cJ underlying23 (q + 1) (G A3 8 c3) 8 _ rfl bK w3.heap.size A n c l rfl (HR.out w3 hB3) (8 + n) rfl (by omega) (by omega) ?_
    intro A4 c4 w4 bF aq _ _
    have hB4':=hB3'.trans aq
    have hq4:=hq3.below aq (Nat.lt_succ_self q)
    have hB4:=hB0.trans (hB4'.mono (by rw[←HQ.out];omega))
    have hs4:=hB4'.size
    have hO4:=jH bF
    obtain⟨hc0,hc1,hc2⟩:=hq4.c3
    clear bK aq hq3 hB3' bF
    go_wp2_with fail
    have CBn:=CB.out (8 + n) (by omega) w4
    have hcast:((8 + n:Nat):Int)=8 + (n:Int):=by omega
    rw[hcast] at CBn
    have HCB:=jH CBn
    have HEn:=jH (HE.out (eY ⟨src,dst,proto,sport,dport⟩ n++l) (8 + n) (by unfold cR;rw[if_neg (by intro h;have h':proto=6:=h;rw[h'] at hbt;exact absurd hbt (by decide))];unfold eY;rw[HL.out]) (by rw[List.length_append,HL.out];rfl))
    rw[hcast] at HEn
    clear CBn hcast hc0 hc1 hc2
    refine HCB.out.mono ?_
    rintro e w5 ⟨A5,c5,rfl,cC,aK⟩
    have hB5:=hB4.trans (aK.mono hB4.size)
    have hO45:=aJ hO4.out aK
    have hs5:=aK.size
    have hBA:=jH aK
    clear HCB hO4 aK
    go_wp2_with (at_builtin;refine cu ?_)
    refine cw ?_
    refine ee rfl (.tmp 48) (.tmp 49) _ rfl 5 cJ underlying23 w4.heap.size (G A5 20 c5) 20 _ rfl cC w5.heap.size A4 (8 + n) c4 _ rfl (Reads.of_own hO45) (20 + (8 + n)) rfl (by omega) hs5 ?_
    intro A6 c6 w6 cA hb6 _ _
    have cA:w6.ownsRow w4.heap.size 5 1 (G A6 (20 + (8 + n)) c6) (20 + (8 + n)) (bv (cW ⟨src,dst,proto,sport,dport⟩ ttl flags l)):=by rw[HEn.out];exact cA
    have hB6:=hB5.trans (hb6.mono hB4.size)
    have hlN:20 + (8 + n)=(cW ⟨src,dst,proto,sport,dport⟩ ttl flags l).length:=by
     have:=cA.1
     rw[el] at this
     omega
    have HF:Hid (mw ⟨src,dst,proto,sport,dport⟩ ttl flags l w (rT (G A6 (20 + (8 + n)) c6)) w6):=⟨A6,_,c6,rfl,hlN,gB cA hB4.size,hB6⟩
    clear hlN cA cC hO45
    go_wp2_with fail
    go_ret
    exact HF.out
   ·have hbt:(proto==6)=true:=HTC.out
    have hs1:=hB1.size
    go_wp2_with (at_builtin;refine cu ?_)
    refine cw ?_
    rw[hfl.out]
    refine ee rfl (.tmp 21) (.tmp 24) _ rfl 5 cJ underlying23 (q + 1) (G A1 4 c1) 4 _ rfl (aQ.alloc _) _ (some ⟨wc.heap.size,0,none⟩) 16 16 [0,0,0,0,0,0,0,0,80,ai flags % 256,0,0,0,0,0,0] rfl (dQ _ _ _ _ 16 _ _ (by rfl) (by rfl) (by rfl) _ (by rfl)) 20 rfl (by omega) (by simp;omega) ?_
    intro A3 c3 w3 bK al _ _
    have hB3':=(hB1'.alloc (by omega) _).trans al
    have hq3:=hq1.below ((bR _ _).alloc (nR _) (cL #[X .u8 0,X .u8 0,X .u8 0,X .u8 0,X .u8 0,X .u8 0,X .u8 0,X .u8 0,X .u8 80,X .u8 (ai flags % 256:Nat),X .u8 0,X .u8 0,X .u8 0,X .u8 0,X .u8 0,X .u8 0] 5)) hq1.lt
    have hq3:=hq3.below al (Nat.lt_succ_self q)
    have hs3:=hB3'.size
    have hB3:=hB0.trans (hB3'.mono (by rw[←HQ.out];omega))
    clear aQ al hq1 hc2
    go_wp2_with (at_builtin;refine cu ?_)
    refine cw ?_
    refine ee rfl (.tmp 34) (.tmp 35) _ rfl 5 cJ underlying23 (q + 1) (G A3 20 c3) 20 _ rfl bK w3.heap.size A n c l rfl (HR.out w3 hB3) (20 + n) rfl (by omega) (by omega) ?_
    intro A4 c4 w4 bF aq _ _
    have hB4':=hB3'.trans aq
    have hq4:=hq3.below aq (Nat.lt_succ_self q)
    have hB4:=hB0.trans (hB4'.mono (by rw[←HQ.out];omega))
    have hs4:=hB4'.size
    have hO4:=jH bF
    obtain⟨hc0,hc1,hc2⟩:=hq4.c3
    clear bK aq hq3 hB3' bF
    go_wp2_with fail
    have CBn:=CB.out (20 + n) (by omega) w4
    have hcast:((20 + n:Nat):Int)=20 + (n:Int):=by omega
    rw[hcast] at CBn
    have HCB:=jH CBn
    have HEn:=jH (HE.out (gT ⟨src,dst,proto,sport,dport⟩ flags++l) (20 + n) (by unfold cR;rw[if_pos (by simpa using hbt)]) (by rw[List.length_append,HL.out];rfl))
    rw[hcast] at HEn
    clear CBn hcast hc0 hc1 hc2
    refine HCB.out.mono ?_
    rintro e w5 ⟨A5,c5,rfl,cC,aK⟩
    have hB5:=hB4.trans (aK.mono hB4.size)
    have hO45:=aJ hO4.out aK
    have hs5:=aK.size
    have hBA:=jH aK
    clear HCB hO4 aK
    go_wp2_with (at_builtin;refine cu ?_)
    refine cw ?_
    refine ee rfl (.tmp 48) (.tmp 49) _ rfl 5 cJ underlying23 w4.heap.size (G A5 20 c5) 20 _ rfl cC w5.heap.size A4 (20 + n) c4 _ rfl (Reads.of_own hO45) (20 + (20 + n)) rfl (by omega) hs5 ?_
    intro A6 c6 w6 cA hb6 _ _
    have cA:w6.ownsRow w4.heap.size 5 1 (G A6 (20 + (20 + n)) c6) (20 + (20 + n)) (bv (cW ⟨src,dst,proto,sport,dport⟩ ttl flags l)):=by rw[HEn.out];exact cA
    have hB6:=hB5.trans (hb6.mono hB4.size)
    have hlN:20 + (20 + n)=(cW ⟨src,dst,proto,sport,dport⟩ ttl flags l).length:=by
     have:=cA.1
     rw[el] at this
     omega
    have HF:Hid (mw ⟨src,dst,proto,sport,dport⟩ ttl flags l w (rT (G A6 (20 + (20 + n)) c6)) w6):=⟨A6,_,c6,rfl,hlN,gB cA hB4.size,hB6⟩
    clear hlN cA cC hO45
    go_wp2_with fail
    go_ret
    exact HF.out
 exact both _ rfl
def ij (f o:Nat):Bool:=decide (f % 2=0∧o=0)
theorem pQ (y0 y1 y2 y3 f o y6 y7 y8 y9 y10:Nat)(w:World)(hf:f < 65536)(ho:o < 65536):
  Calls Pg 315 #[aG #[X Y y0,X Y y1,X Y y2,X Y y3,X Y f,X Y o,X Y y6,X Y y7,X Y y8,X Z y9,X Z y10]] w fun e w'=>e=rT (bL (ij f o))∧Below w.heap.size w w':=by
 have hm:bits BinOp.and IntKind.i64 (f:Int) 1=((f % 2:Nat):Int):=by
  have:=oA f 1 (by omega) (by omega)
  rw[nat_mask1] at this
  exact this
 by_cases h1:f % 2=0
 ·by_cases h2:o=0
  ·have HB:Hid (ij f o=true):=decide_eq_true ⟨h1,h2⟩
   have b1:(((f % 2:Nat):Int)==0)=true:=by simp[h1]
   have b1':(((f:Int) % 2)==0)=true:=by simp;omega
   have b2:((o:Int)==0)=true:=by simp[h2]
   clear h1 h2
   go_enter func315,ntmps315
   go_wp2_with fail
   go_ret
   exact⟨by rw[HB.out];rfl,(bR _ _).alloc (nR _) _⟩
  ·have HB:Hid (ij f o=false):=decide_eq_false (by omega)
   have b1:(((f % 2:Nat):Int)==0)=true:=by simp[h1]
   have b1':(((f:Int) % 2)==0)=true:=by simp;omega
   have b2:((o:Int)==0)=false:=by simp;omega
   clear h1 h2
   go_enter func315,ntmps315
   go_wp2_with fail
   go_ret
   exact⟨by rw[HB.out];rfl,(bR _ _).alloc (nR _) _⟩
 ·have HB:Hid (ij f o=false):=decide_eq_false (by omega)
  have b1:(((f % 2:Nat):Int)==0)=false:=by simp;omega
  have b1':(((f:Int) % 2)==0)=false:=by simp;omega
  clear h1
  go_enter func315,ntmps315
  go_wp2_with fail
  go_ret
  exact⟨by rw[HB.out];rfl,(bR _ _).alloc (nR _) _⟩
def iA (l:List Nat):Bool:=ij (aR l 6 / 8192) (aR l 6 % 8192)
def cB (l:List Nat):Nat:=
 if cD l≠0 then cD l
 else if iA l=false then 6
 else if at' l 9=6 then (if fS (bO l)=true then 0 else 9)
 else if at' l 9=17 then (if fE (bO l)=true then 0 else 9)
 else 8
def eu (l:List Nat):Tu:=⟨dG l 12,dG l 16,(at' l 9:Nat),(aR (bO l) 0:Nat),(aR (bO l) 2:Nat)⟩
def mW:Tu:=⟨0,0,0,0,0⟩
def iT (l:List Nat)(w:World)(e:Ending)(w':World):Prop:=
 (cB l=0∧∃A c,e=rT (tU #[.agg (eu l).vals,.agg (fh l).vals,G A (bX l - 4 * cE l) c,X Y 0])∧w'.ownsRow w.heap.size 5 1 (G A (bX l - 4 * cE l) c) (bX l - 4 * cE l) (bv (bO l)))∨
 (cB l≠0∧e=rT (tU #[.agg mW.vals,.agg dc.vals,G none 0 0,X Y (cB l:Nat)]))
theorem uE (A:Option Addr)(n c B:Nat)(l:List Nat)(w:World)(hr:Reads w B 1 A n (bv l))(hB0:B≤w.heap.size)(hn:n≤140737488355328)(hnc:n≤c)(ha:ay l)(hno:cD l≠0):
  Calls Pg 203 #[G A n c] w fun e w'=>iT l w e w'∧Below w.heap.size w w':=by
 have CP:=jH (fun w' (hb:Below w.heap.size w w')=>lD A n c w'.heap.size l w' ((hr.below (hb.mono hB0)).more (nT hB0 hb.size)) (nR _) hn hnc ha)
 have hT:cB l=cD l:=by unfold cB;rw[if_pos hno]
 obtain⟨r,hrr⟩:∃r,r=cD l:=⟨_,rfl⟩
 have HR:Hid (∀w',iT l w (rT (tU #[aG #[X Z 0,X Z 0,X Y 0,X Y 0,X Y 0],aG #[X Y 0,X Y 0,X Y 0,X Y 0,X Y 0,X Y 0,X Y 0,X Y 0,X Y 0,X Z 0,X Z 0],G none 0 0,X Y r])) w'):=fun w'=>.inr ⟨by rw[hT];exact hno,by rw[hT,hrr];rfl⟩
 have HN:=jH (aI hno hrr)
 have hb:((r:Int) !=0)=true:=by simp;omega
 clear hr hno hT hrr ha
 go_enter func203,ntmps203
 go_wp2_with fail
 have hq2:=(ab.new w 39 #[X Z 0,X Z 0,X Y 0,X Y 0,X Y 0]).alloc (cL #[X Y 0,X Y 0,X Y 0,X Y 0,X Y 0,X Y 0,X Y 0,X Y 0,X Y 0,X Z 0,X Z 0] 132)
 have hq3:ab ((w.alloc (cL #[X Z 0,X Z 0,X Y 0,X Y 0,X Y 0] 39)).alloc (cL #[X Y 0,X Y 0,X Y 0,X Y 0,X Y 0,X Y 0,X Y 0,X Y 0,X Y 0,X Z 0,X Z 0] 132)) (w.heap.size + 1) 132 #[X Y 0,X Y 0,X Y 0,X Y 0,X Y 0,X Y 0,X Y 0,X Y 0,X Y 0,X Z 0,X Z 0]:=ab.new_ (by simp)
 have hB:=((bR w.heap.size w).alloc (nR _) (cL #[X Z 0,X Z 0,X Y 0,X Y 0,X Y 0] 39)).alloc (by simp) (cL #[X Y 0,X Y 0,X Y 0,X Y 0,X Y 0,X Y 0,X Y 0,X Y 0,X Y 0,X Z 0,X Z 0] 132)
 refine(CP.out _ hB).mono ?_
 rintro e w1 ⟨hret,ae⟩
 obtain rfl:=hret.no HN.out.1
 rw[←HN.out.2]
 have hq2:=hq2.below ae hq2.lt
 have hq3:=hq3.below ae hq3.lt
 have hB:=hB.trans (ae.mono hB.size)
 have hq2:=hq2.alloc (cL #[X Y 0,X Y 0,X Y 0,X Y 0,X Y 0,X Y 0,X Y 0,X Y 0,X Y 0,X Z 0,X Z 0] 132)
 have hq3:=hq3.alloc (cL #[X Y 0,X Y 0,X Y 0,X Y 0,X Y 0,X Y 0,X Y 0,X Y 0,X Y 0,X Z 0,X Z 0] 132)
 have hB:=hB.alloc hB.size (cL #[X Y 0,X Y 0,X Y 0,X Y 0,X Y 0,X Y 0,X Y 0,X Y 0,X Y 0,X Z 0,X Z 0] 132)
 clear hret ae CP
 obtain⟨q,hq⟩:∃q,q=w.heap.size:=⟨_,rfl⟩
 rw[←hq] at hq2 hq3⊢
 have HQ:=jH hq
 clear hq
 unfold dc Hd.vals
 obtain⟨ta0,ta1,ta2,ta3,ta4⟩:=hq2.c5
 obtain⟨tf0,tf1,tf2,tf3,tf4⟩:=hq2.f5
 obtain⟨ha0,ha1,ha2,ha3,ha4,ha5,ha6,ha7,ha8,ha9,ha10⟩:=hq3.c11
 obtain⟨hf0,hf1,hf2,hf3,hf4,hf5,hf6,hf7,hf8,hf9,hf10⟩:=hq3.f11
 go_wp2_with fail
 obtain⟨wz,hwz⟩:∃wz,wz=((((((((((((((((w1.alloc (cL #[X Y 0,X Y 0,X Y 0,X Y 0,X Y 0,X Y 0,X Y 0,X Y 0,X Y 0,X Z 0,X Z 0] 132)).setCell ⟨q,0,none⟩ (X Z 0)).setCell ⟨q,1,none⟩ (X Z 0)).setCell ⟨q,2,none⟩ (X Y 0)).setCell ⟨q,3,none⟩ (X Y 0)).setCell ⟨q,4,none⟩ (X Y 0)).setCell ⟨q + 1,0,none⟩ (X Y 0)).setCell ⟨q + 1,1,none⟩ (X Y 0)).setCell ⟨q + 1,2,none⟩ (X Y 0)).setCell ⟨q + 1,3,none⟩ (X Y 0)).setCell ⟨q + 1,4,none⟩ (X Y 0)).setCell ⟨q + 1,5,none⟩ (X Y 0)).setCell ⟨q + 1,6,none⟩ (X Y 0)).setCell ⟨q + 1,7,none⟩ (X Y 0)).setCell ⟨q + 1,8,none⟩ (X Y 0)).setCell ⟨q + 1,9,none⟩ (X Z 0)).setCell ⟨q + 1,10,none⟩ (X Z 0):=⟨_,rfl⟩
 have hz2:ab wz q 39 #[X Z 0,X Z 0,X Y 0,X Y 0,X Y 0]:=by
  rw[hwz]
  have hset:=((((((((((((((((hq2).set_ 0 (X Z 0)).set_ 1 (X Z 0)).set_ 2 (X Y 0)).set_ 3 (X Y 0)).set_ 4 (X Y 0)).far (p:=⟨q + 1,0,none⟩) (by show q≠q + 1;omega) (X Y 0)).far (p:=⟨q + 1,1,none⟩) (by show q≠q + 1;omega) (X Y 0)).far (p:=⟨q + 1,2,none⟩) (by show q≠q + 1;omega) (X Y 0)).far (p:=⟨q + 1,3,none⟩) (by show q≠q + 1;omega) (X Y 0)).far (p:=⟨q + 1,4,none⟩) (by show q≠q + 1;omega) (X Y 0)).far (p:=⟨q + 1,5,none⟩) (by show q≠q + 1;omega) (X Y 0)).far (p:=⟨q + 1,6,none⟩) (by show q≠q + 1;omega) (X Y 0)).far (p:=⟨q + 1,7,none⟩) (by show q≠q + 1;omega) (X Y 0)).far (p:=⟨q + 1,8,none⟩) (by show q≠q + 1;omega) (X Y 0)).far (p:=⟨q + 1,9,none⟩) (by show q≠q + 1;omega) (X Z 0)).far (p:=⟨q + 1,10,none⟩) (by show q≠q + 1;omega) (X Z 0)
  simp only[List.setIfInBounds_toArray,List.set_cons_zero,List.set_cons_succ] at hset
  exact hset
 have hz3:ab wz (q + 1) 132 #[X Y 0,X Y 0,X Y 0,X Y 0,X Y 0,X Y 0,X Y 0,X Y 0,X Y 0,X Z 0,X Z 0]:=by
  rw[hwz]
  have hset:=((((((((((((((((hq3).far (p:=⟨q,0,none⟩) (by show q + 1≠q;omega) (X Z 0)).far (p:=⟨q,1,none⟩) (by show q + 1≠q;omega) (X Z 0)).far (p:=⟨q,2,none⟩) (by show q + 1≠q;omega) (X Y 0)).far (p:=⟨q,3,none⟩) (by show q + 1≠q;omega) (X Y 0)).far (p:=⟨q,4,none⟩) (by show q + 1≠q;omega) (X Y 0)).set_ 0 (X Y 0)).set_ 1 (X Y 0)).set_ 2 (X Y 0)).set_ 3 (X Y 0)).set_ 4 (X Y 0)).set_ 5 (X Y 0)).set_ 6 (X Y 0)).set_ 7 (X Y 0)).set_ 8 (X Y 0)).set_ 9 (X Z 0)).set_ 10 (X Z 0)
  simp only[List.setIfInBounds_toArray,List.set_cons_zero,List.set_cons_succ] at hset
  exact hset
 have hBz:Below w.heap.size w wz:=by
  rw[hwz]
  exact((((((((((((((((hB).setCell (p:=⟨q,0,none⟩) (by rw[HQ.out];exact nR _) _).setCell (p:=⟨q,1,none⟩) (by rw[HQ.out];exact nR _) _).setCell (p:=⟨q,2,none⟩) (by rw[HQ.out];exact nR _) _).setCell (p:=⟨q,3,none⟩) (by rw[HQ.out];exact nR _) _).setCell (p:=⟨q,4,none⟩) (by rw[HQ.out];exact nR _) _).setCell (p:=⟨q + 1,0,none⟩) (by rw[HQ.out];exact nS _) _).setCell (p:=⟨q + 1,1,none⟩) (by rw[HQ.out];exact nS _) _).setCell (p:=⟨q + 1,2,none⟩) (by rw[HQ.out];exact nS _) _).setCell (p:=⟨q + 1,3,none⟩) (by rw[HQ.out];exact nS _) _).setCell (p:=⟨q + 1,4,none⟩) (by rw[HQ.out];exact nS _) _).setCell (p:=⟨q + 1,5,none⟩) (by rw[HQ.out];exact nS _) _).setCell (p:=⟨q + 1,6,none⟩) (by rw[HQ.out];exact nS _) _).setCell (p:=⟨q + 1,7,none⟩) (by rw[HQ.out];exact nS _) _).setCell (p:=⟨q + 1,8,none⟩) (by rw[HQ.out];exact nS _) _).setCell (p:=⟨q + 1,9,none⟩) (by rw[HQ.out];exact nS _) _).setCell (p:=⟨q + 1,10,none⟩) (by rw[HQ.out];exact nS _) _
 rw[←hwz]
 clear hwz
 obtain⟨ra0,ra1,ra2,ra3,ra4⟩:=hz2.c5
 obtain⟨rb0,rb1,rb2,rb3,rb4,rb5,rb6,rb7,rb8,rb9,rb10⟩:=hz3.c11
 exact bodyPost_ret (v:=tU #[aG #[X Z 0,X Z 0,X Y 0,X Y 0,X Y 0],aG #[X Y 0,X Y 0,X Y 0,X Y 0,X Y 0,X Y 0,X Y 0,X Y 0,X Y 0,X Z 0,X Z 0],G none 0 0,X Y r]) (by simp[results,results203,go_sem,ra0,ra1,ra2,ra3,ra4,rb0,rb1,rb2,rb3,rb4,rb5,rb6,rb7,rb8,rb9,rb10]) rfl ⟨HR.out _,hBz⟩
theorem kU {w:World}{l:List Nat}{r:Nat}(h:cB l=r)(h0:r≠0):∀w',iT l w (rT (tU #[aG #[X Z 0,X Z 0,X Y 0,X Y 0,X Y 0],aG #[X Y 0,X Y 0,X Y 0,X Y 0,X Y 0,X Y 0,X Y 0,X Y 0,X Y 0,X Z 0,X Z 0],G none 0 0,X Y r])) w':=fun w'=>.inr (by
 rw[h]
 exact⟨h0,rfl⟩)
theorem kX (A:Option Addr)(n c B:Nat)(l:List Nat)(w:World)(hr:Reads w B 1 A n (bv l))(hB0:B≤w.heap.size)(hn:n≤140737488355328)(hnc:n≤c)(ha:ay l)(hyes:cD l=0)(hc:iA l=false∨iA l=true∧(at' l 9≠6∧at' l 9≠17∨at' l 9=6∧fS (bO l)=false∨at' l 9=17∧fE (bO l)=false)):
  Calls Pg 203 #[G A n c] w fun e w'=>iT l w e w'∧Below w.heap.size w w':=by
 have CP:=jH (fun w' (hb:Below w.heap.size w w')=>lD A n c w'.heap.size l w' ((hr.below (hb.mono hB0)).more (nT hB0 hb.size)) (nR _) hn hnc ha)
 obtain⟨y0,y1,y2,y3,f,o,y6,y7,y8,y9,y10,hvals,hf,ho,h7,h9,h10⟩:∃y0 y1 y2 y3 f o y6 y7 y8 y9 y10:Nat,(fh l).vals=#[X Y y0,X Y y1,X Y y2,X Y y3,X Y f,X Y o,X Y y6,X Y y7,X Y y8,X Z y9,X Z y10]∧f=aR l 6 / 8192∧o=aR l 6 % 8192∧y7=at' l 9∧y9=dG l 12∧y10=dG l 16:=⟨_,_,_,_,_,_,_,_,_,_,_,rfl,rfl,rfl,rfl,rfl,rfl⟩
 have hfl:f < 65536:=by have:=dV ha 6;omega
 have hol:o < 65536:=by omega
 have CW:=jH (fun w'=>pQ y0 y1 y2 y3 f o y6 y7 y8 y9 y10 w' hfl hol)
 have hw1:ij f o=iA l:=by rw[hf,ho];rfl
 rw[hw1] at CW
 have HY:=jH (aI hyes (aI hvals h7))
 have hbz:(((0:Nat):Int) !=0)=false:=by decide
 have HBA:Hid (ay (bO l)):=(ha.take _).drop _
 have hbl:bX l - 4 * cE l≤140737488355328:=by have:=dV ha 2;unfold bX;omega
 obtain⟨m,hm⟩:∃m,m=bX l - 4 * cE l:=⟨_,rfl⟩
 rw[←hm] at hbl
 have HM:=jH hm
 have HC:=jH hc
 clear hr hyes hvals hf ho h7 h9 h10 hw1 hfl hol hm hc
 go_enter func203,ntmps203
 go_wp2_with fail
 have hq2:=(ab.new w 39 #[X Z 0,X Z 0,X Y 0,X Y 0,X Y 0]).alloc (cL #[X Y 0,X Y 0,X Y 0,X Y 0,X Y 0,X Y 0,X Y 0,X Y 0,X Y 0,X Z 0,X Z 0] 132)
 have hq3:ab ((w.alloc (cL #[X Z 0,X Z 0,X Y 0,X Y 0,X Y 0] 39)).alloc (cL #[X Y 0,X Y 0,X Y 0,X Y 0,X Y 0,X Y 0,X Y 0,X Y 0,X Y 0,X Z 0,X Z 0] 132)) (w.heap.size + 1) 132 #[X Y 0,X Y 0,X Y 0,X Y 0,X Y 0,X Y 0,X Y 0,X Y 0,X Y 0,X Z 0,X Z 0]:=ab.new_ (by simp)
 have hB:=((bR w.heap.size w).alloc (nR _) (cL #[X Z 0,X Z 0,X Y 0,X Y 0,X Y 0] 39)).alloc (by simp) (cL #[X Y 0,X Y 0,X Y 0,X Y 0,X Y 0,X Y 0,X Y 0,X Y 0,X Y 0,X Z 0,X Z 0] 132)
 refine(CP.out _ hB).mono ?_
 rintro e w1 ⟨hret,ae⟩
 obtain⟨A1,c1,rfl,hown⟩:=hret.yes HY.out.1
 rw[HY.out.2.1,←HM.out]
 rw[←HM.out] at hown
 have hq2:=hq2.below ae hq2.lt
 have hq3:=hq3.below ae hq3.lt
 have hB:=hB.trans (ae.mono hB.size)
 have hq2:=hq2.alloc (cL #[X Y y0,X Y y1,X Y y2,X Y y3,X Y f,X Y o,X Y y6,X Y y7,X Y y8,X Z y9,X Z y10] 132)
 have hq3:=hq3.alloc (cL #[X Y y0,X Y y1,X Y y2,X Y y3,X Y f,X Y o,X Y y6,X Y y7,X Y y8,X Z y9,X Z y10] 132)
 have hB:=hB.alloc hB.size (cL #[X Y y0,X Y y1,X Y y2,X Y y3,X Y f,X Y o,X Y y6,X Y y7,X Y y8,X Z y9,X Z y10] 132)
 have hq6:=ab.new w1 132 #[X Y y0,X Y y1,X Y y2,X Y y3,X Y f,X Y o,X Y y6,X Y y7,X Y y8,X Z y9,X Z y10]
 have hown:=hown.alloc (cL #[X Y y0,X Y y1,X Y y2,X Y y3,X Y f,X Y o,X Y y6,X Y y7,X Y y8,X Z y9,X Z y10] 132)
 clear hret ae CP
 obtain⟨q,hq⟩:∃q,q=w.heap.size:=⟨_,rfl⟩
 rw[←hq] at hq2 hq3⊢
 have HQ:=jH hq
 clear hq
 go_wp2_with fail
 refine(CW.out _).mono ?_
 rintro e w2 ⟨rfl,af⟩
 have hq2:=hq2.below af hq2.lt
 have hq3:=hq3.below af hq3.lt
 have hq6:=hq6.below af hq6.lt
 have hown:=aJ hown af
 have hB:=hB.trans (af.mono hB.size)
 clear af CW
 have hc7:=hq6.cell 7
 simp only[ga,gz,gN] at hc7
 rcases HC.out with hwh|⟨hwh,⟨hp6,hp17⟩|⟨hp,htc⟩|⟨hp,htc⟩⟩
 all_goals rw[hwh]
 case' inl=>
  have HR:=jH (kU (w:=w) (l:=l) (r:=6) (by unfold cB;rw[if_neg (fun h=>h HY.out.1),if_pos hwh]) (by decide))
  clear hq6 hown hbl HBA hc7 hwh
 case' inr.inl=>
  have HR:=jH (kU (w:=w) (l:=l) (r:=8) (by unfold cB;rw[if_neg (fun h=>h HY.out.1),if_neg (by rw[hwh];decide),if_neg hp6,if_neg hp17]) (by decide))
  have hb6:((y7:Int)==6)=false:=by have:=HY.out.2.2;simp;omega
  have hb17:((y7:Int)==17)=false:=by have:=HY.out.2.2;simp;omega
  clear hq6 hown hbl HBA hwh hp6 hp17
 case' inr.inr.inl=>
  have HR:=jH (kU (w:=w) (l:=l) (r:=9) (by unfold cB;rw[if_neg (fun h=>h HY.out.1),if_neg (by rw[hwh];decide),if_pos hp,htc];rfl) (by decide))
  have hb6:((y7:Int)==6)=true:=by have:=HY.out.2.2;simp;omega
  have CT:=jH (qq A1 m c1 w2.heap.size (bO l) w2 (Reads.of_own hown) hbl HBA.out)
  rw[htc] at CT
  clear hq6 hown hbl HBA hwh hp htc
  go_wp2_with fail
  refine CT.out.mono ?_
  rintro e w' ⟨rfl,rfl⟩
  clear CT
 case' inr.inr.inr=>
  have HR:=jH (kU (w:=w) (l:=l) (r:=9) (by unfold cB;rw[if_neg (fun h=>h HY.out.1),if_neg (by rw[hwh];decide),if_neg (by omega),if_pos hp,htc];rfl) (by decide))
  have hb6:((y7:Int)==6)=false:=by have:=HY.out.2.2;simp;omega
  have hb17:((y7:Int)==17)=true:=by have:=HY.out.2.2;simp;omega
  have CT:=jH (pV A1 m c1 w2.heap.size (bO l) w2 (Reads.of_own hown) (nR _) hbl (rC hown) HBA.out)
  rw[htc] at CT
  clear hq6 hown hbl HBA hwh hp htc
  go_wp2_with fail
  refine CT.out.mono ?_
  rintro e w3 ⟨rfl,al⟩
  have hq2:=hq2.below al hq2.lt
  have hq3:=hq3.below al hq3.lt
  have hB:=hB.trans (al.mono hB.size)
  clear al CT
  obtain⟨w2,hww⟩:∃w,w=w3:=⟨_,rfl⟩
  subst hww
 all_goals
  obtain⟨ta0,ta1,ta2,ta3,ta4⟩:=hq2.c5
  obtain⟨tf0,tf1,tf2,tf3,tf4⟩:=hq2.f5
  obtain⟨ha0,ha1,ha2,ha3,ha4,ha5,ha6,ha7,ha8,ha9,ha10⟩:=hq3.c11
  obtain⟨hf0,hf1,hf2,hf3,hf4,hf5,hf6,hf7,hf8,hf9,hf10⟩:=hq3.f11
  go_wp2_with fail
  obtain⟨wz,hwz⟩:∃wz,wz=((((((((((((((((w2).setCell ⟨q,0,none⟩ (X Z 0)).setCell ⟨q,1,none⟩ (X Z 0)).setCell ⟨q,2,none⟩ (X Y 0)).setCell ⟨q,3,none⟩ (X Y 0)).setCell ⟨q,4,none⟩ (X Y 0)).setCell ⟨q + 1,0,none⟩ (X Y 0)).setCell ⟨q + 1,1,none⟩ (X Y 0)).setCell ⟨q + 1,2,none⟩ (X Y 0)).setCell ⟨q + 1,3,none⟩ (X Y 0)).setCell ⟨q + 1,4,none⟩ (X Y 0)).setCell ⟨q + 1,5,none⟩ (X Y 0)).setCell ⟨q + 1,6,none⟩ (X Y 0)).setCell ⟨q + 1,7,none⟩ (X Y 0)).setCell ⟨q + 1,8,none⟩ (X Y 0)).setCell ⟨q + 1,9,none⟩ (X Z 0)).setCell ⟨q + 1,10,none⟩ (X Z 0):=⟨_,rfl⟩
  have hz2:ab wz q 39 #[X Z 0,X Z 0,X Y 0,X Y 0,X Y 0]:=by
   rw[hwz]
   have hset:=((((((((((((((((hq2).set_ 0 (X Z 0)).set_ 1 (X Z 0)).set_ 2 (X Y 0)).set_ 3 (X Y 0)).set_ 4 (X Y 0)).far (p:=⟨q + 1,0,none⟩) (by show q≠q + 1;omega) (X Y 0)).far (p:=⟨q + 1,1,none⟩) (by show q≠q + 1;omega) (X Y 0)).far (p:=⟨q + 1,2,none⟩) (by show q≠q + 1;omega) (X Y 0)).far (p:=⟨q + 1,3,none⟩) (by show q≠q + 1;omega) (X Y 0)).far (p:=⟨q + 1,4,none⟩) (by show q≠q + 1;omega) (X Y 0)).far (p:=⟨q + 1,5,none⟩) (by show q≠q + 1;omega) (X Y 0)).far (p:=⟨q + 1,6,none⟩) (by show q≠q + 1;omega) (X Y 0)).far (p:=⟨q + 1,7,none⟩) (by show q≠q + 1;omega) (X Y 0)).far (p:=⟨q + 1,8,none⟩) (by show q≠q + 1;omega) (X Y 0)).far (p:=⟨q + 1,9,none⟩) (by show q≠q + 1;omega) (X Z 0)).far (p:=⟨q + 1,10,none⟩) (by show q≠q + 1;omega) (X Z 0)
   simp only[List.setIfInBounds_toArray,List.set_cons_zero,List.set_cons_succ] at hset
   exact hset
  have hz3:ab wz (q + 1) 132 #[X Y 0,X Y 0,X Y 0,X Y 0,X Y 0,X Y 0,X Y 0,X Y 0,X Y 0,X Z 0,X Z 0]:=by
   rw[hwz]
   have hset:=((((((((((((((((hq3).far (p:=⟨q,0,none⟩) (by show q + 1≠q;omega) (X Z 0)).far (p:=⟨q,1,none⟩) (by show q + 1≠q;omega) (X Z 0)).far (p:=⟨q,2,none⟩) (by show q + 1≠q;omega) (X Y 0)).far (p:=⟨q,3,none⟩) (by show q + 1≠q;omega) (X Y 0)).far (p:=⟨q,4,none⟩) (by show q + 1≠q;omega) (X Y 0)).set_ 0 (X Y 0)).set_ 1 (X Y 0)).set_ 2 (X Y 0)).set_ 3 (X Y 0)).set_ 4 (X Y 0)).set_ 5 (X Y 0)).set_ 6 (X Y 0)).set_ 7 (X Y 0)).set_ 8 (X Y 0)).set_ 9 (X Z 0)).set_ 10 (X Z 0)
   simp only[List.setIfInBounds_toArray,List.set_cons_zero,List.set_cons_succ] at hset
   exact hset
  have hBz:Below w.heap.size w wz:=by
   rw[hwz]
   exact((((((((((((((((hB).setCell (p:=⟨q,0,none⟩) (by rw[HQ.out];exact nR _) _).setCell (p:=⟨q,1,none⟩) (by rw[HQ.out];exact nR _) _).setCell (p:=⟨q,2,none⟩) (by rw[HQ.out];exact nR _) _).setCell (p:=⟨q,3,none⟩) (by rw[HQ.out];exact nR _) _).setCell (p:=⟨q,4,none⟩) (by rw[HQ.out];exact nR _) _).setCell (p:=⟨q + 1,0,none⟩) (by rw[HQ.out];exact nS _) _).setCell (p:=⟨q + 1,1,none⟩) (by rw[HQ.out];exact nS _) _).setCell (p:=⟨q + 1,2,none⟩) (by rw[HQ.out];exact nS _) _).setCell (p:=⟨q + 1,3,none⟩) (by rw[HQ.out];exact nS _) _).setCell (p:=⟨q + 1,4,none⟩) (by rw[HQ.out];exact nS _) _).setCell (p:=⟨q + 1,5,none⟩) (by rw[HQ.out];exact nS _) _).setCell (p:=⟨q + 1,6,none⟩) (by rw[HQ.out];exact nS _) _).setCell (p:=⟨q + 1,7,none⟩) (by rw[HQ.out];exact nS _) _).setCell (p:=⟨q + 1,8,none⟩) (by rw[HQ.out];exact nS _) _).setCell (p:=⟨q + 1,9,none⟩) (by rw[HQ.out];exact nS _) _).setCell (p:=⟨q + 1,10,none⟩) (by rw[HQ.out];exact nS _) _
  rw[←hwz]
  clear hwz
  obtain⟨ra0,ra1,ra2,ra3,ra4⟩:=hz2.c5
  obtain⟨rb0,rb1,rb2,rb3,rb4,rb5,rb6,rb7,rb8,rb9,rb10⟩:=hz3.c11
  first
   |exact bodyPost_ret (v:=tU #[aG #[X Z 0,X Z 0,X Y 0,X Y 0,X Y 0],aG #[X Y 0,X Y 0,X Y 0,X Y 0,X Y 0,X Y 0,X Y 0,X Y 0,X Y 0,X Z 0,X Z 0],G none 0 0,X Y 6]) (by simp[results,results203,go_sem,ra0,ra1,ra2,ra3,ra4,rb0,rb1,rb2,rb3,rb4,rb5,rb6,rb7,rb8,rb9,rb10]) rfl ⟨HR.out _,hBz⟩
   |exact bodyPost_ret (v:=tU #[aG #[X Z 0,X Z 0,X Y 0,X Y 0,X Y 0],aG #[X Y 0,X Y 0,X Y 0,X Y 0,X Y 0,X Y 0,X Y 0,X Y 0,X Y 0,X Z 0,X Z 0],G none 0 0,X Y 8]) (by simp[results,results203,go_sem,ra0,ra1,ra2,ra3,ra4,rb0,rb1,rb2,rb3,rb4,rb5,rb6,rb7,rb8,rb9,rb10]) rfl ⟨HR.out _,hBz⟩
   |exact bodyPost_ret (v:=tU #[aG #[X Z 0,X Z 0,X Y 0,X Y 0,X Y 0],aG #[X Y 0,X Y 0,X Y 0,X Y 0,X Y 0,X Y 0,X Y 0,X Y 0,X Y 0,X Z 0,X Z 0],G none 0 0,X Y 9]) (by simp[results,results203,go_sem,ra0,ra1,ra2,ra3,ra4,rb0,rb1,rb2,rb3,rb4,rb5,rb6,rb7,rb8,rb9,rb10]) rfl ⟨HR.out _,hBz⟩
theorem pL (A:Option Addr)(n c B:Nat)(l:List Nat)(w:World)(hr:Reads w B 1 A n (bv l))(hB0:B≤w.heap.size)(hn:n≤140737488355328)(hnc:n≤c)(ha:ay l)(hyes:cD l=0)(hc:iA l=true∧(at' l 9=6∧fS (bO l)=true∨at' l 9=17∧fE (bO l)=true)):
  Calls Pg 203 #[G A n c] w fun e w'=>iT l w e w'∧Below w.heap.size w w':=by
 have CP:=jH (fun w' (hb:Below w.heap.size w w')=>lD A n c w'.heap.size l w' ((hr.below (hb.mono hB0)).more (nT hB0 hb.size)) (nR _) hn hnc ha)
 obtain⟨y0,y1,y2,y3,f,o,y6,y7,y8,y9,y10,hvals,hf,ho,h7,h9,h10⟩:∃y0 y1 y2 y3 f o y6 y7 y8 y9 y10:Nat,(fh l).vals=#[X Y y0,X Y y1,X Y y2,X Y y3,X Y f,X Y o,X Y y6,X Y y7,X Y y8,X Z y9,X Z y10]∧f=aR l 6 / 8192∧o=aR l 6 % 8192∧y7=at' l 9∧y9=dG l 12∧y10=dG l 16:=⟨_,_,_,_,_,_,_,_,_,_,_,rfl,rfl,rfl,rfl,rfl,rfl⟩
 obtain⟨s0,hs0⟩:∃s0,s0=aR (bO l) 0:=⟨_,rfl⟩
 obtain⟨s2,hs2⟩:∃s2,s2=aR (bO l) 2:=⟨_,rfl⟩
 have HS:=jH (aI hs0 hs2)
 have HTU:Hid ((eu l).vals=#[X Z y9,X Z y10,X Y y7,X Y s0,X Y s2]):=by
  show _=_
  rw[hs0,hs2,h7,h9,h10]
  rfl
 clear hs0 hs2
 have hfl:f < 65536:=by have:=dV ha 6;omega
 have hol:o < 65536:=by omega
 have CW:=jH (fun w'=>pQ y0 y1 y2 y3 f o y6 y7 y8 y9 y10 w' hfl hol)
 have hw1:ij f o=iA l:=by rw[hf,ho];rfl
 rw[hw1] at CW
 have HY:=jH (aI hyes (aI hvals h7))
 have hbz:(((0:Nat):Int) !=0)=false:=by decide
 have HBA:Hid (ay (bO l)):=(ha.take _).drop _
 have hbl:bX l - 4 * cE l≤140737488355328:=by have:=dV ha 2;unfold bX;omega
 obtain⟨m,hm⟩:∃m,m=bX l - 4 * cE l:=⟨_,rfl⟩
 rw[←hm] at hbl
 have HM:=jH hm
 have HC:=jH hc
 clear hr hyes hvals hf ho h7 h9 h10 hw1 hfl hol hm hc
 go_enter func203,ntmps203
 go_wp2_with fail
 have hq2:=(ab.new w 39 #[X Z 0,X Z 0,X Y 0,X Y 0,X Y 0]).alloc (cL #[X Y 0,X Y 0,X Y 0,X Y 0,X Y 0,X Y 0,X Y 0,X Y 0,X Y 0,X Z 0,X Z 0] 132)
 have hq3:ab ((w.alloc (cL #[X Z 0,X Z 0,X Y 0,X Y 0,X Y 0] 39)).alloc (cL #[X Y 0,X Y 0,X Y 0,X Y 0,X Y 0,X Y 0,X Y 0,X Y 0,X Y 0,X Z 0,X Z 0] 132)) (w.heap.size + 1) 132 #[X Y 0,X Y 0,X Y 0,X Y 0,X Y 0,X Y 0,X Y 0,X Y 0,X Y 0,X Z 0,X Z 0]:=ab.new_ (by simp)
 have hB:=((bR w.heap.size w).alloc (nR _) (cL #[X Z 0,X Z 0,X Y 0,X Y 0,X Y 0] 39)).alloc (by simp) (cL #[X Y 0,X Y 0,X Y 0,X Y 0,X Y 0,X Y 0,X Y 0,X Y 0,X Y 0,X Z 0,X Z 0] 132)
 refine(CP.out _ hB).mono ?_
 rintro e w1 ⟨hret,ae⟩
 obtain⟨A1,c1,rfl,hown⟩:=hret.yes HY.out.1
 rw[HY.out.2.1,←HM.out]
 rw[←HM.out] at hown
 have hq2:=hq2.below ae hq2.lt
 have hq3:=hq3.below ae hq3.lt
 have hB:=hB.trans (ae.mono hB.size)
 have hq2':=hq2
 have hq3':=hq3
 have hq2:=hq2.alloc (cL #[X Y y0,X Y y1,X Y y2,X Y y3,X Y f,X Y o,X Y y6,X Y y7,X Y y8,X Z y9,X Z y10] 132)
 have hq3:=hq3.alloc (cL #[X Y y0,X Y y1,X Y y2,X Y y3,X Y f,X Y o,X Y y6,X Y y7,X Y y8,X Z y9,X Z y10] 132)
 have hB:=hB.alloc hB.size (cL #[X Y y0,X Y y1,X Y y2,X Y y3,X Y f,X Y o,X Y y6,X Y y7,X Y y8,X Z y9,X Z y10] 132)
 have HQ6:Hid (w.heap.size < w1.heap.size∧w.heap.size + 1 < w1.heap.size):=⟨by have:=hq2'.lt;omega,by have:=hq3'.lt;omega⟩
 have HBASE:Hid (w.heap.size≤((w.alloc (cL #[X Z 0,X Z 0,X Y 0,X Y 0,X Y 0] 39)).alloc (cL #[X Y 0,X Y 0,X Y 0,X Y 0,X Y 0,X Y 0,X Y 0,X Y 0,X Y 0,X Z 0,X Z 0] 132)).heap.size):=by show _≤_;simp;omega
 have hq6:=ab.new w1 132 #[X Y y0,X Y y1,X Y y2,X Y y3,X Y f,X Y o,X Y y6,X Y y7,X Y y8,X Z y9,X Z y10]
 have hown:=hown.alloc (cL #[X Y y0,X Y y1,X Y y2,X Y y3,X Y f,X Y o,X Y y6,X Y y7,X Y y8,X Z y9,X Z y10] 132)
 clear hret ae CP
 obtain⟨q,hq⟩:∃q,q=w.heap.size:=⟨_,rfl⟩
 rw[←hq] at hq2 hq3 HQ6⊢
 clear hq2' hq3'
 have HQ:=jH hq
 clear hq
 go_wp2_with fail
 refine(CW.out _).mono ?_
 rintro e w2 ⟨rfl,af⟩
 have hq2:=hq2.below af hq2.lt
 have hq3:=hq3.below af hq3.lt
 have hq6:=hq6.below af hq6.lt
 have hown:=aJ hown af
 have hB:=hB.trans (af.mono hB.size)
 clear af CW
 have hc7:=hq6.cell 7
 simp only[ga,gz,gN] at hc7
 rw[HC.out.1]
 rcases HC.out.2 with⟨hp,htc⟩|⟨hp,htc⟩
 case' inl=>
  have HT:Hid (cB l=0):=by show _=_;unfold cB;rw[if_neg (fun h=>h HY.out.1),if_neg (by rw[HC.out.1];decide),if_pos hp,if_pos htc]
  have HLEN:Hid (8≤(bO l).length):=by have:20≤(bO l).length:=(of_decide_eq_true htc).1;show _≤_;omega
  have hb6:((y7:Int)==6)=true:=by have:=HY.out.2.2;simp;omega
  have CT:=jH (qq A1 m c1 w2.heap.size (bO l) w2 (Reads.of_own hown) hbl HBA.out)
  rw[htc] at CT
  clear hp htc
  go_wp2_with fail
  refine CT.out.mono ?_
  rintro e w' ⟨rfl,rfl⟩
  clear CT
 case' inr=>
  have HT:Hid (cB l=0):=by show _=_;unfold cB;rw[if_neg (fun h=>h HY.out.1),if_neg (by rw[HC.out.1];decide),if_neg (by omega),if_pos hp,if_pos htc]
  have HLEN:Hid (8≤(bO l).length):=(of_decide_eq_true htc).1
  have hb6:((y7:Int)==6)=false:=by have:=HY.out.2.2;simp;omega
  have hb17:((y7:Int)==17)=true:=by have:=HY.out.2.2;simp;omega
  have CT:=jH (pV A1 m c1 w2.heap.size (bO l) w2 (Reads.of_own hown) (nR _) hbl (rC hown) HBA.out)
  rw[htc] at CT
  clear hp htc
  go_wp2_with fail
  refine CT.out.mono ?_
  rintro e w3 ⟨rfl,al⟩
  have hq2:=hq2.below al hq2.lt
  have hq3:=hq3.below al hq3.lt
  have hq6:=hq6.below al hq6.lt
  have hown:=aJ hown al
  have hB:=hB.trans (al.mono hB.size)
  clear al CT hc7
  obtain⟨w2,hww⟩:∃w,w=w3:=⟨_,rfl⟩
  subst hww
  have hc7:=hq6.cell 7
  simp only[ga,gz,gN] at hc7
 all_goals
  obtain⟨g,hA1,hg1,hg2⟩:=fy hown (by have:=HLEN.out;have:=(Reads.of_own hown).length;omega)
  have CN:=jH (ja A1 m c1 w2.heap.size (bO l) w2 (Reads.of_own hown) (nR _) hbl (fun h=>by rw[h] at hA1;cases hA1))
  have hlm:=(Reads.of_own hown).length
  have HL:=jH (aI hlm HLEN.out)
  have CU:=jH (fun p j w' (hj:j + 2≤(bO l).length)=>mM p j (bO l) w' hj (by omega) HBA.out)
  clear hA1 hg1 hg2 hlm HLEN HBA
  go_wp2_with fail
  refine CN.out.mono ?_
  rintro e w3 ⟨p,rfl,hpp,hrb,al⟩
  clear CN
  obtain⟨-,-,-,-,-,-,-,-,-,hc9,hc10⟩:=(hq6.below al hq6.lt).c11
  have hc7:=(hq6.below al hq6.lt).cell 7
  simp only[ga,gz,gN] at hc7
  go_wp2_with fail
  obtain⟨qt,hqt⟩:∃qt,qt=w3.heap.size:=⟨_,rfl⟩
  have hpt:p < qt:=by rw[hqt];exact hrb.lt
  have hT:=ab.new w3 39 #[X Z y9,X Z y10,X Y y7,X Y 0,X Y 0]
  have hbb:Below w2.heap.size w2 (w3.alloc (cL #[X Z y9,X Z y10,X Y y7,X Y 0,X Y 0] 39)):=al.alloc al.size _
  have hrb0:aD (w3.alloc (cL #[X Z y9,X Z y10,X Y y7,X Y 0,X Y 0] 39)) p ((bO l).drop 0):=hrb.below ((bR _ _).alloc (nR _) _)
  have hqs:w2.heap.size≤qt:=by rw[hqt];exact al.size
  rw[←hqt] at hT⊢
  have HQT:=jH hqt
  obtain⟨w4,hw4⟩:∃w4,w4=w3.alloc (cL #[X Z y9,X Z y10,X Y y7,X Y 0,X Y 0] 39):=⟨_,rfl⟩
  rw[←hw4] at hT hbb hrb0⊢
  clear hqt hrb al hw4
  refine(CU.out p 0 w4 (by have:=HL.out;omega) hrb0).mono ?_
  rintro e w5 ⟨rfl,hrb2,hg⟩
  rw[←HS.out.1]
  have hT:=hT.grown hg (by intro h;cases h;omega)
  have hbb:=hbb.grown hg hbb.size (fun k hk=>by cases hk;exact hpp)
  have tf3:=hT.frozen 3
  have tc3:=hT.cell 3
  have tf4:=hT.frozen 4
  have tc4:=hT.cell 4
  simp only[ga,gz,gN] at tc3 tc4
  clear hg hrb0
  go_wp2_with fail
  have hT5:=hT.set_ 3 (X Y s0)
  simp only[List.setIfInBounds_toArray,List.set_cons_zero,List.set_cons_succ] at hT5
  have hb56:Below qt w5 (w5.setCell ⟨qt,3,none⟩ (X Y s0)):=(bR _ _).setCell (p:=⟨qt,3,none⟩) (nR _) _
  have hrb2:=hrb2.behind hb56 hpt
  have hbb:=hbb.trans (hb56.mono hqs)
  clear hT hb56 tf3 tc3 tf4 tc4
  obtain⟨w6,hw6⟩:∃w6,w6=w5.setCell ⟨qt,3,none⟩ (X Y s0):=⟨_,rfl⟩
  rw[←hw6] at hT5 hrb2 hbb⊢
  clear hw6
  refine(CU.out p 2 w6 (by have:=HL.out;omega) hrb2).mono ?_
  rintro e w7 ⟨rfl,hrb4,hg⟩
  rw[←HS.out.2]
  have hT:=hT5.grown hg (by intro h;cases h;omega)
  have hbb:=hbb.grown hg hbb.size (fun k hk=>by cases hk;exact hpp)
  have tf4:=hT.frozen 4
  have tc4:=hT.cell 4
  simp only[ga,gz,gN] at tc4
  clear hg hrb2 hrb4
  go_wp2_with fail
  have hT8:=hT.set_ 4 (X Y s2)
  simp only[List.setIfInBounds_toArray,List.set_cons_zero,List.set_cons_succ] at hT8
  have hb78:Below qt w7 (w7.setCell ⟨qt,4,none⟩ (X Y s2)):=(bR _ _).setCell (p:=⟨qt,4,none⟩) (nR _) _
  have hbb:=hbb.trans (hb78.mono hqs)
  obtain⟨w8,hw8⟩:∃w8,w8=w7.setCell ⟨qt,4,none⟩ (X Y s2):=⟨_,rfl⟩
  rw[←hw8] at hT8 hbb⊢
  clear hw8 hb78 hT tf4 tc4 CU hpp hpt HQT
  have n2:=hq2.lt
  have n3:=hq3.lt
  have n6:=hq6.lt
  have hq2:=hq2.below hbb hq2.lt
  have hq3:=hq3.below hbb hq3.lt
  have hq6':=hq6.below hbb hq6.lt
  have hown:=gB (aJ hown hbb) HBASE.out
  clear HBASE
  have hB:=hB.trans (hbb.mono hB.size)
  obtain⟨q6,hq6e⟩:∃q6,q6=w1.heap.size:=⟨_,rfl⟩
  rw[←hq6e] at hq6' n6⊢
  have e1:¬q6=q:=by rw[hq6e];have:=HQ6.out.1;omega
  have e2:¬q6=q + 1:=by rw[hq6e];have:=HQ6.out.2;omega
  have e3:¬qt=q:=by omega
  have e4:¬qt=q + 1:=by omega
  have e5:¬q=q6:=fun h=>e1 h.symm
  have e6:¬q + 1=q6:=fun h=>e2 h.symm
  have e7:¬q=qt:=fun h=>e3 h.symm
  have e8:¬q + 1=qt:=fun h=>e4 h.symm
  clear hq6 hq6e hbb n2 n3 n6 hqs HQ6
  obtain⟨u0,u1,u2,u3,u4⟩:=hT8.c5
  obtain⟨v0,v1,v2,v3,v4,v5,v6,v7,v8,v9,v10⟩:=hq6'.c11
  obtain⟨ff0,ff1,ff2,ff3,ff4⟩:=hq2.f5
  obtain⟨gg0,gg1,gg2,gg3,gg4,gg5,gg6,gg7,gg8,gg9,gg10⟩:=hq3.f11
  obtain⟨fc0,fc1,fc2,fc3,fc4⟩:=hq2.c5
  obtain⟨gc0,gc1,gc2,gc3,gc4,gc5,gc6,gc7,gc8,gc9,gc10⟩:=hq3.c11
  go_region
  go_wp2_with fail
  have O0:=hown
  have KA0:=hq2
  have KB0:=hq3
  have O1:=aB O0 KA0 (by decide) 0 (X Z y9)
  have KA1:=KA0.set_ 0 (X Z y9)
  have KB1:=KB0.far (p:=⟨q,0,none⟩) (by show q + 1≠q;omega) (X Z y9)
  clear O0
  have O2:=aB O1 KA1 (by decide) 1 (X Z y10)
  have KA2:=KA1.set_ 1 (X Z y10)
  have KB2:=KB1.far (p:=⟨q,1,none⟩) (by show q + 1≠q;omega) (X Z y10)
  clear O1
  have O3:=aB O2 KA2 (by decide) 2 (X Y y7)
  have KA3:=KA2.set_ 2 (X Y y7)
  have KB3:=KB2.far (p:=⟨q,2,none⟩) (by show q + 1≠q;omega) (X Y y7)
  clear O2
  have O4:=aB O3 KA3 (by decide) 3 (X Y s0)
  have KA4:=KA3.set_ 3 (X Y s0)
  have KB4:=KB3.far (p:=⟨q,3,none⟩) (by show q + 1≠q;omega) (X Y s0)
  clear O3
  have O5:=aB O4 KA4 (by decide) 4 (X Y s2)
  have KA5:=KA4.set_ 4 (X Y s2)
  have KB5:=KB4.far (p:=⟨q,4,none⟩) (by show q + 1≠q;omega) (X Y s2)
  clear O4
  have O6:=aB O5 KB5 (by decide) 0 (X Y y0)
  have KB6:=KB5.set_ 0 (X Y y0)
  clear O5
  have O7:=aB O6 KB6 (by decide) 1 (X Y y1)
  have KB7:=KB6.set_ 1 (X Y y1)
  clear O6
  have O8:=aB O7 KB7 (by decide) 2 (X Y y2)
  have KB8:=KB7.set_ 2 (X Y y2)
  clear O7
  have O9:=aB O8 KB8 (by decide) 3 (X Y y3)
  have KB9:=KB8.set_ 3 (X Y y3)
  clear O8
  have O10:=aB O9 KB9 (by decide) 4 (X Y f)
  have KB10:=KB9.set_ 4 (X Y f)
  clear O9
  have O11:=aB O10 KB10 (by decide) 5 (X Y o)
  have KB11:=KB10.set_ 5 (X Y o)
  clear O10
  have O12:=aB O11 KB11 (by decide) 6 (X Y y6)
  have KB12:=KB11.set_ 6 (X Y y6)
  clear O11
  have O13:=aB O12 KB12 (by decide) 7 (X Y y7)
  have KB13:=KB12.set_ 7 (X Y y7)
  clear O12
  have O14:=aB O13 KB13 (by decide) 8 (X Y y8)
  have KB14:=KB13.set_ 8 (X Y y8)
  clear O13
  have O15:=aB O14 KB14 (by decide) 9 (X Z y9)
  have KB15:=KB14.set_ 9 (X Z y9)
  clear O14
  have O16:=aB O15 KB15 (by decide) 10 (X Z y10)
  have KB16:=KB15.set_ 10 (X Z y10)
  clear O15
  obtain⟨wz,hwz⟩:∃wz,wz=(((((((((((((((((w8).setCell ⟨q,0,none⟩ (X Z y9)).setCell ⟨q,1,none⟩ (X Z y10)).setCell ⟨q,2,none⟩ (X Y y7)).setCell ⟨q,3,none⟩ (X Y s0)).setCell ⟨q,4,none⟩ (X Y s2)).setCell ⟨q + 1,0,none⟩ (X Y y0)).setCell ⟨q + 1,1,none⟩ (X Y y1)).setCell ⟨q + 1,2,none⟩ (X Y y2)).setCell ⟨q + 1,3,none⟩ (X Y y3)).setCell ⟨q + 1,4,none⟩ (X Y f)).setCell ⟨q + 1,5,none⟩ (X Y o)).setCell ⟨q + 1,6,none⟩ (X Y y6)).setCell ⟨q + 1,7,none⟩ (X Y y7)).setCell ⟨q + 1,8,none⟩ (X Y y8)).setCell ⟨q + 1,9,none⟩ (X Z y9)).setCell ⟨q + 1,10,none⟩ (X Z y10)).drew:=⟨_,rfl⟩
  have hz2:ab wz q 39 #[X Z y9,X Z y10,X Y y7,X Y s0,X Y s2]:=by
   rw[hwz]
   have hset:=((((((((((((((((hq2).set_ 0 (X Z y9)).set_ 1 (X Z y10)).set_ 2 (X Y y7)).set_ 3 (X Y s0)).set_ 4 (X Y s2)).far (p:=⟨q + 1,0,none⟩) (by show q≠q + 1;omega) (X Y y0)).far (p:=⟨q + 1,1,none⟩) (by show q≠q + 1;omega) (X Y y1)).far (p:=⟨q + 1,2,none⟩) (by show q≠q + 1;omega) (X Y y2)).far (p:=⟨q + 1,3,none⟩) (by show q≠q + 1;omega) (X Y y3)).far (p:=⟨q + 1,4,none⟩) (by show q≠q + 1;omega) (X Y f)).far (p:=⟨q + 1,5,none⟩) (by show q≠q + 1;omega) (X Y o)).far (p:=⟨q + 1,6,none⟩) (by show q≠q + 1;omega) (X Y y6)).far (p:=⟨q + 1,7,none⟩) (by show q≠q + 1;omega) (X Y y7)).far (p:=⟨q + 1,8,none⟩) (by show q≠q + 1;omega) (X Y y8)).far (p:=⟨q + 1,9,none⟩) (by show q≠q + 1;omega) (X Z y9)).far (p:=⟨q + 1,10,none⟩) (by show q≠q + 1;omega) (X Z y10)
   simp only[List.setIfInBounds_toArray,List.set_cons_zero,List.set_cons_succ] at hset
   exact hset.drew
  have hz3:ab wz (q + 1) 132 #[X Y y0,X Y y1,X Y y2,X Y y3,X Y f,X Y o,X Y y6,X Y y7,X Y y8,X Z y9,X Z y10]:=by
   rw[hwz]
   have hset:=((((((((((((((((hq3).far (p:=⟨q,0,none⟩) (by show q + 1≠q;omega) (X Z y9)).far (p:=⟨q,1,none⟩) (by show q + 1≠q;omega) (X Z y10)).far (p:=⟨q,2,none⟩) (by show q + 1≠q;omega) (X Y y7)).far (p:=⟨q,3,none⟩) (by show q + 1≠q;omega) (X Y s0)).far (p:=⟨q,4,none⟩) (by show q + 1≠q;omega) (X Y s2)).set_ 0 (X Y y0)).set_ 1 (X Y y1)).set_ 2 (X Y y2)).set_ 3 (X Y y3)).set_ 4 (X Y f)).set_ 5 (X Y o)).set_ 6 (X Y y6)).set_ 7 (X Y y7)).set_ 8 (X Y y8)).set_ 9 (X Z y9)).set_ 10 (X Z y10)
   simp only[List.setIfInBounds_toArray,List.set_cons_zero,List.set_cons_succ] at hset
   exact hset.drew
  have hBz:Below w.heap.size w wz:=by
   rw[hwz]
   exact(((((((((((((((((hB).setCell (p:=⟨q,0,none⟩) (by rw[HQ.out];exact nR _) _).setCell (p:=⟨q,1,none⟩) (by rw[HQ.out];exact nR _) _).setCell (p:=⟨q,2,none⟩) (by rw[HQ.out];exact nR _) _).setCell (p:=⟨q,3,none⟩) (by rw[HQ.out];exact nR _) _).setCell (p:=⟨q,4,none⟩) (by rw[HQ.out];exact nR _) _).setCell (p:=⟨q + 1,0,none⟩) (by rw[HQ.out];exact nS _) _).setCell (p:=⟨q + 1,1,none⟩) (by rw[HQ.out];exact nS _) _).setCell (p:=⟨q + 1,2,none⟩) (by rw[HQ.out];exact nS _) _).setCell (p:=⟨q + 1,3,none⟩) (by rw[HQ.out];exact nS _) _).setCell (p:=⟨q + 1,4,none⟩) (by rw[HQ.out];exact nS _) _).setCell (p:=⟨q + 1,5,none⟩) (by rw[HQ.out];exact nS _) _).setCell (p:=⟨q + 1,6,none⟩) (by rw[HQ.out];exact nS _) _).setCell (p:=⟨q + 1,7,none⟩) (by rw[HQ.out];exact nS _) _).setCell (p:=⟨q + 1,8,none⟩) (by rw[HQ.out];exact nS _) _).setCell (p:=⟨q + 1,9,none⟩) (by rw[HQ.out];exact nS _) _).setCell (p:=⟨q + 1,10,none⟩) (by rw[HQ.out];exact nS _) _).drew
  have hownz:wz.ownsRow w.heap.size 5 1 (G A1 m c1) m (bv (bO l)):=by
   rw[hwz]
   exact iZ O16
  rw[←hwz]
  clear hwz
  obtain⟨ra0,ra1,ra2,ra3,ra4⟩:=hz2.c5
  obtain⟨rb0,rb1,rb2,rb3,rb4,rb5,rb6,rb7,rb8,rb9,rb10⟩:=hz3.c11
  exact bodyPost_ret (v:=tU #[aG #[X Z y9,X Z y10,X Y y7,X Y s0,X Y s2],aG #[X Y y0,X Y y1,X Y y2,X Y y3,X Y f,X Y o,X Y y6,X Y y7,X Y y8,X Z y9,X Z y10],G A1 m c1,X Y 0]) (by simp[results,results203,go_sem,ra0,ra1,ra2,ra3,ra4,rb0,rb1,rb2,rb3,rb4,rb5,rb6,rb7,rb8,rb9,rb10]) rfl ⟨by
   left
   refine⟨HT.out,A1,c1,?_,?_⟩
   ·rw[HTU.out,HY.out.2.1,←HM.out]
   ·rw[←HM.out];exact hownz,hBz⟩
theorem pM (A:Option Addr)(n c B:Nat)(l:List Nat)(w:World)(hr:Reads w B 1 A n (bv l))(hB0:B≤w.heap.size)(hn:n≤140737488355328)(hnc:n≤c)(ha:ay l):
  Calls Pg 203 #[G A n c] w fun e w'=>iT l w e w'∧Below w.heap.size w w':=by
 by_cases hy:cD l=0
 ·cases hwh:iA l with
  |false=>exact kX A n c B l w hr hB0 hn hnc ha hy (.inl hwh)
  |true=>
   by_cases h6:at' l 9=6
   ·cases htc:fS (bO l) with
    |false=>exact kX A n c B l w hr hB0 hn hnc ha hy (.inr ⟨hwh,.inr (.inl ⟨h6,htc⟩)⟩)
    |true=>exact pL A n c B l w hr hB0 hn hnc ha hy ⟨hwh,.inl ⟨h6,htc⟩⟩
   ·by_cases h17:at' l 9=17
    ·cases htc:fE (bO l) with
     |false=>exact kX A n c B l w hr hB0 hn hnc ha hy (.inr ⟨hwh,.inr (.inr ⟨h17,htc⟩)⟩)
     |true=>exact pL A n c B l w hr hB0 hn hnc ha hy ⟨hwh,.inr ⟨h17,htc⟩⟩
    ·exact kX A n c B l w hr hB0 hn hnc ha hy (.inr ⟨hwh,.inl ⟨h6,h17⟩⟩)
 ·exact uE A n c B l w hr hB0 hn hnc ha hy
def dW (l:List Nat):Tu:=if cB l=0 then eu l else mW
def dq (l:List Nat):Hd:=if cB l=0 then fh l else dc
theorem iT.names {l:List Nat}{w w':World}{e:Ending}(h:iT l w e w'):
  ∃(t0 t1:Nat) (t2 t3 t4 y0 y1 y2 y3 y4 y5 y6 y7 y8:Int) (y9 y10:Nat) (A:Option Addr) (m c:Nat),
   e=rT (tU #[aG #[X Z t0,X Z t1,X Y t2,X Y t3,X Y t4],aG #[X Y y0,X Y y1,X Y y2,X Y y3,X Y y4,X Y y5,X Y y6,X Y y7,X Y y8,X Z y9,X Z y10],G A m c,X Y (cB l:Nat)])∧(dW l).vals=#[X Z t0,X Z t1,X Y t2,X Y t3,X Y t4]∧(dq l).vals=#[X Y y0,X Y y1,X Y y2,X Y y3,X Y y4,X Y y5,X Y y6,X Y y7,X Y y8,X Z y9,X Z y10]∧
   (cB l=0→m=bX l - 4 * cE l∧w'.ownsRow w.heap.size 5 1 (G A m c) m (bv (bO l))):=by
 rcases h with⟨h0,A,c,rfl,ho⟩|⟨h0,rfl⟩
 ·have hT:dW l=eu l:=if_pos h0
  have hH:dq l=fh l:=if_pos h0
  refine⟨(dW l).src,(dW l).dst,(dW l).proto,(dW l).sport,(dW l).dport,(dq l).ihl,(dq l).tos,(dq l).len,(dq l).id,(dq l).flags,(dq l).off,(dq l).ttl,(dq l).proto,(dq l).sum,(dq l).src,(dq l).dst,A,bX l - 4 * cE l,c,?_,rfl,rfl,fun _=>⟨rfl,ho⟩⟩
  rw[h0,←hT,←hH]
  rfl
 ·have hT:dW l=mW:=if_neg h0
  have hH:dq l=dc:=if_neg h0
  refine⟨(dW l).src,(dW l).dst,(dW l).proto,(dW l).sport,(dW l).dport,(dq l).ihl,(dq l).tos,(dq l).len,(dq l).id,(dq l).flags,(dq l).off,(dq l).ttl,(dq l).proto,(dq l).sum,(dq l).src,(dq l).dst,none,0,0,?_,rfl,rfl,fun h=>absurd h h0⟩
  rw[←hT,←hH]
  rfl
theorem nw (A:Option Addr)(n c B:Nat)(l:List Nat)(w:World)(hr:Reads w B 1 A n (bv l))(hB0:B≤w.heap.size)(hn:n≤140737488355328)(hnc:n≤c)(ha:ay l):
  Calls Pg 102 #[G A n c] w fun e w'=>e=rT (tU #[.agg (dW l).vals,.agg (dq l).vals,X Y (cB l:Nat)])∧Below w.heap.size w w':=by
 have CP:=jH (fun w' (hb:Below w.heap.size w w')=>pM A n c w'.heap.size l w' ((hr.below (hb.mono hB0)).more (nT hB0 hb.size)) (nR _) hn hnc ha)
 obtain⟨r,hrr⟩:∃r,r=cB l:=⟨_,rfl⟩
 have HRR:=jH hrr
 clear hr hrr
 go_enter func102,ntmps102
 go_wp2_with fail
 have hq2:=(ab.new w 39 #[X Z 0,X Z 0,X Y 0,X Y 0,X Y 0]).alloc (cL #[X Y 0,X Y 0,X Y 0,X Y 0,X Y 0,X Y 0,X Y 0,X Y 0,X Y 0,X Z 0,X Z 0] 132)
 have hq3:ab ((w.alloc (cL #[X Z 0,X Z 0,X Y 0,X Y 0,X Y 0] 39)).alloc (cL #[X Y 0,X Y 0,X Y 0,X Y 0,X Y 0,X Y 0,X Y 0,X Y 0,X Y 0,X Z 0,X Z 0] 132)) (w.heap.size + 1) 132 #[X Y 0,X Y 0,X Y 0,X Y 0,X Y 0,X Y 0,X Y 0,X Y 0,X Y 0,X Z 0,X Z 0]:=ab.new_ (by simp)
 have hB:=((bR w.heap.size w).alloc (nR _) (cL #[X Z 0,X Z 0,X Y 0,X Y 0,X Y 0] 39)).alloc (by simp) (cL #[X Y 0,X Y 0,X Y 0,X Y 0,X Y 0,X Y 0,X Y 0,X Y 0,X Y 0,X Z 0,X Z 0] 132)
 refine(CP.out _ hB).mono ?_
 rintro e w1 ⟨hret,ae⟩
 obtain⟨t0,t1,t2,t3,t4,y0,y1,y2,y3,y4,y5,y6,y7,y8,y9,y10,A1,m,c1,rfl,htu,hhd,_⟩:=hret.names
 rw[←HRR.out]
 have HX:=jH (aI htu hhd)
 have n2:=hq2.lt
 have n3:=hq3.lt
 have hs1:=ae.size
 have hq2:=(hq2.below ae hq2.lt)
 have hq3:=(hq3.below ae hq3.lt)
 have hB:=hB.trans (ae.mono hB.size)
 clear hret ae CP htu hhd
 obtain⟨q,hq⟩:∃q,q=w.heap.size:=⟨_,rfl⟩
 rw[←hq] at hq2 hq3 n2 n3⊢
 have HQ:=jH hq
 clear hq
 have hq5:=(ab.new w1 39 #[X Z t0,X Z t1,X Y t2,X Y t3,X Y t4]).alloc (cL #[X Y y0,X Y y1,X Y y2,X Y y3,X Y y4,X Y y5,X Y y6,X Y y7,X Y y8,X Z y9,X Z y10] 132)
 have hq6:ab ((w1.alloc (cL #[X Z t0,X Z t1,X Y t2,X Y t3,X Y t4] 39)).alloc (cL #[X Y y0,X Y y1,X Y y2,X Y y3,X Y y4,X Y y5,X Y y6,X Y y7,X Y y8,X Z y9,X Z y10] 132)) (w1.heap.size + 1) 132 #[X Y y0,X Y y1,X Y y2,X Y y3,X Y y4,X Y y5,X Y y6,X Y y7,X Y y8,X Z y9,X Z y10]:=ab.new_ (by simp)
 have hB:=(hB.alloc hB.size (cL #[X Z t0,X Z t1,X Y t2,X Y t3,X Y t4] 39)).alloc (by have:=hB.size;simp;omega) (cL #[X Y y0,X Y y1,X Y y2,X Y y3,X Y y4,X Y y5,X Y y6,X Y y7,X Y y8,X Z y9,X Z y10] 132)
 have hq2:=(hq2.alloc (cL #[X Z t0,X Z t1,X Y t2,X Y t3,X Y t4] 39)).alloc (cL #[X Y y0,X Y y1,X Y y2,X Y y3,X Y y4,X Y y5,X Y y6,X Y y7,X Y y8,X Z y9,X Z y10] 132)
 have hq3:=(hq3.alloc (cL #[X Z t0,X Z t1,X Y t2,X Y t3,X Y t4] 39)).alloc (cL #[X Y y0,X Y y1,X Y y2,X Y y3,X Y y4,X Y y5,X Y y6,X Y y7,X Y y8,X Z y9,X Z y10] 132)
 go_wp2_with fail
 obtain⟨w8,hw8⟩:∃w8,w8=(w1.alloc (cL #[X Z t0,X Z t1,X Y t2,X Y t3,X Y t4] 39)).alloc (cL #[X Y y0,X Y y1,X Y y2,X Y y3,X Y y4,X Y y5,X Y y6,X Y y7,X Y y8,X Z y9,X Z y10] 132):=⟨_,rfl⟩
 rw[←hw8] at hq2 hq3 hq5 hq6 hB⊢
 clear hw8
 obtain⟨q5,hq5e⟩:∃q5,q5=w1.heap.size:=⟨_,rfl⟩
 have m1:q + 1 < q5:=by rw[hq5e];omega
 rw[←hq5e] at hq5 hq6⊢
 have e1:¬q5=q:=by omega
 have e2:¬q5=q + 1:=by omega
 have e5:¬q=q5:=by omega
 have e6:¬q + 1=q5:=by omega
 have e3:¬q5 + 1=q:=by omega
 have e7:¬q=q5 + 1:=by omega
 clear hq5e m1 n2 n3 hs1
 obtain⟨u0,u1,u2,u3,u4⟩:=hq5.c5
 obtain⟨v0,v1,v2,v3,v4,v5,v6,v7,v8,v9,v10⟩:=hq6.c11
 obtain⟨ff0,ff1,ff2,ff3,ff4⟩:=hq2.f5
 obtain⟨gg0,gg1,gg2,gg3,gg4,gg5,gg6,gg7,gg8,gg9,gg10⟩:=hq3.f11
 obtain⟨fc0,fc1,fc2,fc3,fc4⟩:=hq2.c5
 obtain⟨gc0,gc1,gc2,gc3,gc4,gc5,gc6,gc7,gc8,gc9,gc10⟩:=hq3.c11
 go_region
 go_wp2_with fail
 obtain⟨wz,hwz⟩:∃wz,wz=(((((((((((((((((w8).setCell ⟨q,0,none⟩ (X Z t0)).setCell ⟨q,1,none⟩ (X Z t1)).setCell ⟨q,2,none⟩ (X Y t2)).setCell ⟨q,3,none⟩ (X Y t3)).setCell ⟨q,4,none⟩ (X Y t4)).setCell ⟨q + 1,0,none⟩ (X Y y0)).setCell ⟨q + 1,1,none⟩ (X Y y1)).setCell ⟨q + 1,2,none⟩ (X Y y2)).setCell ⟨q + 1,3,none⟩ (X Y y3)).setCell ⟨q + 1,4,none⟩ (X Y y4)).setCell ⟨q + 1,5,none⟩ (X Y y5)).setCell ⟨q + 1,6,none⟩ (X Y y6)).setCell ⟨q + 1,7,none⟩ (X Y y7)).setCell ⟨q + 1,8,none⟩ (X Y y8)).setCell ⟨q + 1,9,none⟩ (X Z y9)).setCell ⟨q + 1,10,none⟩ (X Z y10)).drew:=⟨_,rfl⟩
 have hz2:ab wz q 39 #[X Z t0,X Z t1,X Y t2,X Y t3,X Y t4]:=by
  rw[hwz]
  have hset:=((((((((((((((((hq2).set_ 0 (X Z t0)).set_ 1 (X Z t1)).set_ 2 (X Y t2)).set_ 3 (X Y t3)).set_ 4 (X Y t4)).far (p:=⟨q + 1,0,none⟩) (by show q≠q + 1;omega) (X Y y0)).far (p:=⟨q + 1,1,none⟩) (by show q≠q + 1;omega) (X Y y1)).far (p:=⟨q + 1,2,none⟩) (by show q≠q + 1;omega) (X Y y2)).far (p:=⟨q + 1,3,none⟩) (by show q≠q + 1;omega) (X Y y3)).far (p:=⟨q + 1,4,none⟩) (by show q≠q + 1;omega) (X Y y4)).far (p:=⟨q + 1,5,none⟩) (by show q≠q + 1;omega) (X Y y5)).far (p:=⟨q + 1,6,none⟩) (by show q≠q + 1;omega) (X Y y6)).far (p:=⟨q + 1,7,none⟩) (by show q≠q + 1;omega) (X Y y7)).far (p:=⟨q + 1,8,none⟩) (by show q≠q + 1;omega) (X Y y8)).far (p:=⟨q + 1,9,none⟩) (by show q≠q + 1;omega) (X Z y9)).far (p:=⟨q + 1,10,none⟩) (by show q≠q + 1;omega) (X Z y10)
  simp only[List.setIfInBounds_toArray,List.set_cons_zero,List.set_cons_succ] at hset
  exact hset.drew
 have hz3:ab wz (q + 1) 132 #[X Y y0,X Y y1,X Y y2,X Y y3,X Y y4,X Y y5,X Y y6,X Y y7,X Y y8,X Z y9,X Z y10]:=by
  rw[hwz]
  have hset:=((((((((((((((((hq3).far (p:=⟨q,0,none⟩) (by show q + 1≠q;omega) (X Z t0)).far (p:=⟨q,1,none⟩) (by show q + 1≠q;omega) (X Z t1)).far (p:=⟨q,2,none⟩) (by show q + 1≠q;omega) (X Y t2)).far (p:=⟨q,3,none⟩) (by show q + 1≠q;omega) (X Y t3)).far (p:=⟨q,4,none⟩) (by show q + 1≠q;omega) (X Y t4)).set_ 0 (X Y y0)).set_ 1 (X Y y1)).set_ 2 (X Y y2)).set_ 3 (X Y y3)).set_ 4 (X Y y4)).set_ 5 (X Y y5)).set_ 6 (X Y y6)).set_ 7 (X Y y7)).set_ 8 (X Y y8)).set_ 9 (X Z y9)).set_ 10 (X Z y10)
  simp only[List.setIfInBounds_toArray,List.set_cons_zero,List.set_cons_succ] at hset
  exact hset.drew
 have hBz:Below w.heap.size w wz:=by
  rw[hwz]
  exact(((((((((((((((((hB).setCell (p:=⟨q,0,none⟩) (by rw[HQ.out];exact nR _) _).setCell (p:=⟨q,1,none⟩) (by rw[HQ.out];exact nR _) _).setCell (p:=⟨q,2,none⟩) (by rw[HQ.out];exact nR _) _).setCell (p:=⟨q,3,none⟩) (by rw[HQ.out];exact nR _) _).setCell (p:=⟨q,4,none⟩) (by rw[HQ.out];exact nR _) _).setCell (p:=⟨q + 1,0,none⟩) (by rw[HQ.out];exact nS _) _).setCell (p:=⟨q + 1,1,none⟩) (by rw[HQ.out];exact nS _) _).setCell (p:=⟨q + 1,2,none⟩) (by rw[HQ.out];exact nS _) _).setCell (p:=⟨q + 1,3,none⟩) (by rw[HQ.out];exact nS _) _).setCell (p:=⟨q + 1,4,none⟩) (by rw[HQ.out];exact nS _) _).setCell (p:=⟨q + 1,5,none⟩) (by rw[HQ.out];exact nS _) _).setCell (p:=⟨q + 1,6,none⟩) (by rw[HQ.out];exact nS _) _).setCell (p:=⟨q + 1,7,none⟩) (by rw[HQ.out];exact nS _) _).setCell (p:=⟨q + 1,8,none⟩) (by rw[HQ.out];exact nS _) _).setCell (p:=⟨q + 1,9,none⟩) (by rw[HQ.out];exact nS _) _).setCell (p:=⟨q + 1,10,none⟩) (by rw[HQ.out];exact nS _) _).drew
 rw[←hwz]
 clear hwz
 obtain⟨ra0,ra1,ra2,ra3,ra4⟩:=hz2.c5
 obtain⟨rb0,rb1,rb2,rb3,rb4,rb5,rb6,rb7,rb8,rb9,rb10⟩:=hz3.c11
 exact bodyPost_ret (v:=tU #[aG #[X Z t0,X Z t1,X Y t2,X Y t3,X Y t4],aG #[X Y y0,X Y y1,X Y y2,X Y y3,X Y y4,X Y y5,X Y y6,X Y y7,X Y y8,X Z y9,X Z y10],X Y r]) (by simp[results,results102,go_sem,ra0,ra1,ra2,ra3,ra4,rb0,rb1,rb2,rb3,rb4,rb5,rb6,rb7,rb8,rb9,rb10]) rfl ⟨by rw[HX.out.1,HX.out.2,←HRR.out],hBz⟩
theorem Ec (h:Hd)(r:List Nat):aR (bW h++r) 6=eD h:=by
 rw[iC (by rw[gK];omega)]
 have hf:eD h < 65536:=by unfold eD;omega
 unfold bW aR at';rw[gY]
 show eD h / 256 % 256 * 256 + eD h % 256=_
 omega
theorem D9 (h:Hd)(r:List Nat):at' (bW h++r) 8=ai h.ttl % 256:=by
 rw[ic (by rw[gK];omega)]
 unfold bW at';rw[gY];rfl
theorem oZ (h:Hd)(r:List Nat):at' (bW h++r) 9=ai h.proto % 256:=by
 rw[ic (by rw[gK];omega)]
 unfold bW at';rw[gY];rfl
theorem Ea (h:Hd)(r:List Nat)(hs:h.src < 4294967296):dG (bW h++r) 12=h.src:=by
 rw[lU (by rw[gK];omega)]
 unfold bW dG aR at';rw[gY]
 show (h.src / 16777216 % 256 * 256 + h.src / 65536 % 256) * 65536 + (h.src / 256 % 256 * 256 + h.src % 256)=h.src
 omega
theorem Ed (h:Hd)(r:List Nat)(hs:h.dst < 4294967296):dG (bW h++r) 16=h.dst:=by
 rw[lU (by rw[gK];omega)]
 unfold bW dG aR at';rw[gY]
 show (h.dst / 16777216 % 256 * 256 + h.dst / 65536 % 256) * 65536 + (h.dst / 256 % 256 * 256 + h.dst % 256)=h.dst
 omega
theorem pP (h:Hd)(P:List Nat)(hL:ai h.len % 65536=20 + P.length):
  cB (bW h++P)=if ij (eD h / 8192) (eD h % 8192)=false then 6 else if ai h.proto % 256=6 then (if fS P=true then 0 else 9) else if ai h.proto % 256=17 then (if fE P=true then 0 else 9) else 8:=by
 have hw:cD (bW h++P)=0:=by rw[pO h P (by omega),if_neg (by omega)]
 have hb:bO (bW h++P)=P:=by rw[pc h P P.length hL,List.take_length]
 unfold cB iA
 rw[hw,hb,Ec,oZ,if_neg (by simp)]
theorem vq (h:Hd)(P:List Nat)(hL:ai h.len % 65536=20 + P.length)(hs:h.src < 4294967296)(hd:h.dst < 4294967296):
  eu (bW h++P)=⟨h.src,h.dst,(ai h.proto % 256:Nat),(aR P 0:Nat),(aR P 2:Nat)⟩:=by
 have hb:bO (bW h++P)=P:=by rw[pc h P P.length hL,List.take_length]
 unfold eu
 rw[hb,Ea h P hs,Ed h P hd,oZ]
theorem jE (k:Tu)(flags:Int)(l:List Nat):(cR k flags l).length=(if k.proto=6 then 20 else 8) + l.length:=by
 unfold cR
 split
 ·simp[gT,en];omega
 ·simp[eY,en];omega
theorem zJ (k:Tu)(flags:Int)(l:List Nat)(h:ay l):ay (cR k flags l):=by
 unfold cR
 split
 ·refine(((jU _).append (jU _)).append ?_).append h
  intro x hx
  simp at hx
  omega
 ·refine((((jU _).append (jU _)).append (jU _)).append ?_).append h
  intro x hx
  simp at hx
  omega
theorem zM (k:Tu)(ttl flags:Int)(l:List Nat):(cW k ttl flags l).length=20 + ((if k.proto=6 then 20 else 8) + l.length):=by
 unfold cW
 rw[List.length_append,gK,jE]
theorem zP (k:Tu)(ttl flags:Int)(l:List Nat)(h:ay l):ay (cW k ttl flags l):=(Ef _).append (zJ k flags l h)
theorem jF (k:Tu)(ttl:Int)(L:Nat)(hL:L < 60000):ai (gX k ttl L).len % 65536=20 + L:=by
 show ai (20 + (L:Int)) % 65536=_
 unfold ai;omega
theorem zN (k:Tu)(ttl flags:Int)(l:List Nat)(h:l.length≤50000):bX (cW k ttl flags l)=(cW k ttl flags l).length:=by
 have e:=jE k flags l
 have hL:(cR k flags l).length < 60000:=by rw[e];split<;>omega
 unfold cW
 rw[Eb,jF k ttl _ hL,List.length_append,gK]
theorem zK (k:Tu)(ttl flags:Int)(l:List Nat)(h:l.length≤50000):cD (cW k ttl flags l)=0:=by
 have e:=jE k flags l
 have hL:(cR k flags l).length < 60000:=by rw[e];split<;>omega
 unfold cW
 rw[pO _ _ (by rw[jF k ttl _ hL];omega),jF k ttl _ hL,if_neg (by omega)]
theorem zO (k:Tu)(ttl flags:Int)(l:List Nat)(h:l.length≤50000):bO (cW k ttl flags l)=cR k flags l:=by
 have e:=jE k flags l
 have hL:(cR k flags l).length < 60000:=by rw[e];split<;>omega
 unfold cW
 rw[pc _ _ _ (jF k ttl _ hL),List.take_length]
theorem zL (k:Tu)(ttl flags:Int)(l:List Nat):at' (cW k ttl flags l) 8=ai ttl % 256:=by
 unfold cW;rw[D9];rfl
theorem vC (k:Tu)(flags:Int)(l:List Nat):fS (gT k flags++l)=true:=by
 unfold fS
 refine decide_eq_true ?_
 have hl:(gT k flags++l).length=20 + l.length:=by simp[gT,en];omega
 have h12:at' (gT k flags++l) 12=80:=rfl
 rw[hl,h12]
 omega
theorem uO (k:Tu)(l:List Nat)(h:l.length≤50000):fE (eY k l.length++l)=true:=by
 unfold fE
 refine decide_eq_true ?_
 have hl:(eY k l.length++l).length=8 + l.length:=by simp[eY,en];omega
 have h4:aR (eY k l.length++l) 4=ai (8 + (l.length:Int)) / 256 % 256 * 256 + ai (8 + (l.length:Int)) % 256:=rfl
 have e:ai (8 + (l.length:Int))=8 + l.length:=by unfold ai;omega
 rw[hl,h4,e]
 omega
theorem uX (k:Tu)(flags:Int)(l:List Nat)(h:0≤k.sport∧k.sport≤65535):((aR (cR k flags l) 0:Nat):Int)=k.sport:=by
 have e:aR (cR k flags l) 0=ai k.sport / 256 % 256 * 256 + ai k.sport % 256:=by
  unfold cR;split<;>rfl
 rw[e]
 have:ai k.sport=k.sport.toNat:=by unfold ai;omega
 rw[this];omega
theorem uZ (k:Tu)(flags:Int)(l:List Nat)(h:0≤k.dport∧k.dport≤65535):((aR (cR k flags l) 2:Nat):Int)=k.dport:=by
 have e:aR (cR k flags l) 2=ai k.dport / 256 % 256 * 256 + ai k.dport % 256:=by
  unfold cR;split<;>rfl
 rw[e]
 have:ai k.dport=k.dport.toNat:=by unfold ai;omega
 rw[this];omega
theorem rW {k:Tu}(h:cP k=true):(k.proto=6∨k.proto=17)∧0≤k.sport∧k.sport≤65535∧0≤k.dport∧k.dport≤65535:=of_decide_eq_true h
theorem pX {k:Tu}(h:k.proto=6∨k.proto=17):((ai k.proto % 256:Nat):Int)=k.proto:=by
 rcases h with h|h<;>rw[h]<;>decide +kernel
theorem BZ (h:Hd)(hf:h.flags=0)(ho:h.off=0):eD h=0:=by unfold eD;rw[hf,ho];rfl
theorem se (k:Tu)(ttl flags:Int)(l:List Nat)(hk:bT k)(hm:cP k=true)(h:l.length≤50000):
  cB (cW k ttl flags l)=0∧eu (cW k ttl flags l)=k:=by
 obtain⟨hp,s0,s1,d0,d1⟩:=rW hm
 have e:=jE k flags l
 have hL:(cR k flags l).length < 60000:=by rw[e];split<;>omega
 have ax:=jF k ttl _ hL
 have hpr:=pX hp
 constructor
 ·unfold cW
  rw[pP _ _ ax]
  have hw:ij (eD (gX k ttl (cR k flags l).length) / 8192) (eD (gX k ttl (cR k flags l).length) % 8192)=true:=by
   rw[BZ _ rfl rfl];rfl
  rw[hw,if_neg (by decide)]
  have epr:(gX k ttl (cR k flags l).length).proto=k.proto:=rfl
  rw[epr]
  rcases hp with hp|hp
  ·rw[if_pos (by rw[hp];decide +kernel),show cR k flags l=gT k flags++l from if_pos hp,vC,if_pos rfl]
  ·rw[if_neg (by rw[hp];decide +kernel),if_pos (by rw[hp];decide +kernel),show cR k flags l=eY k l.length++l from if_neg (by rw[hp];decide),uO k l h,if_pos rfl]
 ·unfold cW
  rw[vq _ _ ax hk.src hk.dst]
  show (⟨k.src,k.dst,((ai k.proto % 256:Nat):Int),_,_⟩:Tu)=k
  rw[hpr,uX k flags l ⟨s0,s1⟩,uZ k flags l ⟨d0,d1⟩]
theorem zH (k:Tu)(ttl flags:Int)(l:List Nat)(hp:k.proto=6)(h:l.length≤50000):at' (bO (cW k ttl flags l)) 13=ai flags % 256:=by
 rw[zO k ttl flags l h,show cR k flags l=gT k flags++l from if_pos hp]
 rfl
theorem zF (k:Tu)(ttl flags:Int)(l:List Nat):at' (cW k ttl flags l) 9=ai k.proto % 256:=by
 unfold cW;rw[oZ];rfl
def ft (k:Tu)(l:List Nat):Bool:=decide (cB l=0∧k=eu l∧at' l 9=6∧at' (bO l) 13&&& 5≠0)
theorem Cp (k o:Tu)(ttl flags:Int)(l:List Nat)(hk:bT k)(hm:cP k=true)(h:l.length≤50000):
  ft o (cW k ttl flags l)=decide (o=k∧k.proto=6∧(ai flags % 256)&&& 5≠0):=by
 obtain⟨hy,ht⟩:=se k ttl flags l hk hm h
 have hp:=(rW hm).1
 unfold ft
 rw[decide_eq_decide,hy,ht,zF]
 by_cases h6:k.proto=6
 ·rw[zH k ttl flags l h6 h,h6]
  constructor
  ·rintro⟨_,h1,_,h2⟩;exact⟨h1,rfl,h2⟩
  ·rintro⟨h1,_,h2⟩;exact⟨rfl,h1,rfl,h2⟩
 ·constructor
  ·rintro⟨_,_,h1,_⟩
   have:=pX hp
   omega
  ·rintro⟨_,h1,_⟩;exact absurd h1 h6
theorem oG (l:List Nat):∃(y0 y1 y2 y3 y4 y5 y6 y7 y8:Int) (y9 y10:Nat),(dq l).vals=#[X Y y0,X Y y1,X Y y2,X Y y3,X Y y4,X Y y5,X Y y6,X Y y7,X Y y8,X Z y9,X Z y10]∧y2=(dq l).len∧y6=(dq l).ttl:=
 ⟨_,_,_,_,_,_,_,_,_,_,_,rfl,rfl,rfl⟩
theorem qd {l:List Nat}(h:cB l=0):dW l=eu l:=if_pos h
theorem uQ (x:Nat)(hx:x < 256):bits .and .u8 (x:Int) 5=((x&&& 5:Nat):Int):=
 (bits_nat .u8 8 (by decide) (fun n h0 h1=>by
  have e:(2:Int) ^ 8=256:=by decide
  rw[IntKind.wrap_u8]
  omega) x 5 (by omega) (by omega)).1
theorem uG {l:List Nat}(h:cB l=0)(h6:at' l 9=6):20≤(bO l).length:=by
 unfold cB at h
 split at h
 ·omega
 ·split at h
  ·omega
  ·split at h
   ·rename_i ht
    exact(of_decide_eq_true ht:_∧_).1
   ·omega
theorem th (k:Tu)(A:Option Addr)(n c B:Nat)(l:List Nat)(w:World)(hr:Reads w B 1 A n (bv l))(hB0:B≤w.heap.size)(hn:n≤140737488355328)(hnc:n≤c)(ha:ay l):
  Calls Pg 109 #[.agg k.vals,G A n c] w fun e w'=>e=rT (bL (ft k l))∧Below w.heap.size w w':=by
 have CP:=jH (fun w' (hb:Below w.heap.size w w')=>pM A n c w'.heap.size l w' ((hr.below (hb.mono hB0)).more (nT hB0 hb.size)) (nR _) hn hnc ha)
 obtain⟨r,hrr⟩:∃r,r=cB l:=⟨_,rfl⟩
 have HRR:=jH hrr
 obtain⟨src,dst,pr,sp,dp⟩:=k
 obtain⟨x,hx⟩:∃x,x=at' (bO l) 13:=⟨_,rfl⟩
 have hxl:x < 256:=by rw[hx];exact fR ((ha.take _).drop _) 13
 have hbx:=uQ x hxl
 obtain⟨z,hz⟩:∃z,z=x&&& 5:=⟨_,rfl⟩
 rw[←hz] at hbx
 have HX:=jH hx
 have HB0:=jH hB0
 have HE:Hid (∀b,(b=true↔r=0∧src=(eu l).src∧dst=(eu l).dst∧pr=(eu l).proto∧sp=(eu l).sport∧dp=(eu l).dport∧pr=6∧z≠0)→b=ft ⟨src,dst,pr,sp,dp⟩ l):=by
  intro b hb
  rw[Bool.eq_iff_iff,hb]
  unfold ft
  rw[decide_eq_true_eq,←hrr,←hx,←hz,Tu.mk.injEq]
  constructor
  ·rintro⟨a1,a2,a3,a4,a5,a6,a7,a8⟩
   exact⟨a1,⟨a2,a3,a4,a5,a6⟩,by have:(eu l).proto=((at' l 9:Nat):Int):=rfl;omega,a8⟩
  ·rintro⟨a1,⟨a2,a3,a4,a5,a6⟩,a7,a8⟩
   exact⟨a1,a2,a3,a4,a5,a6,by have:(eu l).proto=((at' l 9:Nat):Int):=rfl;omega,a8⟩
 unfold Tu.vals
 dsimp only
 clear hr hrr hx hz hxl hB0
 go_enter func109,ntmps109
 go_wp2_with fail
 refine(CP.out _ ((bR _ _).alloc (nR _) _)).mono ?_
 rintro e w1 ⟨hret,ae⟩
 obtain⟨t0,t1,t2,t3,t4,y0,y1,y2,y3,y4,y5,y6,y7,y8,y9,y10,A1,m,c1,rfl,htu,hhd,hy⟩:=hret.names
 have HTU:=jH htu
 rw[←HRR.out] at hy⊢
 have hk:=((ab.new w 39 #[X Z src,X Z dst,X Y pr,X Y sp,X Y dp]).below ae (by simp))
 have hBz:=(((bR w.heap.size w).alloc (nR _) (cL #[X Z src,X Z dst,X Y pr,X Y sp,X Y dp] 39)).trans (ae.mono (by simp)))
 have hs1:=hBz.size
 have HBz:=jH (fun C C'=>(hBz.alloc hs1 (.cells C 39)).alloc (by simp;omega) (.cells C' 132))
 obtain⟨q,hq⟩:∃q,q=w.heap.size:=⟨_,rfl⟩
 rw[←hq] at hk⊢
 have HQ:=jH hq
 have hk:=(hk.alloc (cL #[X Z t0,X Z t1,X Y t2,X Y t3,X Y t4] 39)).alloc (cL #[X Y y0,X Y y1,X Y y2,X Y y3,X Y y4,X Y y5,X Y y6,X Y y7,X Y y8,X Z y9,X Z y10] 132)
 obtain⟨k0,k1,k2,k3,k4⟩:=hk.c5
 have HF:Hid (∀b,(b=true↔r=0∧t0=src∧t1=dst∧t2=pr∧t3=sp∧t4=dp∧t2=6∧z≠0)→b=ft ⟨src,dst,pr,sp,dp⟩ l):=by
  intro b hb
  apply HE.out
  rw[hb]
  have hrr:=HRR.out
  by_cases h0:r=0
  ·rw[qd (by omega)] at htu
   unfold Tu.vals at htu
   simp only[Array.mk.injEq,List.cons.injEq,Value.int.injEq,true_and,and_true] at htu
   obtain⟨e0,e1,e2,e3,e4⟩:=htu
   constructor
   ·rintro⟨_,h1,h2,h3,h4,h5,h6,h7⟩;exact⟨h0,by omega,by omega,by omega,by omega,by omega,by omega,h7⟩
   ·rintro⟨_,h1,h2,h3,h4,h5,h6,h7⟩;exact⟨h0,by omega,by omega,by omega,by omega,by omega,by omega,h7⟩
  ·constructor
   ·rintro⟨h,_⟩;exact absurd h h0
   ·rintro⟨h,_⟩;exact absurd h h0
 have HP:Hid (r=0→t2=6→20≤(bO l).length):=by
  intro h0 h6
  have hrr:=HRR.out
  rw[qd (by omega)] at htu
  unfold Tu.vals at htu
  simp only[Array.mk.injEq,List.cons.injEq,Value.int.injEq,true_and,and_true] at htu
  obtain⟨e0,e1,e2,e3,e4⟩:=htu
  have e9:(eu l).proto=((at' l 9:Nat):Int):=rfl
  exact uG (by omega) (by omega)
 have HNO:Hid (∀b,b=false→¬(r=0∧t0=src∧t1=dst∧t2=pr∧t3=sp∧t4=dp∧t2=6∧z≠0)→b=ft ⟨src,dst,pr,sp,dp⟩ l):=by
  intro b hb hn
  apply HF.out
  subst hb
  constructor
  ·intro h;cases h
  ·intro h;exact absurd h hn
 clear ae CP hret hk hq htu hhd hBz hs1 HE
 by_cases h0:r=0
 ·have ao:((r:Int)==0)=true:=by simp[h0]
  by_cases heq:t0=src∧t1=dst∧t2=pr∧t3=sp∧t4=dp
  ·obtain⟨rfl,rfl,rfl,rfl,rfl⟩:=heq
   by_cases h6:t2=6
   ·have hb6:(t2==6)=true:=by simp[h6]
    obtain⟨hm,hown⟩:=hy h0
    have hlb:=HP.out h0 h6
    have hml:m=(bO l).length:=by have:=hown.1;rw[el] at this;omega
    obtain⟨g,rfl,_,_⟩:=fy hown (by omega)
    have hx0:=jA ((hown.alloc (cL #[X Z t0,X Z t1,X Y t2,X Y t3,X Y t4] 39)).alloc (cL #[X Y y0,X Y y1,X Y y2,X Y y3,X Y y4,X Y y5,X Y y6,X Y y7,X Y y8,X Z y9,X Z y10] 132)) 13 (by omega) (by omega)
    have e13:(bO l)[13]=x:=by rw[HX.out];unfold at';simp[List.getD_eq_getElem?_getD,List.getElem?_eq_getElem (show 13 < (bO l).length by omega)]
    rw[e13] at hx0
    have hm13:13 < m:=by omega
    have HH:=jH (aI h0 h6)
    clear hown hy hm hml hlb e13 h0 h6
    by_cases hz0:z=0
    ·have bz:(((z:Nat):Int)==0)=true:=by simp[hz0]
     have bz':(((z:Nat):Int) !=0)=false:=by simp[hz0]
     have HT:Hid (false=ft ⟨t0,t1,t2,t3,t4⟩ l):=HNO.out false rfl (by omega)
     clear hz0
     go_wp2_with fail
     go_ret
     exact⟨by rw[←HT.out];rfl,HBz.out _ _⟩
    ·have bz:(((z:Nat):Int)==0)=false:=by simp;omega
     have bz':(((z:Nat):Int) !=0)=true:=by simp;omega
     have HT:Hid (true=ft ⟨t0,t1,t2,t3,t4⟩ l):=HF.out true ⟨fun _=>⟨HH.out.1,rfl,rfl,rfl,rfl,rfl,HH.out.2,hz0⟩,fun _=>rfl⟩
     clear hz0
     go_wp2_with fail
     go_ret
     exact⟨by rw[←HT.out];rfl,HBz.out _ _⟩
   ·have hb6:(t2==6)=false:=by simp[h6]
    have HT:Hid (false=ft ⟨t0,t1,t2,t3,t4⟩ l):=HNO.out false rfl (by omega)
    clear hy h6 h0
    go_wp2_with fail
    go_ret
    exact⟨by rw[←HT.out];rfl,HBz.out _ _⟩
  ·have HH:=jH heq
   have HT:Hid (false=ft ⟨src,dst,pr,sp,dp⟩ l):=HNO.out false rfl (by omega)
   clear hy heq h0
   go_wp2_with fail
   all_goals first
    |exact absurd ⟨by omega,by omega,by omega,by omega,by omega⟩ HH.out
    |(go_ret;exact⟨by rw[←HT.out];rfl,HBz.out _ _⟩)
 ·have ao:((r:Int)==0)=false:=by simp[h0]
  have HT:Hid (false=ft ⟨src,dst,pr,sp,dp⟩ l):=HNO.out false rfl (by omega)
  clear hy h0
  go_wp2_with fail
  go_ret
  exact⟨by rw[←HT.out];rfl,HBz.out _ _⟩
theorem ui {w:World}{b off j:Nat}{l:List Nat}(h:∀j u,(bv l)[j]? =some u→w.cell? ⟨b,off + j,none⟩=some u)(hj:j < l.length):w.cell? ⟨b,off + j,none⟩=some (X .u8 (at' l j:Nat)):=by
 have:=h j _ (kL hj)
 rw[this]
 unfold at'
 simp[List.getD_eq_getElem?_getD,List.getElem?_eq_getElem hj]
theorem ay.set2 {l:List Nat}(h:ay l)(j y:Nat)(hy:y < 256):ay (l.set j y):=by
 intro x hx
 rcases List.mem_or_eq_of_mem_set hx with h1|h1
 ·exact h x h1
 ·omega
theorem uF {l:List Nat}(h:cD l=0):20≤l.length∧at' l 0 / 16=4∧5≤cE l∧4 * cE l≤l.length∧eh (l.take (4 * cE l))=0∧4 * cE l≤bX l∧bX l≤l.length:=by
 have h20:20≤l.length:=by
  rcases Nat.lt_or_ge l.length 20 with h1|h1
  ·rw[pN h1] at h;cases h
  ·exact h1
 have hc:=mB (l:=l) h20 rfl rfl rfl rfl rfl
 rw[h] at hc
 omega
def kj (l:List Nat):Nat:=jK (aR l 10) (aR l 8) (aR (l.set 8 (at' l 8 - 1)) 8)
def jD (l:List Nat):List Nat:=((l.set 8 (at' l 8 - 1)).set 10 (kj l / 256)).set 11 (kj l % 256)
theorem yN (l:List Nat):kj l < 65536:=Cd _ _ _
theorem uh {l:List Nat}{i y j:Nat}(h:i≠j):at' (l.set i y) j=at' l j:=by
 unfold at'
 simp[List.getD_eq_getElem?_getD,List.getElem?_set_ne h]
theorem EX {l:List Nat}{k j:Nat}(h:j < k):at' (l.take k) j=at' l j:=by
 unfold at'
 simp[List.getD_eq_getElem?_getD,List.getElem?_take_of_lt h]
def iG (l:List Nat)(self dest:Nat):Hd:=⟨0,(at' l 1:Nat),((bX l + 20:Nat):Int),(aR l 4:Nat),((aR l 6 / 8192 / 2 * 2:Nat):Int),0,64,4,0,self,dest⟩
def mA (l:List Nat)(self dest:Nat):List Nat:=bW (iG l self dest)++jD (l.take (bX l))
def gv (l:List Nat)(mtu:Int):Nat:=
 if cD l≠0 then cD l else if at' l 8≤1 then 7 else if ((bX l + 20:Nat):Int) > min mtu 2000 then 11 else 0
theorem uW (x y:Nat)(hx:x < 256)(hy:y < 256):bits .or .u16 ((x:Int) * 256) (y:Int)=((x * 256 + y:Nat):Int):=by
 have h:=(bits_nat .u16 16 (by decide) (fun n h0 h1=>by
  have e:(2:Int) ^ 16=65536:=by decide
  rw[IntKind.wrap_u16]
  omega) (x * 256) y (by omega) (by omega)).2
 rw[nat_join 8 (x * 256) y (by omega) (by omega)] at h
 exact h
theorem ny (A:Option Addr)(n c B:Nat)(l:List Nat)(j:Nat)(w:World)(hr:Reads w B 1 A n (bv l))(hj:j + 1 < n)(hn:n≤140737488355328)(ha:ay l):
  Calls Pg 321 #[G A n c,X Y j] w fun e w'=>e=rT (X .u16 (aR l j:Nat))∧Below w.heap.size w w':=by
 obtain⟨b,off,rfl,hb,hcell⟩:=hr.plain (by omega) (by omega)
 have ax:=hr.length
 have g0:=ui hcell (j:=j) (by omega)
 have g1:=ui hcell (j:=j + 1) (by omega)
 have hx:=fR ha j
 have hy:=fR ha (j + 1)
 have HE:Hid (aR l j=at' l j * 256 + at' l (j + 1)):=rfl
 generalize at' l j=x at *
 generalize at' l (j + 1)=y at *
 have hor:=uW x y hx hy
 have i0:(0:Int)≤(j:Int):=by omega
 have i1:(j:Int) < (n:Int):=by omega
 have i2:(j:Int) + 1 < (n:Int):=by omega
 have i3:IntKind.i64.wrap ((j:Int) + 1)=(j:Int) + 1:=IntWalk.i64_in _ (by omega)
 have i4:(0:Int)≤(j:Int) + 1:=by omega
 have i5:((j:Int) + 1).toNat=j + 1:=by omega
 clear hr hcell ax
 go_enter func321,ntmps321
 go_wp2_with fail
 go_quiet (fail)
 go_wp2_with fail
 go_ret
 exact⟨by rw[HE.out];rfl,⟨rfl,rfl,rfl,nR _,fun _ _=>rfl⟩⟩
theorem yM (A:Option Addr)(n c B:Nat)(l:List Nat)(w:World)(hr:Reads w B 1 A n (bv l))(hB:B≤w.heap.size)(h20:20≤n)(hn:n≤140737488355328)(ha:ay l)(h8:1≤at' l 8):
  Calls Pg 207 #[G A n c] w fun e w'=>∃A' c',e=rT (G A' n c')∧w'.ownsRow w.heap.size 5 1 (G A' n c') n (bv (jD l))∧Below w.heap.size w w':=by
 obtain⟨ad,rfl,_,_⟩:=hr.2 (by omega)
 have CC:=jH (jO (some ad) n c B l w hr hB hn (fun h=>by cases h))
 have ax:=hr.length
 obtain⟨x8,hx8⟩:∃x,x=at' l 8:=⟨_,rfl⟩
 have hx8l:x8 < 256:=by rw[hx8];exact fR ha 8
 obtain⟨y8,hy8,e8⟩:∃y:Nat,(x8:Int) - 1=(y:Int)∧y=x8 - 1:=⟨x8 - 1,by omega,rfl⟩
 have hs1:l.set 8 (at' l 8 - 1)=l.set 8 y8:=by rw[e8,hx8]
 have ha1:=ha.set2 8 y8 (by omega)
 have hl1:(l.set 8 y8).length=n:=by rw[List.length_set];exact ax
 have ht1:aR (l.set 8 y8) 10=aR l 10:=by unfold aR;rw[uh (by omega),uh (by omega)]
 obtain⟨z,hz⟩:∃z,z=kj l:=⟨_,rfl⟩
 have hz2:jK (aR l 10) (aR l 8) (aR (l.set 8 y8) 8)=z:=by rw[hz];unfold kj;rw[hs1]
 have z16:z < 65536:=by rw[hz];exact yN l
 have cz:jD l=((l.set 8 y8).set 10 (z / 256)).set 11 (z % 256):=by unfold jD;rw[hs1,←hz]
 have CF:=jH (fun w'=>Cc (aR l 10) (aR l 8) (aR (l.set 8 y8) 8) (dV ha 10) (dV ha 8) (dV ha1 8) w')
 rw[hz2] at CF
 have HA:=jH (aI ha ha1)
 have HLN:=jH (aI ax hl1)
 have HX:=jH hx8
 have HT:=jH ht1
 have HRES:=jH cz
 obtain⟨y1,e1,hy1⟩:∃y1:Nat,(z:Int) / 256=(y1:Int)∧y1=z / 256:=⟨z / 256,by omega,rfl⟩
 obtain⟨y2,e2,hy2⟩:∃y2:Nat,(z:Int) % 256=(y2:Int)∧y2=z % 256:=⟨z % 256,by omega,rfl⟩
 have HY:=jH (aI hy1 hy2)
 have h8':1≤x8:=by omega
 clear hr ha ax hx8 hs1 ha1 hl1 ht1 hz hz2 cz e8 hy1 hy2 h8
 go_enter func207,ntmps207
 go_wp2_with fail
 refine CC.out.mono ?_
 rintro e w1 ⟨A1,c1,rfl,aQ,ae⟩
 obtain⟨g,rfl,hg1,hg2⟩:=fy aQ (by omega)
 have CP:Hid (∀w',Below w1.heap.size w1 w'→Calls Pg 321 #[G (some ⟨g,0,none⟩) n c1,X Y 8] w' fun e w''=>e=rT (X .u16 (aR l 8:Nat))∧Below w'.heap.size w' w''):=
  fun w' hb=>ny (some ⟨g,0,none⟩) n c1 w1.heap.size l 8 w' ((Reads.of_own aQ).below hb) (by omega) hn HA.out.1
 have HO1:=jH aQ
 clear CC aQ
 go_wp2_with fail
 refine(CP.out w1 (bR _ _)).mono ?_
 rintro e w2 ⟨rfl,af⟩
 have bH:=aJ HO1.out af
 have hB2:=ae.trans (af.mono ae.size)
 have c8:=jA bH 8 (by omega) (by rw[HLN.out.1];omega)
 have f8:=bH.frozenAt 8
 have g8:l[8]'(by rw[HLN.out.1];omega)=x8:=by
  rw[HX.out]
  unfold at'
  rw[List.getD_eq_getElem?_getD,List.getElem?_eq_getElem (by rw[HLN.out.1];omega)]
  rfl
 rw[g8] at c8
 have hst:=kh bH 8 y8
 have hB3:=hB2.setCell (p:=⟨g,8,none⟩) hg1 (X .u8 y8)
 have HS:=jH (aI hst hB3)
 clear bH ae af hst hB3 CP HO1 g8 hB2
 go_wp2_with fail
 obtain⟨w3,hw3⟩:∃w3,w3=w2.setCell ⟨g,8,none⟩ (X .u8 y8):=⟨_,rfl⟩
 rw[←hw3] at HS⊢
 clear hw3 c8 f8
 have CPa:Hid (Calls Pg 321 #[G (some ⟨g,0,none⟩) n c1,X Y 10] w3 fun e w''=>e=rT (X .u16 (aR l 10:Nat))∧Below w3.heap.size w3 w''):=by
  have:=ny (some ⟨g,0,none⟩) n c1 w3.heap.size (l.set 8 y8) 10 w3 (Reads.of_own HS.out.1) (by omega) hn HA.out.2
  rw[HT.out] at this
  exact this
 have CPb:Hid (∀w',Below w3.heap.size w3 w'→Calls Pg 321 #[G (some ⟨g,0,none⟩) n c1,X Y 8] w' fun e w''=>e=rT (X .u16 (aR (l.set 8 y8) 8:Nat))∧Below w'.heap.size w' w''):=
  fun w' hb=>ny (some ⟨g,0,none⟩) n c1 w3.heap.size (l.set 8 y8) 8 w' ((Reads.of_own HS.out.1).below hb) (by omega) hn HA.out.2
 refine CPa.out.mono ?_
 rintro e w4 ⟨rfl,aq⟩
 go_wp2_with fail
 refine(CPb.out w4 aq).mono ?_
 rintro e w5 ⟨rfl,aK⟩
 have hb35:=aq.trans (aK.mono aq.size)
 have cC:=aJ HS.out.1 hb35
 have hB5:=HS.out.2.trans (hb35.mono HS.out.2.size)
 clear CPa CPb aq aK hb35 HS
 go_wp2_with fail
 refine(CF.out w5).mono ?_
 rintro e w6 ⟨rfl,hw6⟩
 subst hw6
 obtain⟨o10,c10⟩:∃o:Nat,w5.cell? ⟨g,10,none⟩=some (X .u8 o):=⟨_,jA cC 10 (by omega) (by rw[HLN.out.2];omega)⟩
 obtain⟨o11,c11⟩:∃o:Nat,w5.cell? ⟨g,11,none⟩=some (X .u8 o):=⟨_,jA cC 11 (by omega) (by rw[HLN.out.2];omega)⟩
 have f10:=cC.frozenAt 10
 have f11:=cC.frozenAt 11
 have hst5:=kh (kh cC 10 y1) 11 y2
 have hB6:=(hB5.setCell (p:=⟨g,10,none⟩) hg1 (X .u8 y1)).setCell (p:=⟨g,11,none⟩) hg1 (X .u8 y2)
 have HF:=jH (aI hst5 hB6)
 have HRES2:Hid (jD l=((l.set 8 y8).set 10 y1).set 11 y2):=by show _=_;rw[HRES.out,HY.out.1,HY.out.2]
 clear hst5 hB6 cC hB5 CF
 go_wp2_with fail
 go_ret
 refine⟨_,c1,rfl,?_,HF.out.2⟩
 rw[HRES2.out]
 exact HF.out.1
def mj (l:List Nat)(self dest:Nat)(mtu:Int)(w:World)(e:Ending)(w':World):Prop:=
 (gv l mtu=0∧∃A c,e=rT (tU #[G A (20 + bX l) c,X Y 0])∧w'.ownsRow w.heap.size 5 1 (G A (20 + bX l) c) (20 + bX l) (bv (mA l self dest)))∨
 (gv l mtu≠0∧e=rT (tU #[G none 0 0,X Y (gv l mtu:Nat)]))
theorem Cb (f:Nat)(h:f < 8):bits .and .i64 (f:Int) 6=((f / 2 * 2:Nat):Int)∧bits .andNot .i64 (f:Int) 1=((f / 2 * 2:Nat):Int):=by
 have:∀f:Fin 8,bits .and .i64 ((f.val:Nat):Int) 6=((f.val / 2 * 2:Nat):Int)∧bits .andNot .i64 ((f.val:Nat):Int) 1=((f.val / 2 * 2:Nat):Int):=by decide +kernel
 exact this ⟨f,h⟩
theorem yC (l:List Nat)(self dest:Nat)(ha:ay l)(hs:self < 4294967296)(hd:dest < 4294967296):mx (iG l self dest):=by
 have h1:=fR ha 1
 have h2:bX l < 65536:=dV ha 2
 have h4:=dV ha 4
 have h6:=dV ha 6
 unfold iG
 exact⟨by dsimp only;omega,by dsimp only;omega,by dsimp only;omega,by dsimp only;omega,by dsimp only;omega,by dsimp only;omega,by dsimp only;omega,by dsimp only;omega,by dsimp only;omega,hs,hd⟩
theorem uw (A:Option Addr)(n c B:Nat)(l:List Nat)(self dest:Nat)(mtu:Int)(w:World)(hr:Reads w B 1 A n (bv l))(hB:B≤w.heap.size)(hn:n≤1000000)(hnc:n≤c)(ha:ay l)(hs:self < 4294967296)(hd:dest < 4294967296):
  Calls Pg 107 #[G A n c,X Z self,X Z dest,X Y mtu] w fun e w'=>mj l self dest mtu w e w'∧Below w.heap.size w w':=by
 have CP:=jH (lD A n c B l w hr hB (by omega) hnc ha)
 by_cases hy:cD l=0
 ·obtain⟨k1,k2,k3,k4,k5,k6,k7⟩:=uF hy
  have ax:=hr.length
  obtain⟨ad,rfl,_,_⟩:=hr.2 (by omega)
  obtain⟨L,hL⟩:∃x,x=bX l:=⟨_,rfl⟩
  obtain⟨x8,hx8⟩:∃x,x=at' l 8:=⟨_,rfl⟩
  obtain⟨s,hs1⟩:∃x,x=cE l:=⟨_,rfl⟩
  obtain⟨x1,hx1⟩:∃x,x=at' l 1:=⟨_,rfl⟩
  obtain⟨x4,hx4⟩:∃x,x=aR l 4:=⟨_,rfl⟩
  obtain⟨f,hf⟩:∃x,x=aR l 6 / 8192:=⟨_,rfl⟩
  obtain⟨o,ho⟩:∃x,x=aR l 6 % 8192:=⟨_,rfl⟩
  obtain⟨x9,hx9⟩:∃x,x=at' l 9:=⟨_,rfl⟩
  obtain⟨x10,hx10⟩:∃x,x=aR l 10:=⟨_,rfl⟩
  obtain⟨x12,hx12⟩:∃x,x=dG l 12:=⟨_,rfl⟩
  obtain⟨x16,hx16⟩:∃x,x=dG l 16:=⟨_,rfl⟩
  have hvals:(fh l).vals=#[X Y s,X Y x1,X Y L,X Y x4,X Y f,X Y o,X Y x8,X Y x9,X Y x10,X Z x12,X Z x16]:=by
   unfold fh Hd.vals
   dsimp only
   rw[←hL,←hx8,←hs1,←hx1,←hx4,←hf,←ho,←hx9,←hx10,←hx12,←hx16]
  have h6:=dV ha 6
  have f8:f < 8:=by omega
  have L16:L < 65536:=by rw[hL];exact dV ha 2
  have hfl:=Cb f f8
  obtain⟨f2,hf2⟩:∃f2,f2=f / 2 * 2:=⟨_,rfl⟩
  rw[←hf2] at hfl
  obtain⟨hfl1,hfl2⟩:=hfl
  have hoh:iG l self dest=⟨0,(x1:Int),(L:Int) + 20,(x4:Int),(f2:Int),0,64,4,0,self,dest⟩:=by
   unfold iG
   rw[←hL,←hx1,←hx4,←hf,←hf2]
   rfl
  have CB:Hid (∀w',Calls Pg 160 #[aG #[X Y 0,X Y x1,X Y ((L:Int) + 20),X Y x4,X Y f2,X Y 0,X Y 64,X Y 4,X Y 0,X Z self,X Z dest]] w' fun e w''=>∃A c',e=rT (G A 20 c')∧w''.ownsRow w'.heap.size 5 1 (G A 20 c') 20 (bv (bW (iG l self dest)))∧Below w'.heap.size w' w''):=by
   intro w'
   have:=tL (iG l self dest) w' (yC l self dest ha hs hd)
   rw[hoh] at this⊢
   exact this
  have CO:=jH (fun w' (hb:Below w.heap.size w w') (h8:1≤x8)=>yM (some ad) L c w'.heap.size (l.take L) w' (((hr.below (hb.mono hB)).more (nT hB hb.size)).takeb (by omega)) (nR _) (by omega) (by omega) (ha.take L) (by rw[EX (by omega)];omega))
  have HW:Hid (mA l self dest=bW (iG l self dest)++jD (l.take L)):=by show _=_;unfold mA;rw[hL]
  have HV:=jH hvals
  have HL:=jH hL
  obtain⟨M,hM⟩:∃M,min mtu 2000=M:=⟨_,rfl⟩
  have HC:Hid ((x8≤1→gv l mtu=7)∧(¬x8≤1→(L:Int) + 20 > M→gv l mtu=11)∧(¬x8≤1→(L:Int) + 20≤M→gv l mtu=0)):=by
   unfold gv
   rw[hM,←hx8,←hL,if_neg (by omega)]
   refine⟨fun h1=>by rw[if_pos h1],fun h1 h2=>by rw[if_neg h1,if_pos (by omega)],fun h1 h2=>by rw[if_neg h1,if_neg (by omega)]⟩
  have hLc:L≤c:=by omega
  have HYE:=jH hy
  clear hr ha hL hx8 hs1 hx1 hx4 hf ho hx9 hx10 hx12 hx16 hvals h6 hf2 hoh k1 k2 k3 k4 k5 k6 ax hs hd hy hfl2
  have hM3:(mtu < 2000∧M=mtu)∨(mtu=2000∧M=2000)∨(2000 < mtu∧M=2000):=by omega
  clear hM
  rcases hM3 with⟨hmt,rfl⟩|⟨rfl,rfl⟩|⟨hmt,rfl⟩
  ·go_enter func107,ntmps107
   go_wp2_with fail
   refine CP.out.mono ?_
   rintro e w1 ⟨hret,ae⟩
   obtain⟨A1,c1,rfl,_⟩:=hret.yes HYE.out
   rw[HV.out]
   have hB2:=ae.alloc ae.size (cL #[X Y s,X Y x1,X Y L,X Y x4,X Y f,X Y o,X Y x8,X Y x9,X Y x10,X Z x12,X Z x16] 132)
   have hh2:=ab.new w1 132 #[X Y s,X Y x1,X Y L,X Y x4,X Y f,X Y o,X Y x8,X Y x9,X Y x10,X Z x12,X Z x16]
   have hs2:=hB2.size
   clear hret ae CP
   by_cases h8:x8≤1
   ·have HH:=jH (HC.out.1 h8)
    clear HC
    go_wp2_with fail
    exact bodyPost_ret (v:=tU #[G none 0 0,X Y 7]) (by simp[results,results107,go_sem]) rfl ⟨.inr ⟨by rw[HH.out];omega,by rw[HH.out];rfl⟩,hB2⟩
   ·by_cases hM2:(L:Int) + 20 > M
    ·have HH:=jH (HC.out.2.1 h8 hM2)
     clear HC
     go_wp2_with fail
     exact bodyPost_ret (v:=tU #[G none 0 0,X Y 11]) (by simp[results,results107,go_sem]) rfl ⟨.inr ⟨by rw[HH.out];omega,by rw[HH.out];rfl⟩,hB2⟩
    ·have HH:=jH (HC.out.2.2 h8 (by omega))
     have q1:¬(M < (L:Int) + 20):=by omega
     have q2:¬((2000:Int) < (L:Int) + 20):=by omega
     have q3:¬((x8:Int)≤1):=by omega
     have q4:decide (min M 2000 < (L:Int) + 20)=false:=decide_eq_false (by omega)
     clear hM2
     clear HC
     go_wp2_with fail
     generalize w1.alloc (cL #[X Y s,X Y x1,X Y L,X Y x4,X Y f,X Y o,X Y x8,X Y x9,X Y x10,X Z x12,X Z x16] 132)=w2 at *
     refine(CB.out w2).mono ?_
     rintro e w3 ⟨A3,c3,rfl,bK,al⟩
     have hB3:=hB2.trans (al.mono hB2.size)
     have hh3:=hh2.below al hh2.lt
     have HO3:=jH (gB bK hs2)
     have CO3:=jH (CO.out w3 hB3 (by omega))
     obtain⟨-,-,e2⟩:=hh3.c3
     have hcL:(L:Int)≤(c:Int):=by omega
     clear bK al CB CO hh2 hh3 hB2
     go_wp2_with fail
     refine CO3.out.mono ?_
     rintro e w4 ⟨A4,c4,rfl,bF,aq⟩
     have hB4:=hB3.trans (aq.mono hB3.size)
     have hO34:=aJ HO3.out aq
     have hb4s:=aq.size
     have hs4:=hB4.size
     clear CO3 aq e2 HO3
     go_wp2_with (at_builtin;refine cu ?_)
     refine cw ?_
     refine ee rfl (.tmp 49) (.tmp 54) _ rfl 5 cJ underlying23 w.heap.size (G A3 20 c3) 20 _ rfl hO34 w4.heap.size A4 L c4 _ rfl (Reads.of_own bF) (20 + L) rfl (by omega) hs4 ?_
     intro A5 c5 w5 cC aK _ _
     rw[←HW.out] at cC
     have hB5:=hB4.trans aK
     have HF:Hid (mj l self dest M w (rT (tU #[G A5 (20 + L) c5,X Y 0])) w5):=.inl ⟨HH.out,A5,c5,by rw[←HL.out],by rw[←HL.out];exact cC⟩
     clear bF cC hO34 aK
     go_wp2_with fail
     exact bodyPost_ret (v:=tU #[G A5 (20 + L) c5,X Y 0]) (by simp[results,results107,go_sem]) rfl ⟨HF.out,hB5⟩
  ·go_enter func107,ntmps107
   go_wp2_with fail
   refine CP.out.mono ?_
   rintro e w1 ⟨hret,ae⟩
   obtain⟨A1,c1,rfl,_⟩:=hret.yes HYE.out
   rw[HV.out]
   have hB2:=ae.alloc ae.size (cL #[X Y s,X Y x1,X Y L,X Y x4,X Y f,X Y o,X Y x8,X Y x9,X Y x10,X Z x12,X Z x16] 132)
   have hh2:=ab.new w1 132 #[X Y s,X Y x1,X Y L,X Y x4,X Y f,X Y o,X Y x8,X Y x9,X Y x10,X Z x12,X Z x16]
   have hs2:=hB2.size
   clear hret ae CP
   by_cases h8:x8≤1
   ·have HH:=jH (HC.out.1 h8)
    clear HC
    go_wp2_with fail
    exact bodyPost_ret (v:=tU #[G none 0 0,X Y 7]) (by simp[results,results107,go_sem]) rfl ⟨.inr ⟨by rw[HH.out];omega,by rw[HH.out];rfl⟩,hB2⟩
   ·by_cases hM2:(L:Int) + 20 > 2000
    ·have HH:=jH (HC.out.2.1 h8 hM2)
     clear HC
     go_wp2_with fail
     exact bodyPost_ret (v:=tU #[G none 0 0,X Y 11]) (by simp[results,results107,go_sem]) rfl ⟨.inr ⟨by rw[HH.out];omega,by rw[HH.out];rfl⟩,hB2⟩
    ·have HH:=jH (HC.out.2.2 h8 (by omega))
     have q1:¬(2000 < (L:Int) + 20):=by omega
     have q2:¬((2000:Int) < (L:Int) + 20):=by omega
     have q3:¬((x8:Int)≤1):=by omega
     have q4:decide (min 2000 2000 < (L:Int) + 20)=false:=decide_eq_false (by omega)
     clear hM2
     clear HC
     go_wp2_with fail
     generalize w1.alloc (cL #[X Y s,X Y x1,X Y L,X Y x4,X Y f,X Y o,X Y x8,X Y x9,X Y x10,X Z x12,X Z x16] 132)=w2 at *
     refine(CB.out w2).mono ?_
     rintro e w3 ⟨A3,c3,rfl,bK,al⟩
     have hB3:=hB2.trans (al.mono hB2.size)
     have hh3:=hh2.below al hh2.lt
     have HO3:=jH (gB bK hs2)
     have CO3:=jH (CO.out w3 hB3 (by omega))
     obtain⟨-,-,e2⟩:=hh3.c3
     have hcL:(L:Int)≤(c:Int):=by omega
     clear bK al CB CO hh2 hh3 hB2
     go_wp2_with fail
     refine CO3.out.mono ?_
     rintro e w4 ⟨A4,c4,rfl,bF,aq⟩
     have hB4:=hB3.trans (aq.mono hB3.size)
     have hO34:=aJ HO3.out aq
     have hb4s:=aq.size
     have hs4:=hB4.size
     clear CO3 aq e2 HO3
     go_wp2_with (at_builtin;refine cu ?_)
     refine cw ?_
     refine ee rfl (.tmp 49) (.tmp 54) _ rfl 5 cJ underlying23 w.heap.size (G A3 20 c3) 20 _ rfl hO34 w4.heap.size A4 L c4 _ rfl (Reads.of_own bF) (20 + L) rfl (by omega) hs4 ?_
     intro A5 c5 w5 cC aK _ _
     rw[←HW.out] at cC
     have hB5:=hB4.trans aK
     have HF:Hid (mj l self dest 2000 w (rT (tU #[G A5 (20 + L) c5,X Y 0])) w5):=.inl ⟨HH.out,A5,c5,by rw[←HL.out],by rw[←HL.out];exact cC⟩
     clear bF cC hO34 aK
     go_wp2_with fail
     exact bodyPost_ret (v:=tU #[G A5 (20 + L) c5,X Y 0]) (by simp[results,results107,go_sem]) rfl ⟨HF.out,hB5⟩
  ·go_enter func107,ntmps107
   go_wp2_with fail
   refine CP.out.mono ?_
   rintro e w1 ⟨hret,ae⟩
   obtain⟨A1,c1,rfl,_⟩:=hret.yes HYE.out
   rw[HV.out]
   have hB2:=ae.alloc ae.size (cL #[X Y s,X Y x1,X Y L,X Y x4,X Y f,X Y o,X Y x8,X Y x9,X Y x10,X Z x12,X Z x16] 132)
   have hh2:=ab.new w1 132 #[X Y s,X Y x1,X Y L,X Y x4,X Y f,X Y o,X Y x8,X Y x9,X Y x10,X Z x12,X Z x16]
   have hs2:=hB2.size
   clear hret ae CP
   by_cases h8:x8≤1
   ·have HH:=jH (HC.out.1 h8)
    clear HC
    go_wp2_with fail
    exact bodyPost_ret (v:=tU #[G none 0 0,X Y 7]) (by simp[results,results107,go_sem]) rfl ⟨.inr ⟨by rw[HH.out];omega,by rw[HH.out];rfl⟩,hB2⟩
   ·by_cases hM2:(L:Int) + 20 > 2000
    ·have HH:=jH (HC.out.2.1 h8 hM2)
     clear HC
     go_wp2_with fail
     exact bodyPost_ret (v:=tU #[G none 0 0,X Y 11]) (by simp[results,results107,go_sem]) rfl ⟨.inr ⟨by rw[HH.out];omega,by rw[HH.out];rfl⟩,hB2⟩
    ·have HH:=jH (HC.out.2.2 h8 (by omega))
     have q1:¬(2000 < (L:Int) + 20):=by omega
     have q2:¬((2000:Int) < (L:Int) + 20):=by omega
     have q3:¬((x8:Int)≤1):=by omega
     have q4:decide (min 2000 2000 < (L:Int) + 20)=false:=decide_eq_false (by omega)
     clear hM2
     clear HC
     go_wp2_with fail
     generalize w1.alloc (cL #[X Y s,X Y x1,X Y L,X Y x4,X Y f,X Y o,X Y x8,X Y x9,X Y x10,X Z x12,X Z x16] 132)=w2 at *
     refine(CB.out w2).mono ?_
     rintro e w3 ⟨A3,c3,rfl,bK,al⟩
     have hB3:=hB2.trans (al.mono hB2.size)
     have hh3:=hh2.below al hh2.lt
     have HO3:=jH (gB bK hs2)
     have CO3:=jH (CO.out w3 hB3 (by omega))
     obtain⟨-,-,e2⟩:=hh3.c3
     have hcL:(L:Int)≤(c:Int):=by omega
     clear bK al CB CO hh2 hh3 hB2
     go_wp2_with fail
     refine CO3.out.mono ?_
     rintro e w4 ⟨A4,c4,rfl,bF,aq⟩
     have hB4:=hB3.trans (aq.mono hB3.size)
     have hO34:=aJ HO3.out aq
     have hb4s:=aq.size
     have hs4:=hB4.size
     clear CO3 aq e2 HO3
     go_wp2_with (at_builtin;refine cu ?_)
     refine cw ?_
     refine ee rfl (.tmp 49) (.tmp 54) _ rfl 5 cJ underlying23 w.heap.size (G A3 20 c3) 20 _ rfl hO34 w4.heap.size A4 L c4 _ rfl (Reads.of_own bF) (20 + L) rfl (by omega) hs4 ?_
     intro A5 c5 w5 cC aK _ _
     rw[←HW.out] at cC
     have hB5:=hB4.trans aK
     have HF:Hid (mj l self dest mtu w (rT (tU #[G A5 (20 + L) c5,X Y 0])) w5):=.inl ⟨HH.out,A5,c5,by rw[←HL.out],by rw[←HL.out];exact cC⟩
     clear bF cC hO34 aK
     go_wp2_with fail
     exact bodyPost_ret (v:=tU #[G A5 (20 + L) c5,X Y 0]) (by simp[results,results107,go_sem]) rfl ⟨HF.out,hB5⟩
 ·obtain⟨r,hrr,hr0⟩:∃r,cD l=r∧r≠0:=⟨_,rfl,hy⟩
  have HW:Hid (gv l mtu=r):=by show _=_;unfold gv;rw[if_pos hy,hrr]
  have HR:=jH hrr
  have HY:=jH hy
  have ao:((r:Int) !=0)=true:=by simp;omega
  have HR0:=jH hr0
  clear hr hrr hy hr0
  go_enter func107,ntmps107
  go_wp2_with fail
  refine CP.out.mono ?_
  rintro e w1 ⟨hret,ae⟩
  obtain rfl:=hret.no HY.out
  rw[HR.out]
  have hB2:=ae.alloc ae.size (cL #[X Y 0,X Y 0,X Y 0,X Y 0,X Y 0,X Y 0,X Y 0,X Y 0,X Y 0,X Z 0,X Z 0] 132)
  unfold dc Hd.vals
  clear hret CP ae
  go_wp2_with fail
  exact bodyPost_ret (v:=tU #[G none 0 0,X Y r]) (by simp[results,results107,go_sem]) rfl ⟨.inr ⟨by rw[HW.out];exact HR0.out,by rw[HW.out]⟩,hB2⟩
theorem oW (p ag:Nat)(l:List Be)(t:List Int)(made:Int)(id:Int)(w:World)(hch:Ch w p ag l t made):
  Calls Pg 105 #[PT (some ⟨p,0,none⟩),X Y id] w fun e w'=>e=rT (tU #[.agg (dT l id).1.cells.toArray,bL (dT l id).2])∧Below w.heap.size w w':=by
 obtain⟨A,n,c,A2,c2,h1,h2,h3,h4⟩:=hch
 have hr:=Reads.of_own h2
 have hq0:=ab.new w 34 #[X Y 0,X Z 0,X Y 0]
 have ao:=(bR w.heap.size w).alloc (nR _) (cL #[X Y 0,X Z 0,X Y 0] 34)
 have CF:=jH (Bz A n c _ l id _ (hr.below ao) ao.size (by omega))
 have hp0:=h1.below ao h1.lt
 obtain⟨-,g1⟩:=hp0.c2
 obtain⟨⟨⟨x,ad,wt⟩,ok⟩,hf⟩:∃r,dT l id=r:=⟨_,rfl⟩
 rw[hf] at CF
 rw[hf]
 dsimp only[Be.cells] at CF⊢
 have HB:=jH (aI hq0 ao)
 clear hq0 ao h1 h2 h3 h4 hr hp0 hf
 go_enter func105,ntmps105
 go_wp2_with fail
 refine CF.out.mono ?_
 rintro e w1 ⟨rfl,ae⟩
 have hq1:=HB.out.1.below ae HB.out.1.lt
 have hB1:=HB.out.2.trans (ae.mono HB.out.2.size)
 obtain⟨f0,f1,f2⟩:=hq1.f3
 obtain⟨d0,d1,d2⟩:=hq1.c3
 obtain⟨q,hq⟩:∃q,q=w.heap.size:=⟨_,rfl⟩
 rw[←hq] at hq1 f0 f1 f2 d0 d1 d2⊢
 have HX:=jH (aI hq (aI hq1 hB1))
 clear hq hq1 hB1 g1 ae HB
 go_wp2_with fail
 obtain⟨w9,hw9⟩:∃w9,w9=((w1.setCell ⟨q,0,none⟩ (X Y x)).setCell ⟨q,1,none⟩ (X Z ad)).setCell ⟨q,2,none⟩ (X Y wt):=⟨_,rfl⟩
 have hz:ab w9 q 34 #[X Y x,X Z ad,X Y wt]:=by
  rw[hw9]
  exact((HX.out.2.1.set_ 0 (X Y x)).set_ 1 (X Z ad)).set_ 2 (X Y wt)
 have hB9:Below w.heap.size w w9:=by
  rw[hw9]
  have hle:w.heap.size≤q:=Nat.le_of_eq HX.out.1.symm
  exact((HX.out.2.2.setCell (p:=⟨q,0,none⟩) hle _).setCell (p:=⟨q,1,none⟩) hle _).setCell (p:=⟨q,2,none⟩) hle _
 rw[←hw9]
 clear hw9 d0 d1 d2 f0 f1 f2
 obtain⟨r0,r1,r2⟩:=hz.c3
 rw[←HX.out.1]
 exact bodyPost_ret (v:=tU #[aG #[X Y x,X Z ad,X Y wt],.bool ok]) (by simp[results,results105,go_sem,r0,r1,r2]) rfl ⟨rfl,by rw[HX.out.1];exact hB9⟩
def iX (l:List Be)(t:List Int)(ag:Nat)(k:Tu):Be×Bool:=if cP k=true then dT l (t.getD (iw k % ag) 0) else (⟨0,0,0⟩,false)
structure gM (W:World)(p q g ag j:Nat)(c2:Nat)(src dst:Nat)(proto sport dport y:Int):Prop where
 cells:W.cell? ⟨p,0,none⟩=some (X Y ag)∧W.cell? ⟨p,2,none⟩=some (G (some ⟨g,0,none⟩) ag c2)∧W.cell? ⟨q,0,none⟩=some (X Z src)∧W.cell? ⟨q,1,none⟩=some (X Z dst)∧W.cell? ⟨q,2,none⟩=some (X Y proto)∧W.cell? ⟨q,3,none⟩=some (X Y sport)∧W.cell? ⟨q,4,none⟩=some (X Y dport)∧W.cell? ⟨g,j,none⟩=some (X Y y)
theorem gM.below {W W':World}{p q g ag j c2 src dst:Nat}{proto sport dport y:Int}(h:gM W p q g ag j c2 src dst proto sport dport y)(hb:Below W.heap.size W W'):gM W' p q g ag j c2 src dst proto sport dport y:=by
 obtain⟨h0,h1,h2,h3,h4,h5,h6,h7⟩:=h
 have key:∀{a:Addr} {v:Value},W.cell? a=some v→W'.cell? a=some v:=fun{a v} e=>(hb.cell (World.block_lt_of_cell? W a e)).trans e
 exact⟨key h0,key h1,key h2,key h3,key h4,key h5,key h6,key h7⟩
theorem gM.drew {W:World}{p q g ag j:Nat}{c2:Nat}{src dst:Nat}{proto sport dport y:Int}(h:gM W p q g ag j c2 src dst proto sport dport y):gM W.drew p q g ag j c2 src dst proto sport dport y:=⟨h.cells⟩
theorem gM.far {W:World}{p q g ag j:Nat}{c2:Nat}{src dst:Nat}{proto sport dport y:Int}(h:gM W p q g ag j c2 src dst proto sport dport y){b:Nat}(hp:p < b)(hq:q < b)(hg:g < b)(i:Nat)(u:Value):gM (W.setCell ⟨b,i,none⟩ u) p q g ag j c2 src dst proto sport dport y:=by
 obtain⟨h0,h1,h2,h3,h4,h5,h6,h7⟩:=h
 have key:∀{a:Addr} {v:Value},a.block < b→W.cell? a=some v→(W.setCell ⟨b,i,none⟩ u).cell? a=some v:=fun{a v} hl e=>(World.cell?_setCell_other W ⟨b,i,none⟩ a u (fun e=>by subst e;exact absurd hl (Nat.lt_irrefl _))).trans e
 exact⟨key hp h0,key hp h1,key hq h2,key hq h3,key hq h4,key hq h5,key hq h6,key hg h7⟩
theorem Bo (k:Tu):iw k < 4294967296:=nU 0 (du k)
theorem D3 (p ag:Nat)(l:List Be)(t:List Int)(made:Int)(k:Tu)(hk:bT k)(w:World)(hch:Ch w p ag l t made)(hm:dd ag=true):
  Calls Pg 106 #[PT (some ⟨p,0,none⟩),.agg k.vals] w fun e w'=>e=rT (tU #[.agg (iX l t ag k).1.cells.toArray,bL (iX l t ag k).2])∧Below w.heap.size w w':=by
 have CY:=jH (fun W=>jV k W)
 have CH:=jH (fun W=>Bp k hk W)
 have hpk:iX l t ag k=if cP k=true then dT l (t.getD (iw k % ag) 0) else (⟨0,0,0⟩,false):=rfl
 obtain⟨r,hr⟩:∃r,iX l t ag k=r:=⟨_,rfl⟩
 rw[hr] at hpk⊢
 clear hr
 obtain⟨h3s,h251⟩:=lL hm
 have hh:=Bo k
 obtain⟨src,dst,proto,sport,dport⟩:=k
 dsimp only[Tu.vals] at CY CH⊢
 have hq0:=ab.new w 39 #[X Z src,X Z dst,X Y proto,X Y sport,X Y dport]
 have hr0:=ab.new (w.alloc (cL #[X Z src,X Z dst,X Y proto,X Y sport,X Y dport] 39)) 34 #[X Y 0,X Z 0,X Y 0]
 have hq1:=hq0.alloc (cL #[X Y 0,X Z 0,X Y 0] 34)
 have ao:=((bR w.heap.size w).alloc (nR _) (cL #[X Z src,X Z dst,X Y proto,X Y sport,X Y dport] 39)).alloc (by simp) (cL #[X Y 0,X Z 0,X Y 0] 34)
 have hs0:(w.alloc (cL #[X Z src,X Z dst,X Y proto,X Y sport,X Y dport] 39)).heap.size=w.heap.size + 1:=by simp
 rw[hs0] at hr0
 obtain⟨b,hb⟩:∃b,cP ⟨src,dst,proto,sport,dport⟩=b:=⟨_,rfl⟩
 rw[hb] at CY hpk
 clear hb
 obtain⟨v0,v1,v2,v3,v4⟩:=hq1.c5
 have HB:=jH (aI hq1 (aI hr0 ao))
 clear hq0 hr0 hq1 ao hs0
 go_enter func106,ntmps106
 go_wp2_with fail
 refine(CY.out _).mono ?_
 rintro e w1 ⟨rfl,ae⟩
 have hB1:=HB.out.2.2.trans (ae.mono HB.out.2.2.size)
 have hq1:=HB.out.1.below ae HB.out.1.lt
 have hr1:=HB.out.2.1.below ae HB.out.2.1.lt
 have hch1:=hch.below hB1
 obtain⟨q,hq⟩:∃q,q=w.heap.size:=⟨_,rfl⟩
 rw[←hq] at hq1 hr1⊢
 clear v0 v1 v2 v3 v4 CY
 cases b with
 |false=>
  have hpk':r=(⟨0,0,0⟩,false):=by rw[hpk];rfl
  obtain⟨f0,f1,f2⟩:=hr1.f3
  obtain⟨d0,d1,d2⟩:=hr1.c3
  have HX:=jH (aI hq (aI hr1 hB1))
  have HP:=jH hpk'
  clear hpk hpk' hq hr1 hB1 hq1 hch1 hch ae HB CH hh
  go_wp2_with fail
  obtain⟨w9,hw9⟩:∃w9,w9=((w1.setCell ⟨q + 1,0,none⟩ (X Y 0)).setCell ⟨q + 1,1,none⟩ (X Z 0)).setCell ⟨q + 1,2,none⟩ (X Y 0):=⟨_,rfl⟩
  have hz:ab w9 (q + 1) 34 #[X Y 0,X Z 0,X Y 0]:=by
   rw[hw9]
   exact((HX.out.2.1.set_ 0 (X Y 0)).set_ 1 (X Z 0)).set_ 2 (X Y 0)
  have hB9:Below w.heap.size w w9:=by
   rw[hw9]
   have hle:w.heap.size≤q + 1:=by rw[HX.out.1];exact nS _
   exact((HX.out.2.2.setCell (p:=⟨q + 1,0,none⟩) hle _).setCell (p:=⟨q + 1,1,none⟩) hle _).setCell (p:=⟨q + 1,2,none⟩) hle _
  rw[←hw9]
  clear hw9 d0 d1 d2 f0 f1 f2
  obtain⟨r0,r1,r2⟩:=hz.c3
  rw[HP.out]
  exact bodyPost_ret (v:=tU #[aG #[X Y 0,X Z 0,X Y 0],bL false]) (by simp[results,results106,go_sem,r0,r1,r2]) rfl ⟨rfl,hB9⟩
 |true=>
  obtain⟨A,n,c,A2,c2,c1',c2',c3',c4⟩:=id hch
  obtain⟨g,rfl,_,hglt⟩:=fy c3' (by omega)
  have hplt:=c1'.lt
  have c1:=c1'.below hB1 c1'.lt
  have c3:=aJ c3' hB1
  have c2':=aJ c2' hB1
  clear c1' c3' hch1
  have htl:t.length=ag:=rq c3
  have CF:=jH (fun(W:World) (h:Below w1.heap.size w1 W) (id:Int)=>oW p ag l t made id W (Ch.below ⟨A,n,c,_,c2,c1,c2',c3,c4⟩ h))
  obtain⟨h,hhe⟩:∃h,iw ⟨src,dst,proto,sport,dport⟩=h:=⟨_,rfl⟩
  rw[hhe] at hh hpk CH
  clear hhe
  have hmod:((h:Int) % (ag:Int))=((h % ag:Nat):Int):=(Int.natCast_emod h ag).symm
  have hjl:h % ag < ag:=Nat.mod_lt _ (by omega)
  obtain⟨j,hj⟩:∃j,h % ag=j:=⟨_,rfl⟩
  rw[hj] at hmod hjl hpk
  clear hj
  have hcj:w1.cell? ⟨g,j,none⟩=some (X Y (t.getD j 0)):=by
   rw[nB c3 j hjl (by omega),List.getD_eq_getElem?_getD,List.getElem?_eq_getElem (by omega)]
   rfl
  obtain⟨y,hy⟩:∃y,t.getD j 0=y:=⟨_,rfl⟩
  rw[hy] at hcj hpk
  clear hy
  have CF2:=jH (fun(W:World) (h:Below w1.heap.size w1 W)=>CF.out W h y)
  rw[if_pos rfl] at hpk
  rw[←hpk] at CF2
  clear hpk CF
  obtain⟨⟨x,ad,wt⟩,ok⟩:=r
  dsimp only[Be.cells] at CF2⊢
  have PA:gM w1 p q g ag j c2 src dst proto sport dport y:=by
   refine⟨?_,?_,?_,?_,?_,?_,?_,hcj⟩
   ·have:=c1.cell 0;simpa using this
   ·have:=c1.cell 2;simpa using this
   ·have:=hq1.cell 0;simpa using this
   ·have:=hq1.cell 1;simpa using this
   ·have:=hq1.cell 2;simpa using this
   ·have:=hq1.cell 3;simpa using this
   ·have:=hq1.cell 4;simpa using this
  have hws:IntKind.u32.wrap (ag:Int)=(ag:Int):=by rw[IntKind.wrap_u32];omega
  have hjI:(j:Int) < (ag:Int):=by omega
  have h0b:((ag:Int)==0)=false:=by simp;omega
  have HX:=jH (aI hq (aI hr1 (aI hB1 PA)))
  have HG:Hid (p < q + 1∧g < q + 1):=⟨by omega,by omega⟩
  have hs0:¬ag=0:=by omega
  have h0j:(0:Int)≤(j:Int):=by omega
  have hjw:IntKind.u32.wrap (j:Int)=(j:Int):=by rw[IntKind.wrap_u32];omega
  have hmodt:Int.tmod (h:Int) (ag:Int)=(j:Int):=by rw[Int.tmod_eq_emod_of_nonneg (by omega)];exact hmod
  clear hplt hglt
  clear c1 c2' c3 c4 hq1 hch ae HB hcj hr1 hB1 PA htl hq hm hk
  go_wp2_with fail
  obtain⟨d0,d1,d2,d3,d4,d5,d6,d7⟩:=HX.out.2.2.2.drew
  go_region_held3 (fun wS=>wS.cell? ⟨p,0,none⟩=some (X Y ag)∧wS.cell? ⟨p,2,none⟩=some (G (some ⟨g,0,none⟩) ag c2)∧wS.cell? ⟨q,0,none⟩=some (X Z src)∧wS.cell? ⟨q,1,none⟩=some (X Z dst)∧wS.cell? ⟨q,2,none⟩=some (X Y proto)∧wS.cell? ⟨q,3,none⟩=some (X Y sport)∧wS.cell? ⟨q,4,none⟩=some (X Y dport)∧wS.cell? ⟨g,j,none⟩=some (X Y y)) (first|with_reducible exact⟨d0,d1,d2,d3,d4,d5,d6,d7⟩|with_reducible exact⟨z0,z1,z2,z3,z4,z5,z6,z7⟩|with_reducible exact⟨y0,y1,y2,y3,y4,y5,y6,y7⟩|with_reducible exact(((PA3.far HG.out.1 (Nat.lt_succ_self q) HG.out.2 0 _).far HG.out.1 (Nat.lt_succ_self q) HG.out.2 1 _).far HG.out.1 (Nat.lt_succ_self q) HG.out.2 2 _).cells|fail)
   (first
   |(go_at_call 205;(with_reducible refine(CH.out _).mono ?_);rintro e w2 ⟨rfl,af⟩;have PA2:=gM.below HX.out.2.2.2.drew af;obtain⟨z0,z1,z2,z3,z4,z5,z6,z7⟩:=id PA2)
   |(go_at_call 105;have hbd:Below w1.heap.size w1 w2:=(bR w1.heap.size w1).drew.trans af;(with_reducible refine(CF2.out _ hbd).mono ?_);rintro e w3 ⟨rfl,al⟩;have PA3:=PA2.below al;obtain⟨y0,y1,y2,y3,y4,y5,y6,y7⟩:=id PA3;have hr3:=(HX.out.2.1.below hbd HX.out.2.1.lt).below al (HX.out.2.1.below hbd HX.out.2.1.lt).lt;have f0:=hr3.frozen 0;have f1:=hr3.frozen 1;have f2:=hr3.frozen 2;have e0:=hr3.cell 0;have e1:=hr3.cell 1;have e2:=hr3.cell 2;simp only[ga,gz,gN] at e0 e1 e2))
  have hq13:=af.mono (B':=w1.heap.size) (nR _)
  have hB3:Below w.heap.size w w3:=HX.out.2.2.1.trans ((hbd.trans (al.mono hbd.size)).mono HX.out.2.2.1.size)
  obtain⟨w9,hw9⟩:∃w9,w9=((w3.setCell ⟨q + 1,0,none⟩ (X Y x)).setCell ⟨q + 1,1,none⟩ (X Z ad)).setCell ⟨q + 1,2,none⟩ (X Y wt):=⟨_,rfl⟩
  have hz:ab w9 (q + 1) 34 #[X Y x,X Z ad,X Y wt]:=by
   rw[hw9]
   exact((hr3.set_ 0 (X Y x)).set_ 1 (X Z ad)).set_ 2 (X Y wt)
  have hB9:Below w.heap.size w w9:=by
   rw[hw9]
   have hle:w.heap.size≤q + 1:=by rw[HX.out.1];exact nS _
   exact((hB3.setCell (p:=⟨q + 1,0,none⟩) hle _).setCell (p:=⟨q + 1,1,none⟩) hle _).setCell (p:=⟨q + 1,2,none⟩) hle _
  rw[←hw9]
  have HB9:=jH (aI hz hB9)
  clear hw9 d0 d1 d2 d3 d4 d5 d6 d7 z0 z1 z2 z3 z4 z5 z6 z7 y0 y1 y2 y3 y4 y5 y6 y7 f0 f1 f2 e0 e1 e2 PA2 PA3 hr3 hB3 af al hbd hq13 hB9 hz CF2 CH HX
  go_wp2_with fail
  have hz:=HB9.out.1
  obtain⟨r0,r1,r2⟩:=hz.c3
  exact bodyPost_ret (v:=tU #[aG #[X Y x,X Z ad,X Y wt],.bool ok]) (by simp[results,results106,go_sem,r0,r1,r2]) rfl ⟨rfl,HB9.out.2⟩
end
end Go.Proofs.YtgjnoccflmjheaaGreatDoor
