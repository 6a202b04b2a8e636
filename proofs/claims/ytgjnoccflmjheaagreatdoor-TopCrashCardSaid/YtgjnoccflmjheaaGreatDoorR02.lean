import Derived.Lib.AppendZerosOnto
import Derived.Deep.CutRange
import Derived.Great.Walk
import Derived.Shelf.SlIter.Sorted
import Derived.Shelf.SortM.Plain
import Derived.Shelf.SortM.SortNone
import Derived.Test.YtgjnoccflmjheaaGreatDoorR01
namespace Go.Proofs.YtgjnoccflmjheaaGreatDoor
set_option linter.unusedVariables false
set_option linter.unusedSimpArgs false
set_option maxHeartbeats 8000000
set_option maxRecDepth 100000
open Value renaming int→X,slice→G,pointer→PT,bool→bL,agg→aG,tuple→tU
open Obj renaming cells→cL
open Ending renaming returned→rT
open Go.Proofs.Tryz
open Go.Proofs.Tryz renaming prog→Pg
open RowKit.Below renaming refl→bR
open IntKind renaming i64→Y,u32→Z
open List renaming getElem?_toArray→ga,getElem?_cons_zero→gz,getElem?_cons_succ→gN
open Lib renaming hid→jH
open Nat renaming le_refl→nR,le_trans→nT,le_succ→nS
open And renaming intro→aI
section
open Go.RowKit
theorem Fc (aa lg d mn ms size V0 V nx0 nx:Nat)(segs l:List Nat)(loose:Bool)(D:aF)(A:Option Addr)(c:Nat)(w:World)
  (hD:ar w aa d mn ms D)(hL:bQ w aa lg d size V0 nx0 segs loose)(aP:D.ops≤800000000000)(bo:D.fail=0)(aV:D.now.length≤90000)
  (hcl:D.chg.length≤900000)(hm:av D.now (⟨#[109,46,110,101,119]⟩:ByteArray)=none)(ho:gQ V nx l)(hr:w.ownsRow aa 3 1 (G A l.length c) l.length (nv l))(cy:db D none (ck V nx l).length=true):
  Calls Pg 347 #[PT (some ⟨lg,0,none⟩),aG #[X Y V,X Y nx,G A l.length c]] w fun e w'=>e=rT (tU #[bL true,X Y 0])∧
   (∃f ms',f∉aU D.fs∧w.heap.size≤ms'∧ar w' aa d mn ms' (eZ (hZ D f (ck V nx l))))∧bQ w' aa lg d size V nx l false∧Fr KT [mn] aa w w':=by
 obtain⟨hl0,A1,c1,hk,hko⟩:=id hL
 obtain⟨mv,hmv⟩:∃mv,mv=#[X Y V,X Y nx,G A l.length c]:=⟨_,rfl⟩
 have ao:=((bR w.heap.size w).alloc (nR _) (.cells mv 259)).drew
 have hx0:=(ab.new w 259 mv).drew
 have hk0:=hk.below ao hk.lt
 have hr0:=aJ hr ao
 have c0:(w.alloc (.cells mv 259)).drew.cell? ⟨lg,0,none⟩=some (PT (some ⟨d,0,none⟩))∧(w.alloc (.cells mv 259)).drew.cell? ⟨w.heap.size,0,none⟩=some (X Y V)∧(w.alloc (.cells mv 259)).drew.cell? ⟨w.heap.size,1,none⟩=some (X Y nx)∧(w.alloc (.cells mv 259)).drew.cell? ⟨w.heap.size,2,none⟩=some (G A l.length c):=⟨by have:=hk0.cell 0;simpa using this,by have:=hx0.cell 0;simp[hmv],by have:=hx0.cell 1;simp[hmv],by have:=hx0.cell 2;simp[hmv]⟩
 have hs0:(w.alloc (.cells mv 259)).drew.heap.size=w.heap.size + 1:=by simp
 have CC:=jH (tF aa d mn ms D V nx l A l.length c _ _ (hD.made ao) aP bo aV hcl hm ho (Reads.of_own hr0) (nR _) cy)
 have H:=jH (aI hD (aI hk0 (aI hr0 hl0)))
 have HB:=jH (aI ao hx0)
 have hB:lg < w.heap.size:=hk.lt
 obtain⟨q,hq⟩:∃q,q=w.heap.size:=⟨_,rfl⟩
 have CC2:∀(P:World→Prop),P (w.alloc (.cells mv 259)).drew→True:=fun _ _=>trivial
 clear hD hL hk hko hr hk0 hr0 ao hx0 CC2 cy hm
 subst hmv
 go_enter func347,ntmps347
 go_wp2_with fail
 go_region_held3 (fun wS=>wS.cell? ⟨lg,0,none⟩=some (PT (some ⟨d,0,none⟩))∧wS.cell? ⟨w.heap.size,0,none⟩=some (X Y V)∧wS.cell? ⟨w.heap.size,1,none⟩=some (X Y nx)∧wS.cell? ⟨w.heap.size,2,none⟩=some (G A l.length c)) (first|with_reducible exact c0|with_reducible exact g0|fail)
  (first
   |(go_at_call 175;(with_reducible refine CC.out.mono ?_);rintro e w2 ⟨rfl,hD2,hf2⟩;have hx2:=hf2.blk _ _ _ HB.out.2 (by decide);have g0:w2.cell? ⟨lg,0,none⟩=some (PT (some ⟨d,0,none⟩))∧w2.cell? ⟨w.heap.size,0,none⟩=some (X Y V)∧w2.cell? ⟨w.heap.size,1,none⟩=some (X Y nx)∧w2.cell? ⟨w.heap.size,2,none⟩=some (G A l.length c):=⟨by {have:=(hf2.blk _ _ _ H.out.2.1 (by decide)).cell 0;simpa using this},by {have:=hx2.cell 0;simpa using this},by {have:=hx2.cell 1;simpa using this},by {have:=hx2.cell 2;simpa using this}⟩))
 all_goals
  obtain⟨d0,d1,d2,d3⟩:=g0
  have hlb:lg≠w.heap.size:=by omega
  have hk2:=hf2.blk _ _ _ H.out.2.1 (by decide)
  have e2:w2.cell? ⟨lg,2,none⟩=some (X Y V0):=by have:=hk2.cell 2;simpa using this
  have e3:w2.cell? ⟨lg,3,none⟩=some (X Y nx0):=by have:=hk2.cell 3;simpa using this
  have e4:w2.cell? ⟨lg,4,none⟩=some (G A1 segs.length c1):=by have:=hk2.cell 4;simpa using this
  have e5:w2.cell? ⟨lg,5,none⟩=some (.bool loose):=by have:=hk2.cell 5;simpa using this
  obtain⟨-,-,f2,f3,f4,f5⟩:=hk2.f6
  go_wp2_with fail
  go_ret2
  have s2:=ab.set_ hk2 2 (X Y V)
  have s3:=ab.set_ s2 3 (X Y nx)
  have s4:=ab.set_ s3 4 (G A l.length c)
  have s5:=ab.set_ s4 5 (bL false)
  have fr0:Fr KT [mn] aa w w2:=(Fr.of_below KT [mn] HB.out.1 H.out.1.hi).trans (hf2.mono (by decide) (fun b hb=>hb))
  have fr:=(((fr0.set_ hk2 (by decide) H.out.2.2.2 2 (X Y V)).set_ s2 (by decide) H.out.2.2.2 3 (X Y nx)).set_ s3 (by decide) H.out.2.2.2 4 (G A l.length c)).set_ s4 (by decide) H.out.2.2.2 5 (bL false)
  have frD:=(((Fr.refl [265] [] aa w2).set_ hk2 (by decide) H.out.2.2.2 2 (X Y V)).set_ s2 (by decide) H.out.2.2.2 3 (X Y nx)).set_ s3 (by decide) H.out.2.2.2 4 (G A l.length c) |>.set_ s4 (by decide) H.out.2.2.2 5 (bL false)
  obtain⟨f,ms',hf,hms,hDw⟩:=hD2
  refine⟨rfl,⟨f,ms',hf,nT HB.out.1.size hms,?_⟩,?_,fr⟩
  ·exact hDw.fr frD (by decide) (by decide) (by decide) (by decide) (by simp) (by simp)
  ·exact⟨H.out.2.2.2,A,c,by simpa using s5,frD.own (hf2.own H.out.2.2.1 (by decide)) (by decide)⟩
theorem ve (aa lg d mn ms size V0 V nx0 nx bl bm:Nat)(segs l:List Nat)(loose:Bool)(D:aF)(A:Option Addr)(c:Nat)(w:World)(hl:ab w bl 171 #[PT (some ⟨lg,0,none⟩)])(hbm:ab w bm 259 #[X Y V,X Y nx,G A l.length c])
  (hD:ar w aa d mn ms D)(hL:bQ w aa lg d size V0 nx0 segs loose)(aP:D.ops≤800000000000)(bo:D.fail=0)(aV:D.now.length≤90000)
  (hcl:D.chg.length≤900000)(hm:av D.now (⟨#[109,46,110,101,119]⟩:ByteArray)=none)(ho:gQ V nx l)(hr:w.ownsRow aa 3 1 (G A l.length c) l.length (nv l))(cy:db D none (ck V nx l).length=true):
  Calls Pg 418 #[PT (some ⟨bl,0,none⟩),PT (some ⟨bm,0,none⟩)] w fun e w'=>e=rT (X Y 0)∧
   (∃f ms',f∉aU D.fs∧w.heap.size≤ms'∧ar w' aa d mn ms' (eZ (hZ D f (ck V nx l))))∧bQ w' aa lg d size V nx l false∧Fr KT [mn] aa w w':=by
 have c0:w.cell? ⟨bl,0,none⟩=some (PT (some ⟨lg,0,none⟩))∧w.cell? ⟨bm,0,none⟩=some (X Y V)∧w.cell? ⟨bm,1,none⟩=some (X Y nx)∧w.cell? ⟨bm,2,none⟩=some (G A l.length c):=⟨by have:=hl.cell 0;simpa using this,by have:=hbm.cell 0;simpa using this,by have:=hbm.cell 1;simpa using this,by have:=hbm.cell 2;simpa using this⟩
 obtain⟨d0,d1,d2,d3⟩:=c0
 have CC:=jH (Fc aa lg d mn ms size V0 V nx0 nx segs l loose D A c w hD hL aP bo aV hcl hm ho hr cy)
 clear hl hbm hD hL hr hm cy
 go_enter func418,ntmps418
 go_wp2_with fail
 refine CC.out.mono ?_
 rintro e w2 ⟨rfl,hD2,hL2,hf2⟩
 have HE:=jH (aI hD2 (aI hL2 hf2))
 clear hD2 hL2 hf2
 go_wp2_with fail
 go_ret
 exact⟨rfl,HE.out.1,HE.out.2.1,HE.out.2.2⟩
theorem pD (m:Nat):(Builtin.zeroCells (X .u8 0).cells m).toList=bv (List.replicate m 0):=by
 rw[show (Value.int IntKind.u8 0).cells=#[X .u8 0] from rfl]
 rw[List.eq_replicate_iff.2 (⟨rfl,fun b hb=>?_⟩:_=_∧∀b∈(Builtin.zeroCells #[X .u8 0] m).toList,b=X .u8 0)]
 ·simp[Builtin.zeroCells,bv]
 ·simp[Builtin.zeroCells,Nat.mod_one] at hb
  exact hb.2.symm
theorem xu {P:Program}{w:World}(aa:Nat)(t tn ty e:TypeId)(kn kq:IntKind)(ht:P.underlying t=some (.slice e))(htn:P.underlying tn=some (.int kn))
  (hinfo:(P.info? e).map (fun i=>(i.zero,i.size,i.bytes))=some (some (X .u8 0),1,1))
  (v:Value)(n:Nat)(l:List Nat)(hown:w.ownsRow aa e 1 v n (bv l))(m:Nat)(eB:n + m≤140737488355328)(an:aa≤w.heap.size):
  ∃v' w',(Builtin.append_ #[t,tn] ty #[v,.int kq (m:Int)]).run P w=.ok v' w'∧w'.ownsRow aa e 1 v' (n + m) (bv (l++List.replicate m 0))∧w.grownBy w' v.ownBlock:=by
 obtain⟨i,hi,hz,hsz,hby⟩:=info_parts hinfo
 have hzero:(zeroValue e).run P w=.ok (X .u8 0) w:=by simp[zeroValue,typeInfo,hi,hz]
 have hw:IntKind.i64.wrap (m:Int)=m:=by rw[IntKind.wrap_i64];omega
 have hneg:¬((m:Int) < 0):=by omega
 have h48i:¬(281474976710656 < (m:Int) * (i.bytes:Int)):=by rw[hby];omega
 have grown:∀(old:Nat) (row:Option Nat),(w.drew.alloc (cL ((bv l).toArray++Builtin.zeroCells (X .u8 0).cells m++Builtin.zeroCells (X .u8 0).cells (grownCap w (n + m) old e - (n + m))) e)).ownsRow aa e 1
    (G (some ⟨w.heap.size,0,none⟩) (n + m) (grownCap w (n + m) old e)) (n + m) (bv (l++List.replicate m 0))∧
   w.grownBy (w.drew.alloc (cL ((bv l).toArray++Builtin.zeroCells (X .u8 0).cells m++Builtin.zeroCells (X .u8 0).cells (grownCap w (n + m) old e - (n + m))) e)) row:=by
  intro old row
  have hge:=grownCap_ge w (n + m) old e
  have hcm:grownCap w (n + m) old e≤maxLen:=grownCap_le_maxLen w (n + m) old e (by unfold maxLen;omega)
  have hl1:=hown.1
  refine⟨⟨?_,.inr ⟨w.heap.size,_,_,rfl,an,heap_alloc_new w.drew _,hge,hcm,?_,?_⟩⟩,⟨rfl,rfl,rfl,by simp,fun k hk _=>by first|exact heap_alloc_old w.drew _ k hk|exact heap_alloc_old w.drew _ hk⟩⟩
  ·rw[el] at *;simp;omega
  ·rw[show (Value.int IntKind.u8 0).cells=#[X .u8 0] from rfl]
   simp only[Array.size_append,List.size_toArray,size_zeroCells]
   rw[el] at *
   simp
   omega
  ·simp only[Array.toList_append,pD,List.append_assoc]
   rw[lZ]
   rw[show (n + m) * 1=((bv l)++bv (List.replicate m 0)).length from by simp[el] at *;omega]
   rw[←List.append_assoc]
   exact List.take_left
 rcases hown.2 with⟨rfl,rfl⟩|⟨g,cap,cur,rfl,hbg,hg,hnc,hcm,hcs,htake⟩
 ·have hl0:l=[]:=by
   have:=hown.1
   rw[el] at this
   exact List.eq_nil_of_length_eq_zero (by omega)
  subst hl0
  by_cases hm:m=0
  ·subst hm
   refine⟨G none 0 0,w,?_,by simpa [bv] using World.ownsRow_nil w aa e 1,World.grownBy.refl w _⟩
   simp[Builtin.append_,run_underlying ht,run_underlying htn,sizeOf,typeInfo,hi,asInt,asIntOf,storeCells,IntKind.wrap_i64]
  ·have hr:=Lib.run_append_nil_zeros (P:=P) w t tn ty e i _ kq kn ht htn hi hz m (by omega) (by omega) (by omega) (by rw[hby];omega)
   have hgr:=grown 0 (Value.ownBlock (G none 0 0))
   simp only[Nat.zero_add] at hgr⊢
   simp only[D8,List.nil_append] at hgr
   have e1:((#[]:Array Value)++Builtin.zeroCells (Value.int IntKind.u8 0).cells m)=Builtin.zeroCells (Value.int IntKind.u8 0).cells m:=Array.empty_append
   rw[e1] at hgr
   exact⟨_,_,hr,hgr.1,hgr.2⟩
 ·by_cases cy:n + m≤cap
  ·have hst:=run_storeCells_at P g n e (bv (List.replicate m 0)) 0 cur w hg (by rw[el];simp;omega) (oY _)
   simp only[Nat.add_zero] at hst
   refine⟨G (some ⟨g,0,none⟩) (n + m) cap,w.setRow g (cur.toList.take n++bv (List.replicate m 0)++cur.toList.drop (n + (bv (List.replicate m 0)).length)).toArray,?_,⟨?_,.inr ⟨g,cap,_,rfl,hbg,setRow_heap w g cur _ e _ hg,cy,hcm,?_,?_⟩⟩,⟨rfl,rfl,rfl,by simp,fun k _ hk=>setRow_other w g k _ (fun e=>hk (by simp[Value.ownBlock,e]))⟩⟩
   ·by_cases hm:m=0
    ·subst hm
     have h2:Result.ok () w=Result.ok () (w.setRow g (cur.toList.take n++bv (List.replicate 0 0)++cur.toList.drop (n + (bv (List.replicate 0 0)).length)).toArray):=hst
     injection h2 with _ h2
     rw[←h2]
     simp[Builtin.append_,run_underlying ht,run_underlying htn,sizeOf,typeInfo,hi,hsz,asInt,asIntOf,hnc,storeCells,IntKind.wrap_i64]
    ·simp[Builtin.append_,run_underlying ht,run_underlying htn,sizeOf,typeInfo,hi,hsz,asInt,asIntOf,hw,hneg,h48i,hm,cy,hzero,Addr.add_lit,pD,hst]
   ·have:=hown.1;rw[el] at *;simp;omega
   ·simp only[List.size_toArray,List.length_append,List.length_take,List.length_drop,Array.length_toList,el,List.length_replicate]
    omega
   ·have h1:(cur.toList.take n)=bv l:=by simpa using htake
    rw[h1,lZ]
    have hl:=hown.1
    rw[show (n + m) * 1=((bv l)++bv (List.replicate m 0)).length from by simp[el] at *;omega]
    exact List.take_left
  ·have hold:∀j u,(bv l)[j]? =some u→w.drew.cell? ((⟨g,0,none⟩:Addr).add j)=some u:=hown.cells (g:=g) rfl
   have hlb:=hown.1
   have hf:=run_firstCells_some (P:=P) w.drew i.size n ⟨g,0,none⟩ n cap (bv l) (by rw[hsz];exact hlb) hold
   have hr:=Lib.run_append_grow_zeros (P:=P) w t tn ty e i _ kq kn ht htn hi hz (some ⟨g,0,none⟩) n cap (bv l) hf m (by omega) (by omega) (by omega) (by omega) (by rw[hby];omega)
    (by have:=growslice_fits (need:=n + m) (old:=cap) (bytes:=1) (by omega) (by omega);rw[hby];exact this)
   have hgr:=grown cap (Value.ownBlock (G (some ⟨g,0,none⟩) n cap))
   exact⟨_,_,hr,hgr.1,hgr.2⟩
theorem uy {P:Program}{w:World}{ops:Array Oper}{rest:List Oper}{o:Oper}{a:Act}{Q:Exit→Act→World→Prop}(hw:Region.wanted o (yielded ops a.tmps)=true)(s x:Operand)(t tn:TypeId)
  (ho:o.op=.call {callee:=.builtin .append,args:=#[s,x],argTypes:=#[t,tn]})
  (e:TypeId)(hi:(P.info? e).map (fun i=>(i.zero,i.size,i.bytes))=some (some (X .u8 0),1,1))(ht:P.underlying t=some (.slice e))(kn kq:IntKind)(htn:P.underlying tn=some (.int kn))
  (aa:Nat)(v:Value)(n:Nat)(l:List Nat)(hs:a.eval s=v)(hown:w.ownsRow aa e 1 v n (bv l))
  (M:Int)(m:Nat)(hx:a.eval x=.int kq M)(hM:M=(m:Int))
  (k:Nat)(hk:n + m=k)(eB:k≤140737488355328)(an:aa≤w.heap.size)
  (h:∀A' c' w',w'.ownsRow aa e 1 (G A' k c') k (bv (l++List.replicate m 0))→Below aa w w'→w.grownBy w' v.ownBlock→wpList P ops Q rest (a.put o.dst (G A' k c')) w'):
  wpList P ops Q (o::rest) a w:=by
 subst hk hM
 obtain⟨v',w',hrun,h1,h2⟩:=xu (P:=P) (w:=w) aa t tn o.type e kn kq ht htn hi v n l hown m eB an
 obtain⟨A',c',rfl⟩:=cV h1
 exact BigFrame.wpList_want hw fun _ hK=>Lib.wp_append_run w s x t tn ho v _ hs hx _ _ hrun (hK _ _ (h A' c' w' h1 ((bR _ _).grown h2 an (fun k hk=>(hown.lt k hk).1)) h2))
theorem rr {w:World}{aa n c:Nat}{A:Option Addr}{e:TypeId}{xs:List Value}(h:w.ownsRow aa e 1 (G A n c) n xs)(hn:0 < n):∃g,A=some ⟨g,0,none⟩∧w.ownsRow aa e 1 (G A 0 c) 0 []:=by
 rcases h.2 with⟨h1,_⟩|⟨g,cap,cur,hv,hb,hg,hnc,hcm,hcs,htk⟩
 ·injection h1 with h1 h2
  omega
 ·injection hv with h1 h2 h3
  subst h1
  subst h3
  exact⟨g,rfl,⟨by simp,.inr ⟨g,c,cur,rfl,hb,hg,Nat.zero_le _,hcm,hcs,by simp⟩⟩⟩
theorem Bx (n:Nat)(hn:0 < n)(hn2:n≤1000000)(w:World):
  Calls Pg 265 #[G none 0 0,X Y n] w fun e w'=>∃g c,e=rT (G (some ⟨g,0,none⟩) 0 c)∧w'.ownsRow w.heap.size 5 1 (G (some ⟨g,0,none⟩) 0 c) 0 []∧Below w.heap.size w w':=by
 have d1:decide ((n:Int) < 0)=false:=decide_eq_false (by omega)
 have d2:decide ((0:Int) < (n:Int))=true:=decide_eq_true (by omega)
 go_enter func265,ntmps265
 go_wp2_with (at_builtin;refine cu ?_)
 refine cw ?_
 refine uy rfl (.tmp 20) (.tmp 21) _ _ rfl 5 cJ underlying23 .i64 .i64 underlying3 w.heap.size (G none 0 0) 0 [] rfl (World.ownsRow_nil _ _ _ _) (n:Int) n rfl rfl n (by omega) (by omega) (nR _) ?_
 intro A c w1 hown hb _
 have ax:=hown
 obtain⟨g,rfl,h0⟩:=rr hown hn
 have hc:=(dN hown)
 have H:=jH (aI h0 hb)
 have hc1:n≤c:=hc.1
 have hc0:¬c=0:=by omega
 clear hown ax h0 hb hc
 go_wp2_with fail
 go_ret
 exact⟨g,c,rfl,H.out⟩
theorem DC (g0:Nat)(A1 A2:Option Addr)(n1 n2 c1 c2 B:Nat)(l1 l2:List Nat)(w:World)(hrow:ab w g0 23 #[G A1 n1 c1,G A2 n2 c2])(hr1:Reads w B 1 A1 n1 (bv l1))(hr2:Reads w B 1 A2 n2 (bv l2))(hB:B≤w.heap.size)(h1:n1≤100000)(h2:n2≤100000)(h0:0 < n1):
  Calls Pg 162 #[G (some ⟨g0,0,none⟩) 2 2] w fun e w'=>∃A c,e=rT (G A (n1 + n2) c)∧w'.ownsRow w.heap.size 5 1 (G A (n1 + n2) c) (n1 + n2) (bv (l1++l2))∧Below w.heap.size w w':=by
 obtain⟨k0,k1⟩:=hrow.c2
 have CG:=jH (Bx (n1 + n2) (by omega) (by omega) w)
 rw[Int.natCast_add] at CG
 have H0:=jH (aI hrow (aI hr1 (aI hr2 hB)))
 clear hrow hr1 hr2
 go_enter func162,ntmps162
 go_wp2_with fail
 refine wp_loop_rounds 3 ?_
 rw[rounds_succ]
 go_wp2_with fail
 rw[rounds_succ]
 go_wp2_with fail
 rw[rounds_succ]
 go_wp2_with fail
 refine CG.out.mono ?_
 rintro e w1 ⟨g,c,rfl,hown,hb⟩
 have H1:Hid (ab w1 g0 23 #[G A1 n1 c1,G A2 n2 c2]∧w1.ownsRow w.heap.size 5 1 (G (some ⟨g,0,none⟩) 0 c) 0 (bv [])∧Reads w1 B 1 A1 n1 (bv l1)∧Reads w1 B 1 A2 n2 (bv l2)∧Below w.heap.size w w1):=by
  obtain⟨g1,g2,g3,g4⟩:=H0.out
  exact⟨g1.below hb g1.lt,hown,g2.below (hb.mono hB),g3.below (hb.mono hB),hb⟩
 clear hown hb CG k0 k1
 obtain⟨k0,k1⟩:=H1.out.1.c2
 go_wp2_with fail
 refine wp_loop_rounds 3 ?_
 rw[rounds_succ]
 go_wp2_with (at_builtin;refine cu ?_)
 refine cw ?_
 refine ee rfl (.tmp 31) (.tmp 32) _ rfl 5 cJ underlying23 w.heap.size (G (some ⟨g,0,none⟩) 0 c) 0 [] rfl H1.out.2.1 B A1 n1 c1 l1 rfl H1.out.2.2.1 (n1) (by omega) (by omega) (by have:=H1.out.2.2.2.2.size;exact this) ?_
 intro Aa1 ca1 wa1 hown aA hg _
 have H2:Hid (ab wa1 g0 23 #[G A1 n1 c1,G A2 n2 c2]∧wa1.ownsRow w.heap.size 5 1 (G Aa1 (n1) ca1) (n1) (bv ([]++l1))∧Reads wa1 B 1 A1 n1 (bv l1)∧Reads wa1 B 1 A2 n2 (bv l2)∧Below w.heap.size w wa1):=by
  obtain⟨g1,g2,g3,g4,g5⟩:=H1.out
  have au:=H0.out.1.lt
  exact⟨g1.below aA au,hown,g3.below (aA.mono hB),g4.below (aA.mono hB),g5.trans aA⟩
 clear hown aA hg H1 k0 k1
 obtain⟨k0,k1⟩:=H2.out.1.c2
 go_wp2_with fail
 rw[rounds_succ]
 go_wp2_with (at_builtin;refine cu ?_)
 refine cw ?_
 refine ee rfl (.tmp 31) (.tmp 32) _ rfl 5 cJ underlying23 w.heap.size (G Aa1 n1 ca1) n1 ([]++l1) rfl H2.out.2.1 B A2 n2 c2 l2 rfl H2.out.2.2.2.1 (n1 + n2) (by omega) (by omega) (by have:=H2.out.2.2.2.2.size;exact this) ?_
 intro Aa2 ca2 wa2 hown aA hg _
 have H3:Hid (ab wa2 g0 23 #[G A1 n1 c1,G A2 n2 c2]∧wa2.ownsRow w.heap.size 5 1 (G Aa2 (n1 + n2) ca2) (n1 + n2) (bv (([]++l1)++l2))∧Reads wa2 B 1 A1 n1 (bv l1)∧Reads wa2 B 1 A2 n2 (bv l2)∧Below w.heap.size w wa2):=by
  obtain⟨g1,g2,g3,g4,g5⟩:=H2.out
  have au:=H0.out.1.lt
  exact⟨g1.below aA au,hown,g3.below (aA.mono hB),g4.below (aA.mono hB),g5.trans aA⟩
 clear hown aA hg H2 k0 k1
 go_wp2_with fail
 rw[rounds_succ]
 go_wp2_with fail
 go_ret
 exact⟨Aa2,ca2,rfl,by have:=H3.out.2.1;rwa [List.nil_append] at this,H3.out.2.2.2.2⟩
theorem rG (l:List Nat):∀u∈nv l,u.oneCell'=true:=by
 intro u hu
 simp only[nv,List.mem_map] at hu
 obtain⟨x,-,rfl⟩:=hu
 rfl
theorem rH (a b:List Nat):nv (a++b)=nv a++nv b:=List.map_append
theorem uz {P:Program}{w:World}{ops:Array Oper}{rest:List Oper}{o:Oper}{a:Act}{Q:Exit→Act→World→Prop}(hw:Region.wanted o (yielded ops a.tmps)=true)(s x:Operand)(t tn:TypeId)
  (ho:o.op=.call {callee:=.builtin .append,args:=#[s,x],argTypes:=#[t,tn]})
  (e:TypeId)(z:Value)(bytes:Nat)(hi:(P.info? e).map (fun i=>(i.zero,i.size,i.bytes))=some (some z,1,bytes))(hzc:z.cells.size=1)(hby:bytes≤1024)(ht:P.underlying t=some (.slice e))(kn kq:IntKind)(htn:P.underlying tn=some (.int kn))
  (M:Int)(m:Nat)(hs:a.eval s=G none 0 0)(hx:a.eval x=.int kq (m:Int))(hm:0 < m)(hm2:m≤1000000)
  (h:∀c' w',w'.ownsRow w.heap.size e 1 (G (some ⟨w.heap.size,0,none⟩) m c') m (Builtin.zeroCells z.cells m).toList→Below w.heap.size w w'→wpList P ops Q rest (a.put o.dst (G (some ⟨w.heap.size,0,none⟩) m c')) w'):
  wpList P ops Q (o::rest) a w:=by
 obtain⟨i,hi0,hz,hsz,hb⟩:=info_parts hi
 have hr:=Lib.run_append_nil_zeros (P:=P) w t tn o.type e i z kq kn ht htn hi0 hz m hm (by omega) (by omega) (by rw[hb];exact nT (Nat.mul_le_mul hm2 hby) (by omega))
 refine BigFrame.wpList_want hw fun _ hK=>Lib.wp_append_run w s x t tn ho _ _ hs hx _ _ hr (hK _ _ (h _ _ ?_ ?_))
 ·have hge:=grownCap_ge w m 0 e
  have hcm:grownCap w m 0 e≤maxLen:=grownCap_le_maxLen w m 0 e (by unfold maxLen;omega)
  refine⟨by rw[Array.length_toList,size_zeroCells,hzc],.inr ⟨w.heap.size,_,_,rfl,nR _,heap_alloc_new w.drew _,hge,hcm,?_,?_⟩⟩
  ·simp only[Array.size_append,size_zeroCells,hzc];omega
  ·rw[Array.toList_append,show m * 1=(Builtin.zeroCells z.cells m).toList.length by rw[Array.length_toList,size_zeroCells,hzc]]
   exact List.take_left
 ·exact(bR w.heap.size w).drew.alloc (by simp) _
theorem Bw (n:Nat)(hn:0 < n)(hn2:n≤1000000)(w:World):
  Calls Pg 444 #[G none 0 0,X Y n] w fun e w'=>∃g c,e=rT (G (some ⟨g,0,none⟩) 0 c)∧w'.ownsRow w.heap.size 3 1 (G (some ⟨g,0,none⟩) 0 c) 0 []∧Below w.heap.size w w':=by
 have d1:decide ((n:Int) < 0)=false:=decide_eq_false (by omega)
 have d2:decide ((0:Int) < (n:Int))=true:=decide_eq_true (by omega)
 go_enter func444,ntmps444
 go_wp2_with (at_builtin;refine cu ?_)
 refine cw ?_
 refine uz rfl (.tmp 20) (.tmp 21) _ _ rfl 3 _ 8 kB rfl (by omega) underlying51 .i64 .i64 underlying3 (n:Int) n rfl rfl hn (by omega) ?_
 intro c w1 hown hb
 have ax:=hown
 obtain⟨g,hg0,h0⟩:=rr hown hn
 injection hg0 with hg0
 injection hg0 with hg0
 subst hg0
 have hc:=(dN hown)
 have H:=jH (aI h0 hb)
 have hc1:n≤c:=hc.1
 have hc0:¬c=0:=by omega
 clear hown ax h0 hb hc
 go_wp2_with fail
 go_ret
 exact⟨_,c,rfl,H.out⟩
theorem DB (g0:Nat)(A1 A2:Option Addr)(n1 n2 c1 c2 B:Nat)(l1 l2:List Nat)(w:World)(hrow:ab w g0 51 #[G A1 n1 c1,G A2 n2 c2])(hr1:Reads w B 1 A1 n1 (nv l1))(hr2:Reads w B 1 A2 n2 (nv l2))(hB:B≤w.heap.size)(h1:n1≤100000)(h2:n2≤100000)(h0:0 < n1):
  Calls Pg 414 #[G (some ⟨g0,0,none⟩) 2 2] w fun e w'=>∃A c,e=rT (G A (n1 + n2) c)∧w'.ownsRow w.heap.size 3 1 (G A (n1 + n2) c) (n1 + n2) (nv (l1++l2))∧Below w.heap.size w w':=by
 obtain⟨k0,k1⟩:=hrow.c2
 have CG:=jH (Bw (n1 + n2) (by omega) (by omega) w)
 rw[Int.natCast_add] at CG
 have H0:=jH (aI hrow (aI hr1 (aI hr2 hB)))
 clear hrow hr1 hr2
 go_enter func414,ntmps414
 go_wp2_with fail
 refine wp_loop_rounds 3 ?_
 rw[rounds_succ]
 go_wp2_with fail
 rw[rounds_succ]
 go_wp2_with fail
 rw[rounds_succ]
 go_wp2_with fail
 refine CG.out.mono ?_
 rintro e w1 ⟨g,c,rfl,hown,hb⟩
 have H1:Hid (ab w1 g0 51 #[G A1 n1 c1,G A2 n2 c2]∧w1.ownsRow w.heap.size 3 1 (G (some ⟨g,0,none⟩) 0 c) 0 (nv [])∧Reads w1 B 1 A1 n1 (nv l1)∧Reads w1 B 1 A2 n2 (nv l2)∧Below w.heap.size w w1):=by
  obtain⟨g1,g2,g3,g4⟩:=H0.out
  exact⟨g1.below hb g1.lt,hown,g2.below (hb.mono hB),g3.below (hb.mono hB),hb⟩
 clear hown hb CG k0 k1
 obtain⟨k0,k1⟩:=H1.out.1.c2
 go_wp2_with fail
 refine wp_loop_rounds 3 ?_
 rw[rounds_succ]
 go_wp2_with (at_builtin;refine cu ?_)
 refine cw ?_
 refine jS rfl (.tmp 31) (.tmp 32) _ rfl 1 8 3 _ kB rfl (by omega) (by omega) underlying51 w.heap.size (G (some ⟨g,0,none⟩) 0 c) 0 (nv []) rfl H1.out.2.1 B A1 n1 c1 (nv l1) rfl H1.out.2.2.1 (rG _) (n1) (by omega) (by omega) (by have:=H1.out.2.2.2.2.size;exact this) ?_
 intro Aa1 ca1 wa1 hown aA hg _
 rw[←rH] at hown
 have H2:Hid (ab wa1 g0 51 #[G A1 n1 c1,G A2 n2 c2]∧wa1.ownsRow w.heap.size 3 1 (G Aa1 (n1) ca1) (n1) (nv ([]++l1))∧Reads wa1 B 1 A1 n1 (nv l1)∧Reads wa1 B 1 A2 n2 (nv l2)∧Below w.heap.size w wa1):=by
  obtain⟨g1,g2,g3,g4,g5⟩:=H1.out
  have au:=H0.out.1.lt
  exact⟨g1.below aA au,hown,g3.below (aA.mono hB),g4.below (aA.mono hB),g5.trans aA⟩
 clear hown aA hg H1 k0 k1
 obtain⟨k0,k1⟩:=H2.out.1.c2
 go_wp2_with fail
 rw[rounds_succ]
 go_wp2_with (at_builtin;refine cu ?_)
 refine cw ?_
 refine jS rfl (.tmp 31) (.tmp 32) _ rfl 1 8 3 _ kB rfl (by omega) (by omega) underlying51 w.heap.size (G Aa1 n1 ca1) n1 (nv ([]++l1)) rfl H2.out.2.1 B A2 n2 c2 (nv l2) rfl H2.out.2.2.2.1 (rG _) (n1 + n2) (by omega) (by omega) (by have:=H2.out.2.2.2.2.size;exact this) ?_
 intro Aa2 ca2 wa2 hown aA hg _
 rw[←rH] at hown
 have H3:Hid (ab wa2 g0 51 #[G A1 n1 c1,G A2 n2 c2]∧wa2.ownsRow w.heap.size 3 1 (G Aa2 (n1 + n2) ca2) (n1 + n2) (nv (([]++l1)++l2))∧Reads wa2 B 1 A1 n1 (nv l1)∧Reads wa2 B 1 A2 n2 (nv l2)∧Below w.heap.size w wa2):=by
  obtain⟨g1,g2,g3,g4,g5⟩:=H2.out
  have au:=H0.out.1.lt
  exact⟨g1.below aA au,hown,g3.below (aA.mono hB),g4.below (aA.mono hB),g5.trans aA⟩
 clear hown aA hg H2 k0 k1
 go_wp2_with fail
 rw[rounds_succ]
 go_wp2_with fail
 go_ret
 exact⟨Aa2,ca2,rfl,by have:=H3.out.2.1;rwa [List.nil_append] at this,H3.out.2.2.2.2⟩
end
section
open Go.RowKit Go.Maps
def Small (fs:List (Nat×bM)):Prop:=∀f p,av fs f=some p→p.b.length≤1000
theorem Small.put {fs:List (Nat×bM)}(h:Small fs)(f:Nat){p:bM}(hp:p.b.length≤1000):Small (aw fs f p):=by
 intro g q hq
 by_cases e:g=f
 ·subst e;rw[eP] at hq;injection hq with hq;subst hq;exact hp
 ·rw[eQ _ _ e] at hq;exact h g q hq
theorem qN {fs:List (Nat×bM)}(h:Small fs)(f:Nat):gd fs f≤1000:=by
 unfold gd
 cases hg:av fs f with
 |none=>exact Nat.zero_le _
 |some q=>exact h _ _ hg
theorem wy {fs:List (Nat×bM)}(h:Small fs)(l:List (ByteArray×Nat)):eI fs l≤l.length * 1000:=by
 induction l with
 |nil=>simp[eI]
 |cons p l ih=>rw[nc,List.length_cons];have:=qN h p.2;omega
theorem ni {D:aF}(h:Small D.fs)(hl:D.now.length≤6)(hQ:10000≤D.quota)(f:Option Nat)(n:Nat)(hn:n≤1000):db D f n=true:=by
 have h1:dM D≤D.now.length * 1000:=wy h D.now
 have h2:iM D f≤1000:=by
  cases f with
  |none=>exact Nat.zero_le _
  |some g=>exact qN h g
 unfold db
 rw[Bool.and_eq_true]
 refine⟨decide_eq_true ⟨by omega,by omega,by omega⟩,?_⟩
 rw[Bool.or_eq_true]
 exact .inr (decide_eq_true (by omega))
theorem oc (V nx:Nat)(l:List Nat):(ck V nx l).length=22 + l.length * 4:=by unfold ck;rw[fO,ir];omega
theorem fT (k:Nat):(bJ k).length=k:=by simp[bJ]
theorem jZ (k:Nat):(bJ (k + 1)).getLast? =some (k + 1):=by simp[bJ,List.range_succ]
theorem wX (k:Nat):bJ (k + 1)=bJ k++[k + 1]:=by simp[bJ,List.range_succ]
theorem nJ {fl:List Nat}{fm:Nat}(h:fl≠[]):(dn fl fm).length=fl.length + 1:=by
 cases fl with
 |nil=>exact absurd rfl h
 |cons a r=>simp[dn]
theorem p8 {k:Nat}(hk:k≤1){fl:List Nat}(hl:fl.length=k + 1)(fm f2:Nat):
  av (dn fl fm) (aN (k + 2))=none∧av (aw (dn fl fm) (aN (k + 2)) f2) (⟨#[109,46,110,101,119]⟩:ByteArray)=none∧av (aw (dn fl fm) (aN (k + 2)) f2) (aN (k + 2))=some f2:=by
 obtain⟨n1,n2,n3,n4,n5,n6,n7,n8,n9,n10⟩:=lp
 refine⟨?_,?_,eP _ _ _⟩
 ·obtain rfl|rfl:k=0∨k=1:=by omega
  ·match fl,hl with
   |[a],_=>simp[dn,av,n1,n5.symm]
   |[],hl=>simp at hl
   |_::_::_,hl=>simp at hl
  ·match fl,hl with
   |[a,b],_=>simp[dn,av,n2,n3,n6.symm]
   |[],hl=>simp at hl
   |[_],hl=>simp at hl
   |_::_::_::_,hl=>simp at hl
 ·obtain rfl|rfl:k=0∨k=1:=by omega
  ·rw[eQ _ _ n8.symm]
   match fl,hl with
   |[a],_=>simp[dn,av,n7,n10.symm]
   |[],hl=>simp at hl
   |_::_::_,hl=>simp at hl
  ·rw[eQ _ _ n9.symm]
   match fl,hl with
   |[a,b],_=>simp[dn,av,n7,n8,n10.symm]
   |[],hl=>simp at hl
   |[_],hl=>simp at hl
   |_::_::_::_,hl=>simp at hl
theorem nO {V k:Nat}(h1:1≤V)(h3:V≤3)(hk:k≤2):gQ V (k + 2) (bJ (k + 1)):=
 ⟨h1,h3,by rw[fT];omega,by rw[fT];omega,by omega,by omega,by
  obtain rfl|rfl|rfl:k=0∨k=1∨k=2:=by omega
  all_goals decide⟩
theorem wv {D:aF}(h:Small D.fs){V k f f2 f4 s:Nat}{L:List Nat}(hk:k≤1)(hL:L.length≤1000):Small (gy D V k f f2 f4 L s).fs:=by
 have e:(gy D V k f f2 f4 L s).fs=aw (aw (aw (aw (aw D.fs f ⟨L,L.length⟩) f2 ⟨[],0⟩) f2 ⟨[],0⟩) f4 ⟨ck V (k + 3) (bJ (k + 2)),0⟩) f4 ⟨ck V (k + 3) (bJ (k + 2)),(ck V (k + 3) (bJ (k + 2))).length⟩:=rfl
 rw[e]
 have hm:(ck V (k + 3) (bJ (k + 2))).length≤1000:=by rw[oc,fT];omega
 exact((((h.put f hL).put f2 (Nat.zero_le _)).put f2 (Nat.zero_le _)).put f4 hm).put f4 hm
theorem vc (aa lg d mn size V nx n:Nat)(segs:List Nat)(w:World)(P0 P1 P2 P3 P4:World→Prop)(h0:P0 w)(hi:aa≤w.heap.size)(hL:bQ w aa lg d size V nx segs false)(hn:segs.length=n)(hs:n≤60)(hs0:0 < n)(hnx1:1≤nx)(hnx:nx≤100000)(hst:∀a b,P0 a→Below a.heap.size a b→P0 b)
  (S1:∀W bl,P0 W→bQ W aa lg d size V nx segs false→ab W bl 171 #[PT (some ⟨lg,0,none⟩)]→Calls Pg 415 #[PT (some ⟨bl,0,none⟩)] W fun e w'=>e=rT (X Y 0)∧P1 w'∧Fr KN [mn] aa W w')
  (S2:∀W bl,P1 W→bQ W aa lg d size V nx segs false→ab W bl 171 #[PT (some ⟨lg,0,none⟩)]→Calls Pg 416 #[PT (some ⟨bl,0,none⟩)] W fun e w'=>e=rT (X Y 0)∧P2 w'∧Fr KN [mn] aa W w')
  (S3:∀W bl bn,P2 W→bQ W aa lg d size V nx segs false→ab W bl 171 #[PT (some ⟨lg,0,none⟩)]→ab W bn 9 #[.string (aN nx)]→Calls Pg 417 #[PT (some ⟨bl,0,none⟩),PT (some ⟨bn,0,none⟩)] W fun e w'=>e=rT (X Y 0)∧P3 w'∧Fr KN [mn] aa W w')
  (S4:∀W bl bm A c,P3 W→w.heap.size≤W.heap.size→bQ W aa lg d size V nx segs false→ab W bl 171 #[PT (some ⟨lg,0,none⟩)]→ab W bm 259 #[X Y V,X Y (nx + 1:Nat),G A (n + 1) c]→W.ownsRow aa 3 1 (G A (n + 1) c) (n + 1) (nv (segs++[nx]))→Calls Pg 418 #[PT (some ⟨bl,0,none⟩),PT (some ⟨bm,0,none⟩)] W fun e w'=>e=rT (X Y 0)∧P4 w'∧Fr KT [mn] aa W w'):
  Calls Pg 333 #[PT (some ⟨lg,0,none⟩)] w fun e w'=>e=rT (X Y 0)∧P4 w'∧Fr KT [mn] aa w w':=by
 have HS:=jH (aI S1 (aI S2 (aI S3 S4)))
 clear S1 S2 S3 S4
 obtain⟨hl0,A1,c1,hk,hko⟩:=id hL
 rw[hn] at hk hko
 obtain⟨q,hq⟩:∃q,q=w.heap.size:=⟨_,rfl⟩
 have ao:=(bR w.heap.size w).alloc (nR _) (cL #[PT (some ⟨lg,0,none⟩)] 171)
 have hx0:ab (w.alloc (cL #[PT (some ⟨lg,0,none⟩)] 171)) q 171 #[PT (some ⟨lg,0,none⟩)]:=hq▸ab.new w _ _
 have hk0:=ab.below hk ao hk.lt
 have d0:=hx0.c1
 obtain⟨-,-,e2,e3,e4⟩:=hk0.c5
 have dl:decide ((64:Int)≤(n:Int))=false:=decide_eq_false (by omega)
 have ew:IntKind.i64.wrap ((nx:Int) + 1)=((nx + 1:Nat):Int):=by rw[IntWalk.i64_in _ (by omega)];omega
 have H:(fun Vv:World=>Hid (P0 Vv∧Below w.heap.size w Vv∧ab Vv q 171 #[PT (some ⟨lg,0,none⟩)]∧bQ Vv aa lg d size V nx segs false∧ab Vv lg 265 #[PT (some ⟨d,0,none⟩),X Y size,X Y V,X Y nx,G A1 n c1,bL false]∧Vv.ownsRow aa 3 1 (G A1 n c1) n (nv segs)∧w.heap.size≤q∧aa≤w.heap.size)) (w.alloc (cL #[PT (some ⟨lg,0,none⟩)] 171)):=⟨hst _ _ h0 ao,ao,hx0,hL.made ao,hk0,aJ hko ao,by omega,hi⟩
 have HST:=jH hst
 clear h0 ao hx0 hk hko hk0 hL hst
 go_enter func333,ntmps333
 go_wp2_with fail
 rw[←hq]
 have HQ:=jH hq
 clear hq
 generalize w.alloc (cL #[PT (some ⟨lg,0,none⟩)] 171)=w0 at *
 have HC:Hid (∀W g0 g1,Below w0.heap.size w0 W→ab W g0 51 #[G A1 n c1,G (some ⟨g1,0,none⟩) 1 1]→ab W g1 3 #[X Y nx]→Calls Pg 414 #[G (some ⟨g0,0,none⟩) 2 2] W fun e w'=>∃A c,e=rT (G A (n + 1) c)∧w'.ownsRow W.heap.size 3 1 (G A (n + 1) c) (n + 1) (nv (segs++[nx]))∧Below W.heap.size W w'):=by
  intro W g0 g1 hb hg0 hg1
  exact DB g0 A1 (some ⟨g1,0,none⟩) n 1 c1 1 W.heap.size segs [nx] W hg0 ((Reads.of_own H.out.2.2.2.2.2.1).below hb |>.more hb.size) ((gV hg1 rfl).more hg1.lt) (nR _) (by omega) (by omega) hs0
 go_cut [3] from 37 (fun v3 wc=>∃bm A c,v3=PT (some ⟨bm,0,none⟩)∧Hid (Below w0.heap.size w0 wc∧ab wc bm 259 #[X Y V,X Y (nx + 1:Nat),G A (n + 1) c]∧wc.ownsRow aa 3 1 (G A (n + 1) c) (n + 1) (nv (segs++[nx]))))
 case first=>
  have hs:=World.size_alloc
  have C2:∀o o2,Below w0.heap.size w0 ((w0.alloc o).alloc o2).drew:=fun o o2=>(((bR _ w0).alloc (nR _) o).alloc (by rw[hs];omega) o2).drew
  have C3:∀o o2 o3,Below w0.heap.size w0 (((w0.alloc o).alloc o2).alloc o3).drew:=fun o o2 o3=>((((bR _ w0).alloc (nR _) o).alloc (by rw[hs];omega) o2).alloc (by rw[hs,hs];omega) o3).drew
  have B0:∀t cs,ab (w0.alloc (.cells cs t)) w0.heap.size t cs:=fun t cs=>ab.new _ _ _
  have B1:∀o t cs,ab ((w0.alloc o).alloc (.cells cs t)) (w0.heap.size + 1) t cs:=fun o t cs=>by have:=ab.new (w0.alloc o) t cs;rwa [hs] at this
  have B2:∀o o2 t cs,ab (((w0.alloc o).alloc o2).alloc (.cells cs t)) (w0.heap.size + 2) t cs:=fun o o2 t cs=>by have:=ab.new ((w0.alloc o).alloc o2) t cs;rwa [hs,hs] at this
  have HB:=jH (aI C2 (aI C3 (aI B0 (aI B1 B2))))
  clear C2 C3 B0 B1 B2 hs
  have SS:∀W,Below w0.heap.size w0 W→(W.cell? ⟨q,0,none⟩=some (PT (some ⟨lg,0,none⟩))∧W.cell? ⟨lg,2,none⟩=some (X Y V)∧W.cell? ⟨lg,3,none⟩=some (X Y nx)∧W.cell? ⟨lg,4,none⟩=some (G A1 n c1)):=fun W hb=>by
   have k0:=H.out.2.2.1.below hb H.out.2.2.1.lt
   have k1:=H.out.2.2.2.2.1.below hb H.out.2.2.2.2.1.lt
   exact⟨k0.cell 0,k1.cell 2,k1.cell 3,k1.cell 4⟩
  have HSS:=jH SS
  clear SS
  have c0:w0.drew.cell? ⟨q,0,none⟩=some (PT (some ⟨lg,0,none⟩))∧w0.drew.cell? ⟨lg,2,none⟩=some (X Y V)∧w0.drew.cell? ⟨lg,3,none⟩=some (X Y nx)∧w0.drew.cell? ⟨lg,4,none⟩=some (G A1 n c1):=⟨d0,e2,e3,e4⟩
  have HF1:Hid (∀(A3:Option Addr) (c3:Nat) (w3:World) (W:World),Below w0.heap.size w0 W→w3.ownsRow W.heap.size 3 1 (G A3 (n + 1) c3) (n + 1) (nv (segs++[nx]))→Below W.heap.size W w3→Hid (Below w0.heap.size w0 (w3.alloc (cL #[X Y V,X Y (nx + 1:Nat),G A3 (n + 1) c3] 259))∧ab (w3.alloc (cL #[X Y V,X Y (nx + 1:Nat),G A3 (n + 1) c3] 259)) w3.heap.size 259 #[X Y V,X Y (nx + 1:Nat),G A3 (n + 1) c3]∧(w3.alloc (cL #[X Y V,X Y (nx + 1:Nat),G A3 (n + 1) c3] 259)).ownsRow aa 3 1 (G A3 (n + 1) c3) (n + 1) (nv (segs++[nx])))):=by
   intro A3 c3 w3 W hb ho h3
   have h03:=hb.trans (h3.mono hb.size)
   have an:aa≤W.heap.size:=by have:=H.out.2.2.2.2.2.2.2;have:=H.out.2.1.size;have:=hb.size;omega
   exact⟨h03.alloc h03.size _,ab.new _ _ _,cO (aJ ho ((bR _ _).alloc (nR _) _)) an⟩
  have HF2:Hid (∀(A3:Option Addr) (c3:Nat) (w3:World) (W:World) (zp:Nat),Below w0.heap.size w0 W→w3.ownsRow W.heap.size 3 1 (G A3 (n + 1) c3) (n + 1) (nv (segs++[nx]))→Below W.heap.size W w3→ab W zp 259 #[X Y 0,X Y 0,G none 0 0]→w0.heap.size≤zp→
    Hid (Below w0.heap.size w0 (((w3.setCell ⟨zp,0,none⟩ (X Y V)).setCell ⟨zp,1,none⟩ (X Y (nx + 1:Nat))).setCell ⟨zp,2,none⟩ (G A3 (n + 1) c3))∧ab (((w3.setCell ⟨zp,0,none⟩ (X Y V)).setCell ⟨zp,1,none⟩ (X Y (nx + 1:Nat))).setCell ⟨zp,2,none⟩ (G A3 (n + 1) c3)) zp 259 #[X Y V,X Y (nx + 1:Nat),G A3 (n + 1) c3]∧(((w3.setCell ⟨zp,0,none⟩ (X Y V)).setCell ⟨zp,1,none⟩ (X Y (nx + 1:Nat))).setCell ⟨zp,2,none⟩ (G A3 (n + 1) c3)).ownsRow aa 3 1 (G A3 (n + 1) c3) (n + 1) (nv (segs++[nx])))∧w3.cell? ⟨zp,0,none⟩=some (X Y 0)∧w3.frozen? ⟨zp,0,none⟩=false∧(∀u,(w3.setCell ⟨zp,0,none⟩ u).cell? ⟨zp,1,none⟩=some (X Y 0))∧(∀u,(w3.setCell ⟨zp,0,none⟩ u).frozen? ⟨zp,1,none⟩=false)∧(∀u v,((w3.setCell ⟨zp,0,none⟩ u).setCell ⟨zp,1,none⟩ v).cell? ⟨zp,2,none⟩=some (G none 0 0))∧(∀u v,((w3.setCell ⟨zp,0,none⟩ u).setCell ⟨zp,1,none⟩ v).frozen? ⟨zp,2,none⟩=false)∧w3.cell? ⟨zp,1,none⟩=some (X Y 0)∧w3.frozen? ⟨zp,1,none⟩=false∧w3.cell? ⟨zp,2,none⟩=some (G none 0 0)∧w3.frozen? ⟨zp,2,none⟩=false∧
    (∀u v x,(((w3.setCell ⟨zp,0,none⟩ u).setCell ⟨zp,1,none⟩ v).setCell ⟨zp,2,none⟩ x).cell? ⟨q,0,none⟩=some (PT (some ⟨lg,0,none⟩))∧(((w3.setCell ⟨zp,0,none⟩ u).setCell ⟨zp,1,none⟩ v).setCell ⟨zp,2,none⟩ x).cell? ⟨lg,2,none⟩=some (X Y V)∧(((w3.setCell ⟨zp,0,none⟩ u).setCell ⟨zp,1,none⟩ v).setCell ⟨zp,2,none⟩ x).cell? ⟨lg,3,none⟩=some (X Y nx)∧(((w3.setCell ⟨zp,0,none⟩ u).setCell ⟨zp,1,none⟩ v).setCell ⟨zp,2,none⟩ x).cell? ⟨lg,4,none⟩=some (G A1 n c1))):=by
   intro A3 c3 w3 W zp hb ho h3 hz hzp
   have h03:=hb.trans (h3.mono hb.size)
   have an:aa≤W.heap.size:=by have:=H.out.2.2.2.2.2.2.2;have:=H.out.2.1.size;have:=hb.size;omega
   have kz:=hz.below h3 hz.lt
   have k1:=fun u=>kz.set_ 0 u
   have k2:=fun u v=>(k1 u).set_ 1 v
   have lo:∀{W:World} (i:Nat) (u:Value),Below w0.heap.size w0 W→Below w0.heap.size w0 (W.setCell ⟨zp,i,none⟩ u):=fun i u h=>h.setCell (p:=⟨zp,i,none⟩) hzp u
   refine⟨⟨lo _ _ (lo _ _ (lo _ _ h03)),(k2 _ _).set_ 2 _,cO (aB (aB (aB ho kz (by decide) 0 _) (k1 _) (by decide) 1 _) (k2 _ _) (by decide) 2 _) an⟩,kz.cell 0,kz.frozen 0,fun u=>by simpa using (k1 u).cell 1,fun u=>(k1 u).frozen 1,fun u v=>by simpa using (k2 u v).cell 2,fun u v=>(k2 u v).frozen 2,kz.cell 1,kz.frozen 1,kz.cell 2,kz.frozen 2,fun u v x=>HSS.out _ (lo _ _ (lo _ _ (lo _ _ h03)))⟩
  have a1:=fun o=>HSS.out (w0.alloc o).drew (((bR _ w0).alloc (nR _) o).drew)
  have a2:=fun o o2=>HSS.out _ (HB.out.1 o o2)
  have a3:=fun o o2 o3=>HSS.out _ (HB.out.2.1 o o2 o3)
  go_region_held3 (fun wS=>wS.cell? ⟨q,0,none⟩=some (PT (some ⟨lg,0,none⟩))∧wS.cell? ⟨lg,2,none⟩=some (X Y V)∧wS.cell? ⟨lg,3,none⟩=some (X Y nx)∧wS.cell? ⟨lg,4,none⟩=some (G A1 n c1)) (first|with_reducible exact c0|with_reducible exact g0|with_reducible exact g1 _|with_reducible exact g2 _ _ _|with_reducible exact a1 _|with_reducible exact a2 _ _|with_reducible exact a3 _ _ _|fail)
   (first
    |(go_at_call 414;(first
      |((with_reducible refine(HC.out ((w0.alloc (cL #[X Y nx] 3)).alloc (cL #[G A1 n c1,G (some ⟨w0.heap.size,0,none⟩) 1 1] 51)).drew _ _ (HB.out.1 _ _) (HB.out.2.2.2.1 _ _ _).drew ((HB.out.2.2.1 _ _).alloc _).drew).mono ?_);rintro e w3 ⟨A3,c3,rfl,bK,al⟩;have hbc:Below w0.heap.size w0 ((w0.alloc (cL #[X Y nx] 3)).alloc (cL #[G A1 n c1,G (some ⟨w0.heap.size,0,none⟩) 1 1] 51)).drew:=(HB.out.1 _ _);have hb03:=hbc.trans (al.mono hbc.size);have g0:=HSS.out w3 hb03;have g1:=fun o=>HSS.out (w3.alloc o) (hb03.alloc hb03.size o);have HZ:=HF1.out A3 c3 w3 _ hbc bK al;clear bK al hbc)
      |((with_reducible refine(HC.out (((w0.alloc (cL #[X Y 0,X Y 0,G none 0 0] 259)).alloc (cL #[X Y nx] 3)).alloc (cL #[G A1 n c1,G (some ⟨w0.heap.size + 1,0,none⟩) 1 1] 51)).drew _ _ (HB.out.2.1 _ _ _) (HB.out.2.2.2.2 _ _ _ _).drew ((HB.out.2.2.2.1 _ _ _).alloc _).drew).mono ?_);rintro e w3 ⟨A3,c3,rfl,bK,al⟩;have hbc:Below w0.heap.size w0 (((w0.alloc (cL #[X Y 0,X Y 0,G none 0 0] 259)).alloc (cL #[X Y nx] 3)).alloc (cL #[G A1 n c1,G (some ⟨w0.heap.size + 1,0,none⟩) 1 1] 51)).drew:=(HB.out.2.1 _ _ _);have hb03:=hbc.trans (al.mono hbc.size);have g0:=HSS.out w3 hb03;obtain⟨HZ,y0,y1,y2,y3,y4,y5,y6,y7,y8,y9,g2⟩:=HF2.out A3 c3 w3 _ (w0.heap.size) hbc bK al (((HB.out.2.2.1 _ _).alloc _).alloc _).drew (by omega);clear bK al hbc)
      |((with_reducible refine(HC.out (((w0.alloc (cL #[X Y nx] 3)).alloc (cL #[X Y 0,X Y 0,G none 0 0] 259)).alloc (cL #[G A1 n c1,G (some ⟨w0.heap.size,0,none⟩) 1 1] 51)).drew _ _ (HB.out.2.1 _ _ _) (HB.out.2.2.2.2 _ _ _ _).drew (((HB.out.2.2.1 _ _).alloc _).alloc _).drew).mono ?_);rintro e w3 ⟨A3,c3,rfl,bK,al⟩;have hbc:Below w0.heap.size w0 (((w0.alloc (cL #[X Y nx] 3)).alloc (cL #[X Y 0,X Y 0,G none 0 0] 259)).alloc (cL #[G A1 n c1,G (some ⟨w0.heap.size,0,none⟩) 1 1] 51)).drew:=(HB.out.2.1 _ _ _);have hb03:=hbc.trans (al.mono hbc.size);have g0:=HSS.out w3 hb03;obtain⟨HZ,y0,y1,y2,y3,y4,y5,y6,y7,y8,y9,g2⟩:=HF2.out A3 c3 w3 _ (w0.heap.size + 1) hbc bK al ((HB.out.2.2.2.1 _ _ _).alloc _).drew (by omega);clear bK al hbc)
      |((with_reducible refine(HC.out (((w0.alloc (cL #[X Y nx] 3)).alloc (cL #[G A1 n c1,G (some ⟨w0.heap.size,0,none⟩) 1 1] 51)).alloc (cL #[X Y 0,X Y 0,G none 0 0] 259)).drew _ _ (HB.out.2.1 _ _ _) ((HB.out.2.2.2.1 _ _ _).alloc _).drew (((HB.out.2.2.1 _ _).alloc _).alloc _).drew).mono ?_);rintro e w3 ⟨A3,c3,rfl,bK,al⟩;have hbc:Below w0.heap.size w0 (((w0.alloc (cL #[X Y nx] 3)).alloc (cL #[G A1 n c1,G (some ⟨w0.heap.size,0,none⟩) 1 1] 51)).alloc (cL #[X Y 0,X Y 0,G none 0 0] 259)).drew:=(HB.out.2.1 _ _ _);have hb03:=hbc.trans (al.mono hbc.size);have g0:=HSS.out w3 hb03;obtain⟨HZ,y0,y1,y2,y3,y4,y5,y6,y7,y8,y9,g2⟩:=HF2.out A3 c3 w3 _ (w0.heap.size + 2) hbc bK al (HB.out.2.2.2.2 _ _ _ _).drew (by omega);clear bK al hbc)))
    |fail)
  all_goals
   go_wp2_with fail
   go_meet
   exact⟨_,A3,c3,rfl,HZ⟩
 case rest=>
  clear HC
  obtain⟨bm,A3,c3,rfl,H3⟩:=hcut
  have H4:Hid (P0 wc∧Below w.heap.size w wc∧ab wc q 171 #[PT (some ⟨lg,0,none⟩)]∧bQ wc aa lg d size V nx segs false∧ab wc lg 265 #[PT (some ⟨d,0,none⟩),X Y size,X Y V,X Y nx,G A1 n c1,bL false]∧ab wc bm 259 #[X Y V,X Y (nx + 1:Nat),G A3 (n + 1) c3]∧wc.ownsRow aa 3 1 (G A3 (n + 1) c3) (n + 1) (nv (segs++[nx]))∧aa≤w.heap.size):=by
   obtain⟨g1,g2,g3,g4,g5,-,-,g8⟩:=H.out
   obtain⟨r1,r2,r3⟩:=H3.out
   exact⟨HST.out _ _ g1 r1,g2.trans (r1.mono g2.size),g3.below r1 g3.lt,g4.made r1,g5.below r1 g5.lt,r2,r3,g8⟩
  clear H H3
  have x0:=H4.out.2.2.1.c1
  have x3:=H4.out.2.2.2.2.1.cell 3
  simp only[ga,gz,gN] at x3
  have CN:=jH (kl nx hnx1 (by omega) wc)
  obtain⟨nm,hnm⟩:∃nm,nm=aN nx:=⟨_,rfl⟩
  rw[←hnm] at CN
  have HNM:=jH hnm
  clear hnm
  go_wp2_with fail
  refine CN.out.mono ?_
  rintro e w5 ⟨rfl,aK⟩
  have H5:Hid (P0 w5∧Below w.heap.size w w5∧ab w5 q 171 #[PT (some ⟨lg,0,none⟩)]∧bQ w5 aa lg d size V nx segs false∧ab w5 bm 259 #[X Y V,X Y (nx + 1:Nat),G A3 (n + 1) c3]∧w5.ownsRow aa 3 1 (G A3 (n + 1) c3) (n + 1) (nv (segs++[nx]))∧aa≤w.heap.size):=by
   obtain⟨g1,g2,g3,g4,g5,g6,g7,g8⟩:=H4.out
   exact⟨HST.out _ _ g1 aK,g2.trans (aK.mono g2.size),g3.below aK g3.lt,g4.made aK,g6.below aK g6.lt,aJ g7 aK,g8⟩
  clear H4 aK CN x0 x3
  go_wp2_with fail
  obtain⟨bn,hbn⟩:∃bn,bn=w5.heap.size:=⟨_,rfl⟩
  rw[←hbn]
  have hx8:=((ab.new w5 9 #[.string nm]).alloc (cL #[.func (.func 415) #[] #[PT (some ⟨q,0,none⟩)],.func (.func 416) #[] #[PT (some ⟨q,0,none⟩)],.func (.func 417) #[] #[PT (some ⟨q,0,none⟩),PT (some ⟨bn,0,none⟩)],.func (.func 418) #[] #[PT (some ⟨q,0,none⟩),PT (some ⟨bm,0,none⟩)]] 71))
  have hg8:=ab.new (w5.alloc (cL #[.string nm] 9)) 71 #[.func (.func 415) #[] #[PT (some ⟨q,0,none⟩)],.func (.func 416) #[] #[PT (some ⟨q,0,none⟩)],.func (.func 417) #[] #[PT (some ⟨q,0,none⟩),PT (some ⟨bn,0,none⟩)],.func (.func 418) #[] #[PT (some ⟨q,0,none⟩),PT (some ⟨bm,0,none⟩)]]
  rw[World.size_alloc,←hbn] at hg8
  rw[←hbn] at hx8
  have hb8:Below w5.heap.size w5 ((w5.alloc (cL #[.string nm] 9)).alloc (cL #[.func (.func 415) #[] #[PT (some ⟨q,0,none⟩)],.func (.func 416) #[] #[PT (some ⟨q,0,none⟩)],.func (.func 417) #[] #[PT (some ⟨q,0,none⟩),PT (some ⟨bn,0,none⟩)],.func (.func 418) #[] #[PT (some ⟨q,0,none⟩),PT (some ⟨bm,0,none⟩)]] 71)):=((bR _ _).alloc (nR _) _).alloc (by rw[World.size_alloc];omega) _
  have H8:(fun Vv:World=>Hid (P0 Vv∧Below w.heap.size w Vv∧ab Vv q 171 #[PT (some ⟨lg,0,none⟩)]∧bQ Vv aa lg d size V nx segs false∧ab Vv bm 259 #[X Y V,X Y (nx + 1:Nat),G A3 (n + 1) c3]∧Vv.ownsRow aa 3 1 (G A3 (n + 1) c3) (n + 1) (nv (segs++[nx]))∧aa≤w.heap.size)) ((w5.alloc (cL #[.string nm] 9)).alloc (cL #[.func (.func 415) #[] #[PT (some ⟨q,0,none⟩)],.func (.func 416) #[] #[PT (some ⟨q,0,none⟩)],.func (.func 417) #[] #[PT (some ⟨q,0,none⟩),PT (some ⟨bn,0,none⟩)],.func (.func 418) #[] #[PT (some ⟨q,0,none⟩),PT (some ⟨bm,0,none⟩)]] 71)):=by
   obtain⟨g1,g2,g3,g4,g5,g6,g7⟩:=H5.out
   exact⟨HST.out _ _ g1 hb8,g2.trans (hb8.mono g2.size),g3.below hb8 g3.lt,g4.made hb8,g5.below hb8 g5.lt,aJ g6 hb8,g7⟩
  clear H5 hb8
  clear hbn
  generalize (w5.alloc (cL #[.string nm] 9)).alloc (cL #[.func (.func 415) #[] #[PT (some ⟨q,0,none⟩)],.func (.func 416) #[] #[PT (some ⟨q,0,none⟩)],.func (.func 417) #[] #[PT (some ⟨q,0,none⟩),PT (some ⟨bn,0,none⟩)],.func (.func 418) #[] #[PT (some ⟨q,0,none⟩),PT (some ⟨bm,0,none⟩)]] 71)=w8 at *
  refine(mi [(415,#[],#[PT (some ⟨q,0,none⟩)]),(416,#[],#[PT (some ⟨q,0,none⟩)]),(417,#[],#[PT (some ⟨q,0,none⟩),PT (some ⟨bn,0,none⟩)]),(418,#[],#[PT (some ⟨q,0,none⟩),PT (some ⟨bm,0,none⟩)])] (some ⟨bn + 1,0,none⟩) 4 4 (bn + 2)
   (fun i W=>match i with
    |0=>Fr KN [mn] aa w8 W∧P0 W
    |1=>Fr KN [mn] aa w8 W∧P1 W
    |2=>Fr KN [mn] aa w8 W∧P2 W
    |3=>Fr KN [mn] aa w8 W∧P3 W
    |_=>Fr KT [mn] aa w8 W∧P4 W) w8 rfl (by omega)
   (fun p hp=>by
    rcases List.mem_cons.1 hp with rfl|hp
    ·exact enters_of func415 (by kernel_rfl) rfl
    ·rcases List.mem_cons.1 hp with rfl|hp
     ·exact enters_of func416 (by kernel_rfl) rfl
     ·rcases List.mem_cons.1 hp with rfl|hp
      ·exact enters_of func417 (by kernel_rfl) rfl
      ·rcases List.mem_cons.1 hp with rfl|hp
       ·exact enters_of func418 (by kernel_rfl) rfl
       ·cases hp)
   (fun i W hW=>by
    have hf:Fr KT [mn] aa w8 W:=by
     match i,hW with
     |0,hW=>exact hW.1.mono (by decide) (by simp)
     |1,hW=>exact hW.1.mono (by decide) (by simp)
     |2,hW=>exact hW.1.mono (by decide) (by simp)
     |3,hW=>exact hW.1.mono (by decide) (by simp)
     |_ + 4,hW=>exact hW.1
    exact gV (hf.blk _ _ _ hg8 (by decide)) rfl) ⟨Fr.refl _ _ _ _,H8.out.1⟩ ?_).mono ?_
  ·intro i hi W hW
   match i,hi,hW with
   |0,_,hW=>
    show Calls _ _ #[PT (some ⟨q,0,none⟩)] _ _
    refine(HS.out.1 W q hW.2 (H8.out.2.2.2.1.fr hW.1 (by decide) (by decide)) (hW.1.blk _ _ _ H8.out.2.2.1 (by decide))).mono ?_
    rintro e w' ⟨rfl,h1,h2⟩
    exact⟨rfl,hW.1.trans h2,h1⟩
   |1,_,hW=>
    show Calls _ _ #[PT (some ⟨q,0,none⟩)] _ _
    refine(HS.out.2.1 W q hW.2 (H8.out.2.2.2.1.fr hW.1 (by decide) (by decide)) (hW.1.blk _ _ _ H8.out.2.2.1 (by decide))).mono ?_
    rintro e w' ⟨rfl,h1,h2⟩
    exact⟨rfl,hW.1.trans h2,h1⟩
   |2,_,hW=>
    show Calls _ _ #[PT (some ⟨q,0,none⟩),PT (some ⟨bn,0,none⟩)] _ _
    refine(HS.out.2.2.1 W q bn hW.2 (H8.out.2.2.2.1.fr hW.1 (by decide) (by decide)) (hW.1.blk _ _ _ H8.out.2.2.1 (by decide)) (HNM.out▸hW.1.blk _ _ _ hx8 (by decide))).mono ?_
    rintro e w' ⟨rfl,h1,h2⟩
    exact⟨rfl,hW.1.trans h2,h1⟩
   |3,_,hW=>
    show Calls _ _ #[PT (some ⟨q,0,none⟩),PT (some ⟨bm,0,none⟩)] _ _
    refine(HS.out.2.2.2 W q bm A3 c3 hW.2 (nT H8.out.2.1.size hW.1.size) (H8.out.2.2.2.1.fr hW.1 (by decide) (by decide)) (hW.1.blk _ _ _ H8.out.2.2.1 (by decide)) (hW.1.blk _ _ _ H8.out.2.2.2.2.1 (by decide)) (hW.1.own H8.out.2.2.2.2.2.1 (by decide))).mono ?_
    rintro e w' ⟨rfl,h1,h2⟩
    exact⟨rfl,(hW.1.mono (by decide) (by simp)).trans h2,h1⟩
  ·rintro e w9 ⟨rfl,hf9,hP9⟩
   have HE:Hid (P4 w9∧Fr KT [mn] aa w w9):=⟨hP9,(Fr.of_below _ _ H8.out.2.1 H8.out.2.2.2.2.2.2).trans hf9⟩
   clear hf9 hP9 H8 hx8 hg8
   go_wp2_with fail
   go_ret
   exact⟨rfl,HE.out⟩
theorem Aj (aa lg d mn ms size V nx x f bl bb:Nat)(segs:List Nat)(D:aF)(p:bM)(A:Option Addr)(n c:Nat)(P:World→Prop)(w:World)(hl:ab w bl 171 #[PT (some ⟨lg,0,none⟩)])(hb:ab w bb 23 #[G A n c])
  (hD:ar w aa d mn ms D)(hL:bQ w aa lg d size V nx segs false)(hs:segs.length≤64)(hx:segs.getLast? =some x)(h1:1≤x)(h2:x < 1000000)(hm:av D.now (aN x)=some f)(hp:av D.fs f=some p)(hll:p.b.length≤1048576)(hn:n≤1048576)
  (S:∀W,Below w.heap.size w W→(decide (p.b.length=0∨p.b.length + n≤size)=true→P W)∧(decide (p.b.length=0∨p.b.length + n≤size)=false→Calls Pg 333 #[PT (some ⟨lg,0,none⟩)] W fun e w'=>e=rT (X Y 0)∧P w'∧Fr KT [mn] aa W w')):
  Calls Pg 331 #[PT (some ⟨bl,0,none⟩),PT (some ⟨bb,0,none⟩)] w fun e w'=>e=rT (X Y 0)∧P w'∧Fr KT [mn] aa w w':=by
 have c0:w.drew.cell? ⟨bl,0,none⟩=some (PT (some ⟨lg,0,none⟩))∧w.drew.cell? ⟨bb,0,none⟩=some (G A n c):=⟨by have:=hl.cell 0;simpa using this,by have:=hb.cell 0;simpa using this⟩
 have hB:bl < w.heap.size∧bb < w.heap.size:=⟨hl.lt,hb.lt⟩
 have hLd:=hL.made (bR w.heap.size w).drew
 have C1:=jH (jd aa lg d size V nx segs false x w.drew hLd hs hx h1 h2)
 have H:=jH (aI hD hL)
 have HB:=jH (fun W hb=>si aa lg d mn ms size V nx f segs false D p (aN x) W (hL.made hb) (hD.made hb) (fe (fK x)) hm hp)
 have HF:=jH (fun W hb=>Ce aa lg d size V nx p.b.length n segs false W (hL.made hb) (by omega) (by omega))
 have HS:=jH S
 have hhi:=jH hD.hi
 generalize decide (p.b.length=0∨p.b.length + n≤size)=r at *
 generalize aN x=nm at *
 generalize p.b.length=len at *
 clear hl hb hD hL hLd hm hp hx S
 go_enter func331,ntmps331
 go_wp2_with fail
 go_region_held3 (fun wS=>wS.cell? ⟨bl,0,none⟩=some (PT (some ⟨lg,0,none⟩))∧wS.cell? ⟨bb,0,none⟩=some (G A n c)) (first|with_reducible exact c0|with_reducible exact e0|with_reducible exact g0|fail)
  (first
   |(go_at_call 194;(with_reducible refine C1.out.mono ?_);rintro e w1 ⟨rfl,ae⟩;have bf:=(bR w.heap.size w).drew.trans ae;have e0:w1.cell? ⟨bl,0,none⟩=some (PT (some ⟨lg,0,none⟩))∧w1.cell? ⟨bb,0,none⟩=some (G A n c):=⟨(ae.cell hB.1).trans c0.1,(ae.cell hB.2).trans c0.2⟩;have C2:=HB.out w1 bf)
   |(go_at_call 193;(with_reducible refine C2.mono ?_);rintro e w2 ⟨rfl,af⟩;have hb02:=bf.trans (af.mono bf.size);have g0:w2.cell? ⟨bl,0,none⟩=some (PT (some ⟨lg,0,none⟩))∧w2.cell? ⟨bb,0,none⟩=some (G A n c):=⟨(af.cell (Nat.lt_of_lt_of_le hB.1 ae.size)).trans e0.1,(af.cell (Nat.lt_of_lt_of_le hB.2 ae.size)).trans e0.2⟩;have C3:=HF.out w2 hb02)
   |(go_at_call 332;(with_reducible refine C3.mono ?_);rintro e w3 ⟨rfl,rfl⟩))
 all_goals
  have HE:=jH hb02
  have k0:=g0.1
  clear C2 C3 ae af bf hb02 C1
  cases r with
  |true=>
   have HP:=jH ((HS.out _ HE.out).1 rfl)
   go_wp2_with fail
   go_ret
   exact⟨rfl,HP.out,Fr.of_below _ _ HE.out hhi.out⟩
  |false=>
   have CT:=jH ((HS.out _ HE.out).2 rfl)
   go_wp2_with fail
   refine CT.out.mono ?_
   rintro e w4 ⟨rfl,hP,hf⟩
   have HP:=jH (aI hP hf)
   clear hP hf
   go_wp2_with fail
   go_ret
   exact⟨rfl,HP.out.1,(Fr.of_below _ _ HE.out hhi.out).trans HP.out.2⟩
theorem Ai (aa base2 lg d mn ms size V nx x0 f bl bb:Nat)(segs:List Nat)(D:aF)(p:bM)(A:Option Addr)(n c:Nat)(x:List Nat)(w:World)(hl:ab w bl 171 #[PT (some ⟨lg,0,none⟩)])(hb:ab w bb 23 #[G A n c])
  (hD:ar w aa d mn ms D)(hL:bQ w aa lg d size V nx segs false)(hs:segs.length≤64)(hx0:segs.getLast? =some x0)(h1:1≤x0)(h2:x0 < 1000000)(bo:D.fail=0)(aP:D.ops≤900000000000)(aV:D.now.length≤100000)(hm:av D.now (aN x0)=some f)(hp:av D.fs f=some p)(hsrc:w.ownsRow base2 5 1 (G A n c) n (bv x))(hx:ay x)(cy:db D (some f) n=true):
  Calls Pg 334 #[PT (some ⟨bl,0,none⟩),PT (some ⟨bb,0,none⟩)] w fun e w'=>e=rT (X Y 0)∧ar w' aa d mn ms {D.op with fs:=aw D.fs f ⟨p.b++x,p.sure⟩}∧Fr KD [mn] aa w w':=by
 obtain⟨hl0,A1,c1,hk,hko⟩:=id hL
 have c0:w.drew.cell? ⟨bl,0,none⟩=some (PT (some ⟨lg,0,none⟩))∧w.drew.cell? ⟨bb,0,none⟩=some (G A n c)∧w.drew.cell? ⟨lg,0,none⟩=some (PT (some ⟨d,0,none⟩)):=⟨by have:=hl.cell 0;simpa using this,by have:=hb.cell 0;simpa using this,by have:=hk.cell 0;simpa using this⟩
 have hB:bl < w.heap.size∧bb < w.heap.size∧lg < w.heap.size:=⟨hl.lt,hb.lt,hk.lt⟩
 have hLd:=hL.made (bR w.heap.size w).drew
 have C1:=jH (jd aa lg d size V nx segs false x0 w.drew hLd hs hx0 h1 h2)
 have HAP:=jH (fun W (hW:ar W aa d mn ms D) (hs:W.ownsRow base2 5 1 (G A n c) n (bv x))=>E7 aa base2 d mn ms D (aN x0) A n c x W hW aP bo (fK x0) aV f p hm hp hs hx cy)
 generalize ({D.op with fs:=aw D.fs f ⟨p.b++x,p.sure⟩}:aF)=D2 at *
 generalize aN x0=nm at *
 have H:=jH (aI hD (aI hL (aI hsrc (aI hl (aI hb hk)))))
 clear hl hb hD hL hLd hsrc hk hko hm hp cy hx0
 go_enter func334,ntmps334
 go_wp2_with fail
 go_region_held3 (fun wS=>wS.cell? ⟨bl,0,none⟩=some (PT (some ⟨lg,0,none⟩))∧wS.cell? ⟨bb,0,none⟩=some (G A n c)∧wS.cell? ⟨lg,0,none⟩=some (PT (some ⟨d,0,none⟩))) (first|with_reducible exact c0|with_reducible exact e0|with_reducible exact g0|fail)
  (first
   |(go_at_call 194;(with_reducible refine C1.out.mono ?_);rintro e w1 ⟨rfl,ae⟩;have bf:=(bR w.heap.size w).drew.trans ae;have e0:w1.cell? ⟨bl,0,none⟩=some (PT (some ⟨lg,0,none⟩))∧w1.cell? ⟨bb,0,none⟩=some (G A n c)∧w1.cell? ⟨lg,0,none⟩=some (PT (some ⟨d,0,none⟩)):=⟨(ae.cell hB.1).trans c0.1,(ae.cell hB.2.1).trans c0.2.1,(ae.cell hB.2.2).trans c0.2.2⟩;have C2:=HAP.out w1 (H.out.1.made bf) (aJ H.out.2.2.1 bf))
   |(go_at_call 276;(with_reducible refine C2.mono ?_);rintro e w2 ⟨rfl,hD2,hf2⟩;have g0:w2.cell? ⟨bl,0,none⟩=some (PT (some ⟨lg,0,none⟩))∧w2.cell? ⟨bb,0,none⟩=some (G A n c)∧w2.cell? ⟨lg,0,none⟩=some (PT (some ⟨d,0,none⟩)):=⟨by {have:=(hf2.blk _ _ _ (H.out.2.2.2.1.below bf hB.1) (by decide)).cell 0;simpa using this},by {have:=(hf2.blk _ _ _ (H.out.2.2.2.2.1.below bf hB.2.1) (by decide)).cell 0;simpa using this},by {have:=(hf2.blk _ _ _ (H.out.2.2.2.2.2.below bf hB.2.2) (by decide)).cell 0;simpa using this}⟩))
 all_goals
  have HE:=jH (aI hD2 ((Fr.of_below KD [mn] bf H.out.1.hi).trans (hf2.mono (by decide) (by simp))))
  clear C2 ae bf hD2 hf2
  go_wp2_with fail
  go_ret
  exact⟨rfl,HE.out.1,HE.out.2⟩
end
section
open Go.RowKit
def nb (l:List Nat):Nat:=l.foldl (fun n x=>n * 256 + x) 0
theorem nL (l:List Nat)(k:Nat)(h:k < l.length):nb (l.take (k + 1))=nb (l.take k) * 256 + l[k]:=by
 unfold nb
 rw[List.take_succ_eq_append_getElem h,List.foldl_append];rfl
theorem jb {l:List Nat}(h:ay l):∀k,k≤l.length→nb (l.take k) < 256 ^ k
 |0,_=>by simp[nb]
 |k + 1,hk=>by
  have ih:=jb h k (by omega)
  have hx:=h _ (List.getElem_mem (l:=l) (n:=k) (by omega))
  rw[nL l k (by omega),Nat.pow_succ]
  omega
def aD (w:World)(p:Nat)(l:List Nat):Prop:=∃B A c,B≤p∧ab w p 466 #[G A l.length c,X Y 0]∧Reads w B 1 A l.length (bv l)∧l.length≤c
theorem aD.below {w w':World}{p:Nat}{l:List Nat}(h:aD w p l)(hb:Below w.heap.size w w'):aD w' p l:=by
 obtain⟨B,A,c,h1,h2,h3,h4⟩:=h
 have:=h2.lt
 exact⟨B,A,c,h1,h2.below hb h2.lt,h3.below (hb.mono (by omega)),h4⟩
theorem aD.lt {w:World}{p:Nat}{l:List Nat}(h:aD w p l):p < w.heap.size:=by
 obtain⟨B,A,c,h1,h2,h3,h4⟩:=h
 exact h2.lt
theorem oI (w:World)(p i:Nat)(v:Value):w.grownBy (w.setCell ⟨p,i,none⟩ v) (some p):=
 ⟨rfl,rfl,rfl,by simp,fun k _ hk=>heap_setCell_other w ⟨p,i,none⟩ k v (fun e=>hk (by simp[e]))⟩
theorem aD.behind {w w':World}{p q:Nat}{l:List Nat}(h:aD w p l)(hb:Below q w w')(hq:p < q):aD w' p l:=by
 obtain⟨B,A,c,h1,h2,h3,h4⟩:=h
 exact⟨B,A,c,h1,h2.below hb hq,h3.below (hb.mono (by omega)),h4⟩
def mr (n p:Nat)(l:List Nat)(w:World)(e:Ending)(w':World):Prop:=
 ∃A c B,e=rT (G A n c)∧B≤p∧Reads w' B 1 A n (bv (l.take n))∧aD w' p (l.drop n)∧w.grownBy w' (some p)
theorem mZ (p n:Nat)(l:List Nat)(w:World)(hn:n≤l.length)(hl:l.length≤140737488355328)(h:aD w p l):
  Calls Pg 442 #[PT (some ⟨p,0,none⟩),X Y n] w fun e w'=>mr n p l w e w':=by
 obtain⟨B,A,c,hB,aZ,hr,hlc⟩:=h
 have hdrop:=hr.cut (k:=n) hn hlc
 rw[Nat.mul_one] at hdrop
 have htake:=hr.takeb hn
 obtain⟨hc0,hc1⟩:=aZ.c2
 have hf0:=aZ.frozen 0
 have hd:(bv l).drop n=bv (l.drop n):=by simp[bv]
 rw[hd] at hdrop
 have hld:(l.drop n).length=l.length - n:=by simp
 have H:Hid (∀v,∀c',v=G (if c=n then A else A.map (·.add n)) (l.length - n) c'→l.length - n≤c'→mr n p l w (rT (G A n c)) (w.setCell ⟨p,0,none⟩ v)):=by
  intro v c' hv hc'
  subst hv
  refine⟨A,c,B,rfl,hB,htake.setCell (p:=⟨p,0,none⟩) hB _,⟨B,(if c=n then A else A.map (·.add n)),c',hB,?_,?_,by rw[hld];exact hc'⟩,oI w p 0 _⟩
  ·rw[hld]
   exact aZ.set_ 0 _
  ·rw[hld]
   exact hdrop.setCell (p:=⟨p,0,none⟩) hB _
 generalize l.length=m at *
 clear hdrop htake aZ hr hd hld
 by_cases hcn:c=n
 ·have hmn:m=n:=by omega
  have H':Hid (mr n p l w (rT (G A n c)) (w.setCell ⟨p,0,none⟩ (G A (m - n) 0))):=H.out _ 0 (by rw[if_pos hcn]) (by omega)
  subst hmn
  subst hcn
  rw[Nat.sub_self] at H'
  clear H
  go_enter func442,ntmps442
  go_wp2_with fail
  go_ret
  exact H'.out
 ·have H':Hid (mr n p l w (rT (G A n c)) (w.setCell ⟨p,0,none⟩ (G (A.map (·.add n)) (m - n) (c - n)))):=H.out _ (c - n) (by rw[if_neg hcn]) (by omega)
  clear H
  rcases A with _|ad
  ·go_enter func442,ntmps442
   go_wp2_with fail
   go_ret
   exact H'.out
  ·go_enter func442,ntmps442
   go_wp2_with fail
   go_ret
   exact H'.out
def gO (p aO:Nat)(l:List Nat)(w w':World):Prop:=aD w' p (l.drop aO)∧w.grownBy w' (some p)
theorem nH (p aO:Nat)(l:List Nat)(w:World)(hwd:aO≤4)(hn:aO≤l.length)(hl:l.length≤140737488355328)(ha:ay l)(h:aD w p l):
  Calls Pg 408 #[PT (some ⟨p,0,none⟩),X Y aO] w fun e w'=>e=rT (X .u64 (nb (l.take aO):Nat))∧gO p aO l w w':=by
 have HC:=jH (mZ p aO l w hn hl h)
 have HL:=jH (jb ha)
 have au:(l.take aO).length=aO:=by simp;omega
 have HT:=jH au
 have HA:=jH (ha.take aO)
 have HB:=jH (jb (ha.take aO))
 clear au ha h hn
 go_enter func408,ntmps408
 go_wp2_with fail
 refine HC.out.mono ?_
 rintro e w1 ⟨A,c,B,rfl,hB,hr,hrb,hbl⟩
 have HE:Hid (gO p aO l w w1):=⟨hrb,hbl⟩
 clear hrb hbl HC hl HL
 obtain⟨m,hm⟩:∃m,m=l.take aO:=⟨_,rfl⟩
 rw[←hm] at hr HT HA HB
 have HM:=jH hm
 clear hm
 go_wp2_with fail
 go_loop [5,12] (fun t i=>∃k:Nat,k≤aO∧i=X Y k∧t=X .u64 (nb (m.take k):Nat)) (fun _ i=>aO - (intOf i).toNat)
 case atStart=>exact⟨0,Nat.zero_le _,rfl,rfl⟩
 case round=>
  obtain⟨k,hk,rfl,rfl⟩:=hrel
  have au:=HB.out k (by rw[HT.out];exact hk)
  have hp:256 ^ k≤256 ^ 4:=Nat.pow_le_pow_right (by omega) (by omega)
  have hsm:nb (m.take k) < 256 ^ 4:=by omega
  have hsm':nb (m.take k) < 4294967296:=hsm
  clear au hp hsm
  by_cases hkw:k < aO
  ·obtain⟨ad,hl0,rfl,hc⟩:=gJ hr hkw
   have hx:=HA.out _ (List.getElem_mem hl0)
   have hnx:Hid (nb (m.take (k + 1))=nb (m.take k) * 256 + m[k]):=nL m k hl0
   generalize m[k]=x at *
   generalize nb (m.take k)=y at *
   have hor:bits BinOp.or IntKind.u64 ((y:Int) * 256) (x:Int)=((y * 256 + x:Nat):Int):=by
    have:=u64_or_nat (y * 256) x (by omega) (by omega)
    rw[nat_join 8 (y * 256) x (by omega) (by omega)] at this
    exact this
   go_wp2_with fail
   go_round
   case rel=>exact⟨k + 1,by omega,by go_num,by rw[hnx.out,Int.natCast_add,Int.natCast_mul];rfl⟩
   case measure=>simp[intOf];omega
  ·have hkk:k=aO:=by omega
   have hfin:Hid (m.take k=m):=by show _=_;rw[hkk];exact List.take_of_length_le (by rw[HT.out];exact nR _)
   rw[hfin.out]
   clear hkk
   go_wp2_with fail
   go_ret
   exact⟨by rw[←HM.out];rfl,HE.out⟩
theorem mG (p:Nat)(l:List Nat)(w:World)(hn:1≤l.length)(hl:l.length≤140737488355328)(ha:ay l)(h:aD w p l):
  Calls Pg 406 #[PT (some ⟨p,0,none⟩)] w fun e w'=>e=rT (X Y (nb (l.take 1):Nat))∧gO p 1 l w w':=by
 have HC:=jH (nH p 1 l w (by omega) hn hl ha h)
 have hb:nb (l.take 1) < 256:=jb ha 1 hn
 clear h ha
 go_enter func406,ntmps406
 go_wp2_with fail
 refine HC.out.mono ?_
 rintro e w1 ⟨rfl,he⟩
 have HE:=jH he
 clear he HC
 go_wp2_with fail
 go_ret
 exact⟨rfl,HE.out⟩
theorem mQ (p:Nat)(l:List Nat)(w:World)(hn:2≤l.length)(hl:l.length≤140737488355328)(ha:ay l)(h:aD w p l):
  Calls Pg 306 #[PT (some ⟨p,0,none⟩)] w fun e w'=>e=rT (X Y (nb (l.take 2):Nat))∧gO p 2 l w w':=by
 have HC:=jH (nH p 2 l w (by omega) hn hl ha h)
 have hb:nb (l.take 2) < 65536:=jb ha 2 hn
 clear h ha
 go_enter func306,ntmps306
 go_wp2_with fail
 refine HC.out.mono ?_
 rintro e w1 ⟨rfl,he⟩
 have HE:=jH he
 clear he HC
 go_wp2_with fail
 go_ret
 exact⟨rfl,HE.out⟩
theorem mJ (p:Nat)(l:List Nat)(w:World)(hn:4≤l.length)(hl:l.length≤140737488355328)(ha:ay l)(h:aD w p l):
  Calls Pg 305 #[PT (some ⟨p,0,none⟩)] w fun e w'=>e=rT (X Z (nb (l.take 4):Nat))∧gO p 4 l w w':=by
 have HC:=jH (nH p 4 l w (by omega) hn hl ha h)
 have hb:nb (l.take 4) < 4294967296:=jb ha 4 hn
 clear h ha
 go_enter func305,ntmps305
 go_wp2_with fail
 refine HC.out.mono ?_
 rintro e w1 ⟨rfl,he⟩
 have HE:=jH he
 clear he HC
 go_wp2_with fail
 go_ret
 exact⟨rfl,HE.out⟩
theorem ja (A:Option Addr)(n c B:Nat)(l:List Nat)(w:World)(hr:Reads w B 1 A n (bv l))(hB:B≤w.heap.size)(hn:n≤140737488355328)(bI:A=none→c=0):
  Calls Pg 304 #[G A n c] w fun e w'=>∃p,e=rT (PT (some ⟨p,0,none⟩))∧w.heap.size≤p∧aD w' p l∧Below w.heap.size w w':=by
 have HC:=jH (jO A n c B l w hr hB hn bI)
 have HL:=jH hr.length
 clear hr
 go_enter func304,ntmps304
 go_wp2_with fail
 refine HC.out.mono ?_
 rintro e w1 ⟨A1,c1,rfl,hown,hb⟩
 have HE:Hid (aD (w1.alloc (cL #[G A1 n c1,X Y 0] 466)) w1.heap.size l):=by
  refine⟨w1.heap.size,A1,c1,nR _,?_,?_,?_⟩
  ·rw[HL.out];exact ab.new _ _ _
  ·rw[HL.out];exact(Reads.of_own hown).alloc (nR _) _
  ·rw[HL.out]
   rcases hown.2 with⟨h,_⟩|⟨g,cap,cur,h,_,_,hc,_⟩
   ·cases h;exact nR _
   ·cases h;exact hc
 have hs:=hb.size
 clear hown HC
 go_wp2_with fail
 go_ret
 exact⟨_,rfl,hs,HE.out,hb.alloc hs _⟩
theorem xE (p:Nat)(l:List Nat)(w:World)(h:aD w p l):
  Calls Pg 443 #[PT (some ⟨p,0,none⟩)] w fun e w'=>e=rT (X Y l.length)∧w=w':=by
 obtain⟨B,A,c,hB,aZ,hr,hlc⟩:=h
 have g0:=aZ.c1
 clear aZ hr
 generalize l.length=n at *
 go_enter func443,ntmps443
 go_wp2_with fail
 go_ret
 exact⟨rfl,rfl⟩
theorem nr (p:Nat)(w:World)(h:aD w p []):
  Calls Pg 307 #[PT (some ⟨p,0,none⟩)] w fun e w'=>e=rT (X Y 0)∧w=w':=by
 obtain⟨B,A,c,hB,aZ,hr,hlc⟩:=h
 obtain⟨g0,g1⟩:=aZ.c2
 clear aZ hr
 go_enter func307,ntmps307
 go_wp2_with fail
 go_ret
 exact⟨rfl,rfl⟩
theorem yT (p:Nat)(l:List Nat)(w:World)(hn:8≤l.length)(hl:l.length≤140737488355328)(ha:ay l)(h:aD w p l):
  Calls Pg 408 #[PT (some ⟨p,0,none⟩),X Y 8] w fun e w'=>e=rT (X .u64 (nb (l.take 8):Nat))∧gO p 8 l w w':=by
 have HC:=jH (mZ p 8 l w hn hl h)
 rw[show ((8:Nat):Int)=8 from rfl] at HC
 have au:(l.take 8).length=8:=by simp;omega
 have HT:=jH au
 have HA:=jH (ha.take 8)
 have HB:=jH (jb (ha.take 8))
 clear au ha h hn
 go_enter func408,ntmps408
 go_wp2_with fail
 refine HC.out.mono ?_
 rintro e w1 ⟨A,c,B,rfl,hB,hr,hrb,hbl⟩
 have HE:Hid (gO p 8 l w w1):=⟨hrb,hbl⟩
 clear hrb hbl HC hl
 obtain⟨m,hm⟩:∃m,m=l.take 8:=⟨_,rfl⟩
 rw[←hm] at hr HT HA HB
 have HM:=jH hm
 clear hm
 go_wp2_with fail
 go_loop [5,12] (fun t i=>∃k:Nat,k≤8∧i=X Y k∧t=X .u64 (nb (m.take k):Nat)) (fun _ i=>8 - (intOf i).toNat)
 case atStart=>exact⟨0,Nat.zero_le _,rfl,rfl⟩
 case round=>
  obtain⟨k,hk,rfl,rfl⟩:=hrel
  have au:=HB.out k (by rw[HT.out];exact hk)
  by_cases hkw:k < 8
  ·have hp:256 ^ k≤256 ^ 7:=Nat.pow_le_pow_right (by omega) (by omega)
   have hsm':nb (m.take k) < 72057594037927936:=Nat.lt_of_lt_of_le au hp
   clear au hp
   obtain⟨ad,hl0,rfl,hc⟩:=gJ hr hkw
   have hx:=HA.out _ (List.getElem_mem hl0)
   have hnx:Hid (nb (m.take (k + 1))=nb (m.take k) * 256 + m[k]):=nL m k hl0
   generalize m[k]=x at *
   generalize nb (m.take k)=y at *
   have hor:bits BinOp.or IntKind.u64 ((y:Int) * 256) (x:Int)=((y * 256 + x:Nat):Int):=by
    have:=u64_or_nat (y * 256) x (by omega) (by omega)
    rw[nat_join 8 (y * 256) x (by omega) (by omega)] at this
    exact this
   go_wp2_with fail
   go_round
   case rel=>exact⟨k + 1,by omega,by go_num,by rw[hnx.out,Int.natCast_add,Int.natCast_mul];rfl⟩
   case measure=>simp[intOf];omega
  ·have hkk:k=8:=by omega
   have hfin:Hid (m.take k=m):=by show _=_;rw[hkk];exact List.take_of_length_le (by rw[HT.out];exact nR _)
   rw[hfin.out]
   clear hkk au
   go_wp2_with fail
   go_ret
   exact⟨by rw[←HM.out];rfl,HE.out⟩
theorem Ba (p:Nat)(l:List Nat)(w:World)(hn:8≤l.length)(hl:l.length≤140737488355328)(ha:ay l)(hx:nb (l.take 8) < 9223372036854775808)(h:aD w p l):
  Calls Pg 412 #[PT (some ⟨p,0,none⟩)] w fun e w'=>e=rT (X Y (nb (l.take 8):Nat))∧gO p 8 l w w':=by
 have HC:=jH (yT p l w hn hl ha h)
 clear h ha
 go_enter func412,ntmps412
 go_wp2_with fail
 refine HC.out.mono ?_
 rintro e w1 ⟨rfl,he⟩
 have HE:=jH he
 clear he HC
 go_wp2_with fail
 go_ret
 exact⟨rfl,HE.out⟩
theorem gO.below {p k:Nat}{l:List Nat}{w w':World}(h:gO p k l w w')(hp:p < w.heap.size):Below p w w':=
 (bR p w).grown h.2 (Nat.le_of_lt hp) (fun k hk=>by injection hk with hk;omega)
theorem yh (p n:Nat)(l:List Nat)(w:World)(hn:n≤l.length)(hn0:0 < n)(hl:l.length≤140737488355328)(h:aD w p l):
  Calls Pg 405 #[PT (some ⟨p,0,none⟩),X Y n] w fun e w'=>∃A' c',e=rT (G A' n c')∧w'.ownsRow w.heap.size 5 1 (G A' n c') n (bv (l.take n))∧aD w' p (l.drop n)∧Below p w w':=by
 have hp:=h.lt
 have HC:=jH (mZ p n l w hn hl h)
 have HP:=jH hp
 clear h hp
 go_enter func405,ntmps405
 go_wp2_with fail
 refine HC.out.mono ?_
 rintro e w1 ⟨A,c,B,rfl,hB,hr,hrb,hbl⟩
 have ae:Below p w w1:=(bR p w).grown hbl (Nat.le_of_lt HP.out) (fun k hk=>by injection hk with hk;omega)
 have hs1:=ae.size
 have CL:=jH (jO A n c B (l.take n) w1 hr (by have:=hrb.lt;omega) (by omega) (fun e=>by subst e;obtain⟨ad,_,h1,_⟩:=gJ hr (j:=0) (by omega);cases h1))
 have HE:Hid (aD w1 p (l.drop n)∧Below p w w1):=⟨hrb,ae⟩
 clear hrb hbl ae hr HC
 go_wp2_with fail
 refine CL.out.mono ?_
 rintro e w2 ⟨A2,c2,rfl,hown,af⟩
 have HF:Hid (w2.ownsRow w.heap.size 5 1 (G A2 n c2) n (bv (l.take n))∧aD w2 p (l.drop n)∧Below p w w2):=⟨cO hown hs1,HE.out.1.below af,HE.out.2.trans (af.mono (Nat.le_of_lt HE.out.1.lt))⟩
 clear hown af CL HE
 go_wp2_with fail
 go_ret
 exact⟨A2,c2,rfl,HF.out⟩
theorem zb (l:List Nat)(x:Nat):nb (l++[x])=nb l * 256 + x:=by simp[nb]
theorem Ex (n k:Nat):be n (k + 1)=be (n / 256) k++[n % 256]:=by
 unfold be
 rw[List.range_succ,List.map_append]
 congr 1
 ·refine List.map_congr_left fun i hi=>?_
  have hi:=List.mem_range.1 hi
  rw[show k + 1 - 1 - i=(k - 1 - i) + 1 by omega,Nat.pow_succ,Nat.mul_comm,Nat.div_div_eq_div_mul]
 ·simp
theorem im:∀(k n:Nat),n < 256 ^ k→nb (be n k)=n
 |0,n,h=>by
  have:n=0:=by simpa using h
  subst this;rfl
 |k + 1,n,h=>by
  rw[Ex,zb,im k (n / 256) (by rw[Nat.pow_succ] at h;omega)]
  omega
theorem iE (n k:Nat)(r:List Nat):(be n k++r).take k=be n k:=by rw[List.take_append_of_le_length (by rw[be_length];exact nR _),List.take_of_length_le (by rw[be_length];exact nR _)]
theorem jg (n k:Nat)(r:List Nat):(be n k++r).drop k=r:=by
 have:=List.drop_left (l₁:=be n k) (l₂:=r)
 rwa [be_length] at this
theorem pW (p x:Nat)(r:List Nat)(w:World)(hx:x < 256)(hl:r.length≤1000000)(ha:ay r)(h:aD w p (be x 1++r)):
  Calls Pg 406 #[PT (some ⟨p,0,none⟩)] w fun e w'=>e=rT (X Y x)∧aD w' p r∧Below p w w':=by
 refine(mG p (be x 1++r) w (by rw[List.length_append,be_length];omega) (by rw[List.length_append,be_length];omega) (bY (bZ _ _) ha) h).mono ?_
 rintro e w' ⟨rfl,hr⟩
 have hb:=hr.below h.lt
 have h2:=hr.1
 rw[jg] at h2
 rw[iE,im 1 x (by omega)]
 exact⟨rfl,h2,hb⟩
theorem uV (p x:Nat)(r:List Nat)(w:World)(hx:x < 65536)(hl:r.length≤1000000)(ha:ay r)(h:aD w p (be x 2++r)):
  Calls Pg 306 #[PT (some ⟨p,0,none⟩)] w fun e w'=>e=rT (X Y x)∧aD w' p r∧Below p w w':=by
 refine(mQ p (be x 2++r) w (by rw[List.length_append,be_length];omega) (by rw[List.length_append,be_length];omega) (bY (bZ _ _) ha) h).mono ?_
 rintro e w' ⟨rfl,hr⟩
 have hb:=hr.below h.lt
 have h2:=hr.1
 rw[jg] at h2
 rw[iE,im 2 x (by omega)]
 exact⟨rfl,h2,hb⟩
theorem pZ (p x:Nat)(r:List Nat)(w:World)(hx:x < 4294967296)(hl:r.length≤1000000)(ha:ay r)(h:aD w p (be x 4++r)):
  Calls Pg 305 #[PT (some ⟨p,0,none⟩)] w fun e w'=>e=rT (X Z x)∧aD w' p r∧Below p w w':=by
 refine(mJ p (be x 4++r) w (by rw[List.length_append,be_length];omega) (by rw[List.length_append,be_length];omega) (bY (bZ _ _) ha) h).mono ?_
 rintro e w' ⟨rfl,hr⟩
 have hb:=hr.below h.lt
 have h2:=hr.1
 rw[jg] at h2
 rw[iE,im 4 x (by omega)]
 exact⟨rfl,h2,hb⟩
theorem EJ (A:Option Addr)(n c B:Nat)(l:List Nat)(w:World)(hr:Reads w B 1 A n (bv l))(hB:B≤w.heap.size)(hn0:0 < n)(hn:n≤1000000):
  Calls Pg 407 #[G A n c] w fun e w'=>∃A' c',e=rT (G A' n c')∧w'.ownsRow w.heap.size 5 1 (G A' n c') n (bv l)∧Below w.heap.size w w':=by
 obtain⟨ad,_,hA,_⟩:=gJ hr (j:=0) hn0
 subst hA
 have q22:∀(W:World) (a:Option Addr) (n c n' c':Nat),(binOp .eql 23 (G a n c) (G none n' c')).run Pg W=.ok (.bool a.isNone) W:=fun W a n c n' c'=>Lib.run_eql_slice_nil W _ _ a n c n' c' underlying23
 have hr1:=hr.alloc hB (cL #[] 5)
 have ho1:(w.alloc (cL #[] 5)).ownsRow w.heap.size 5 1 (G (some ⟨w.heap.size,0,none⟩) 0 0) 0 (bv []):=World.ownsRow_made w #[] 0 (nR _) (Nat.zero_le _) rfl
 have ax:=hr.length
 have HR:=jH (aI hr1 (aI ho1 ax))
 clear hr hr1 ho1 ax
 go_enter func407,ntmps407
 go_wp2_with (at_builtin;refine cu ?_)
 refine cw ?_
 refine ee rfl (.tmp 5) (.tmp 6) _ rfl 5 cJ underlying23 w.heap.size (G (some ⟨w.heap.size,0,none⟩) 0 0) 0 [] rfl HR.out.2.1 B (some ad) n c l rfl HR.out.1 n (by omega) (by omega) (by simp) ?_
 intro A3 c3 w4 bF hbl4 hg4 hblk4
 go_wp2_with fail
 go_ret
 refine⟨A3,c3,rfl,by simpa using bF,((bR _ w).alloc (nR _) _).trans hbl4⟩
theorem gj:ay []:=fun x hx=>by simp at hx
theorem dJ {n k:Nat}{r:List Nat}(h:ay r):ay (be n k++r):=bY (bZ _ _) h
theorem zE:eJ [103,111,105,116]=(⟨#[103,111,105,116]⟩:ByteArray):=by decide
def iL (k v n:Nat)(l:List Nat):List Nat:=be k 1++(be v 1++(be n 2++(be (bV (cF k v n)) 4++(be (bV l) 4++[]))))
def eC (k v:Nat)(l r:List Nat):List Nat:=cF k v l.length++be (bV (cF k v l.length)) 4++be (bV l) 4++r
theorem BM (k v:Nat)(l r:List Nat):(eC k v l r).take 16=[103,111,105,116]++iL k v l.length l:=by
 have e:eC k v l r=([103,111,105,116]++iL k v l.length l)++r:=by simp[eC,cF,iL]
 have h:([103,111,105,116]++iL k v l.length l).length=16:=by simp[iL,be_length]
 rw[e,List.take_append_of_le_length (by omega),List.take_of_length_le (by omega)]
theorem BL (k v:Nat)(l r:List Nat):(eC k v l r).take 8=cF k v l.length:=by
 have e:eC k v l r=cF k v l.length++(be (bV (cF k v l.length)) 4++be (bV l) 4++r):=by simp[eC]
 have h:=gZ k v l.length
 rw[e,List.take_append_of_le_length (by omega),List.take_of_length_le (by omega)]
theorem BK (k v:Nat)(l r:List Nat):(eC k v l r).length=16 + r.length:=by simp[eC,be_length,gZ];omega
theorem BN (k v:Nat)(l r:List Nat):(eC k v l r).drop 16=r:=by
 have h:(cF k v l.length++be (bV (cF k v l.length)) 4++be (bV l) 4).length=16:=by simp[be_length,gZ]
 unfold eC
 rw[←h,List.drop_left]
def kR (k v:Nat)(l r:List Nat)(w:World)(e:Ending)(w':World):Prop:=
 if r.length < l.length then e=rT (tU #[aG #[X Y 0,X Y 0,G none 0 0],X Y 0,X Y 2])
 else ∃A' c',e=rT (tU #[aG #[X Y k,X Y v,G A' l.length c'],X Y (16 + l.length:Nat),X Y 0])∧w'.ownsRow w.heap.size 5 1 (G A' l.length c') l.length (bv l)
theorem qu (k v:Nat)(l r:List Nat)(A:Option Addr)(n c B:Nat)(w:World)(hk:k≤255)(hv:v≤255)(hl:l.length≤4096)(hl0:0 < l.length)(ha:ay l)(hpre:r.length < l.length∨r.take l.length=l)(hr:Reads w B 1 A n (bv (eC k v l r)))(hB:B≤w.heap.size)(hnc:n≤c)(hn:n≤1048576):
  Calls Pg 303 #[G A n c] w fun e w'=>kR k v l r w e w'∧Below w.heap.size w w':=by
 have ax:=hr.length
 rw[BK] at ax
 have hm:16≤n:=by omega
 obtain⟨b,off,hA,hbB,hcl⟩:=hr.plain (by omega) (by omega)
 subst hA
 have hr16:=hr.takeb (k:=16) (by omega)
 rw[BM] at hr16
 have hr8:=hr.takeb (k:=8) (by omega)
 rw[BL] at hr8
 have hrbody:Reads w B 1 (some ⟨b,off + 16,none⟩) r.length (bv r):=by
  by_cases h0:r=[]
  ·subst h0;exact Reads.none_
  ·have hpos:0 < r.length:=List.length_pos_iff.2 h0
   have h1:=hr.cut (k:=16) (cap:=c) (by omega) hnc
   rw[if_neg (by omega),Nat.mul_one] at h1
   have h2:(bv (eC k v l r)).drop 16=bv ((eC k v l r).drop 16):=by simp[bv]
   rw[h2,BN,show n - 16=r.length by omega] at h1
   exact h1
 obtain⟨q,hq⟩:∃q,q=w.heap.size:=⟨_,rfl⟩
 have ao:=ab.new w 284 #[X Y 0,X Y 0,G none 0 0]
 have hbl0:=(bR q w).alloc (by omega) (cL #[X Y 0,X Y 0,G none 0 0] 284)
 have r16:=hr16.alloc hB (cL #[X Y 0,X Y 0,G none 0 0] 284)
 have r8:=hr8.alloc hB (cL #[X Y 0,X Y 0,G none 0 0] 284)
 have rbo:=hrbody.alloc hB (cL #[X Y 0,X Y 0,G none 0 0] 284)
 have hsz:(w.alloc (cL #[X Y 0,X Y 0,G none 0 0] 284)).heap.size=q + 1:=by rw[hq];simp
 rw[←hq] at ao hB
 have hrn:n=16 + r.length:=by omega
 clear ax
 have hc8:¬c=8:=by omega
 have hcl8:16≤c:=by omega
 clear hr hr16 hr8 hrbody hcl
 have hcr:bV (cF k v l.length) < 4294967296:=tB _
 have hcr2:bV l < 4294967296:=tB _
 go_enter func303,ntmps303
 go_wp2_with fail
 rw[←hq]
 have HE:=jH hq
 clear hq
 generalize w.alloc (cL #[X Y 0,X Y 0,G none 0 0] 284)=w1 at *
 have CN:=jH (ja (some ⟨b,off,none⟩) 16 c B _ w1 r16 (by omega) (by omega) (fun e=>by cases e))
 try rw[show ((16:Nat):Int)=16 from rfl] at CN
 have H1:=jH (aI ao (aI hbl0 (aI r8 rbo)))
 clear ao hbl0 r16 r8 rbo
 refine CN.out.mono ?_
 rintro e w2 ⟨p,rfl,hp,hrb,af⟩
 have H2:Hid (aD w2 p ([103,111,105,116]++iL k v l.length l)∧q < p∧ab w2 q 284 #[X Y 0,X Y 0,G none 0 0]∧Below q w w2∧Reads w2 B 1 (some ⟨b,off,none⟩) 8 (bv (cF k v l.length))∧Reads w2 B 1 (some ⟨b,off + 16,none⟩) r.length (bv r)):=⟨hrb,by omega,H1.out.1.below af (by omega),H1.out.2.1.trans (af.mono (by omega)),H1.out.2.2.1.below (af.mono (by omega)),H1.out.2.2.2.below (af.mono (by omega))⟩
 clear hrb af CN H1
 go_wp2_with fail
 refine(yh p 4 _ w2 (by simp[iL,be_length]) (by omega) (by simp[iL,be_length]) H2.out.1).mono ?_
 rintro e w3 ⟨A3,c3,rfl,bK,hrb,hbb⟩
 have H3:Hid (aD w3 p (be k 1++(be v 1++(be l.length 2++(be (bV (cF k v l.length)) 4++(be (bV l) 4++[])))))∧q < p∧ab w3 q 284 #[X Y 0,X Y 0,G none 0 0]∧Below q w w3∧Reads w3 B 1 (some ⟨b,off,none⟩) 8 (bv (cF k v l.length))∧Reads w3 B 1 (some ⟨b,off + 16,none⟩) r.length (bv r)):=by
  obtain⟨-,g2,g3,g4,g5,g6⟩:=H2.out
  exact⟨hrb,g2,g3.below hbb g2,g4.trans (hbb.mono (Nat.le_of_lt g2)),g5.below (hbb.mono (by omega)),g6.below (hbb.mono (by omega))⟩
 have hcv:=lq (P:=Pg) (c:=c3) 23 9 5 underlying23 underlying5 underlying9 (l:=[103,111,105,116]) (Reads.of_own bK) (by intro x hx;simp at hx;omega)
 rw[zE] at hcv
 clear bK
 clear hrb hbb H2
 go_wp2_with fail
 clear hcv
 refine(pW p k (be v 1++(be l.length 2++(be (bV (cF k v l.length)) 4++(be (bV l) 4++[])))) w3 (by omega) (by simp[be_length]) (dJ (dJ (dJ (dJ gj)))) H3.out.1).mono ?_
 rintro e w4 ⟨rfl,hrb,hbb⟩
 have H4:Hid (aD w4 p (be v 1++(be l.length 2++(be (bV (cF k v l.length)) 4++(be (bV l) 4++[]))))∧q < p∧ab w4 q 284 #[X Y 0,X Y 0,G none 0 0]∧Below q w w4∧Reads w4 B 1 (some ⟨b,off,none⟩) 8 (bv (cF k v l.length))∧Reads w4 B 1 (some ⟨b,off + 16,none⟩) r.length (bv r)):=by
  obtain⟨-,g2,g3,g4,g5,g6⟩:=H3.out
  exact⟨hrb,g2,g3.below hbb g2,g4.trans (hbb.mono (Nat.le_of_lt g2)),g5.below (hbb.mono (by omega)),g6.below (hbb.mono (by omega))⟩
 clear hrb hbb H3
 go_wp2_with fail
 refine(pW p v (be l.length 2++(be (bV (cF k v l.length)) 4++(be (bV l) 4++[]))) w4 (by omega) (by simp[be_length]) (dJ (dJ (dJ gj))) H4.out.1).mono ?_
 rintro e w5 ⟨rfl,hrb,hbb⟩
 have H5:Hid (aD w5 p (be l.length 2++(be (bV (cF k v l.length)) 4++(be (bV l) 4++[])))∧q < p∧ab w5 q 284 #[X Y 0,X Y 0,G none 0 0]∧Below q w w5∧Reads w5 B 1 (some ⟨b,off,none⟩) 8 (bv (cF k v l.length))∧Reads w5 B 1 (some ⟨b,off + 16,none⟩) r.length (bv r)):=by
  obtain⟨-,g2,g3,g4,g5,g6⟩:=H4.out
  exact⟨hrb,g2,g3.below hbb g2,g4.trans (hbb.mono (Nat.le_of_lt g2)),g5.below (hbb.mono (by omega)),g6.below (hbb.mono (by omega))⟩
 clear hrb hbb H4
 go_wp2_with fail
 refine(uV p l.length (be (bV (cF k v l.length)) 4++(be (bV l) 4++[])) w5 (by omega) (by simp[be_length]) (dJ (dJ gj)) H5.out.1).mono ?_
 rintro e w6 ⟨rfl,hrb,hbb⟩
 have H6:Hid (aD w6 p (be (bV (cF k v l.length)) 4++(be (bV l) 4++[]))∧q < p∧ab w6 q 284 #[X Y 0,X Y 0,G none 0 0]∧Below q w w6∧Reads w6 B 1 (some ⟨b,off,none⟩) 8 (bv (cF k v l.length))∧Reads w6 B 1 (some ⟨b,off + 16,none⟩) r.length (bv r)):=by
  obtain⟨-,g2,g3,g4,g5,g6⟩:=H5.out
  exact⟨hrb,g2,g3.below hbb g2,g4.trans (hbb.mono (Nat.le_of_lt g2)),g5.below (hbb.mono (by omega)),g6.below (hbb.mono (by omega))⟩
 clear hrb hbb H5
 go_wp2_with fail
 refine(pZ p (bV (cF k v l.length)) (be (bV l) 4++[]) w6 hcr (by simp[be_length]) (dJ gj) H6.out.1).mono ?_
 rintro e w7 ⟨rfl,hrb,hbb⟩
 have H7:Hid (aD w7 p (be (bV l) 4++[])∧q < p∧ab w7 q 284 #[X Y 0,X Y 0,G none 0 0]∧Below q w w7∧Reads w7 B 1 (some ⟨b,off,none⟩) 8 (bv (cF k v l.length))∧Reads w7 B 1 (some ⟨b,off + 16,none⟩) r.length (bv r)):=by
  obtain⟨-,g2,g3,g4,g5,g6⟩:=H6.out
  exact⟨hrb,g2,g3.below hbb g2,g4.trans (hbb.mono (Nat.le_of_lt g2)),g5.below (hbb.mono (by omega)),g6.below (hbb.mono (by omega))⟩
 clear hrb hbb H6
 go_wp2_with fail
 refine(pZ p (bV l) [] w7 hcr2 (by simp) gj H7.out.1).mono ?_
 rintro e w8 ⟨rfl,hrb,hbb⟩
 have H8:Hid (aD w8 p ([])∧q < p∧ab w8 q 284 #[X Y 0,X Y 0,G none 0 0]∧Below q w w8∧Reads w8 B 1 (some ⟨b,off,none⟩) 8 (bv (cF k v l.length))∧Reads w8 B 1 (some ⟨b,off + 16,none⟩) r.length (bv r)):=by
  obtain⟨-,g2,g3,g4,g5,g6⟩:=H7.out
  exact⟨hrb,g2,g3.below hbb g2,g4.trans (hbb.mono (Nat.le_of_lt g2)),g5.below (hbb.mono (by omega)),g6.below (hbb.mono (by omega))⟩
 clear hrb hbb H7
 go_wp2_with fail
 refine(lW w8 B (some ⟨b,off,none⟩) 8 c _ H8.out.2.2.2.2.1 (by omega) (lS _ _ _)).mono ?_
 rintro e w9 ⟨rfl,rfl⟩
 by_cases hs:r.length < l.length
 ·have HX:=jH (aI H8.out.2.2.1 H8.out.2.2.2.1)
  obtain⟨s0,s1,s2⟩:=HX.out.1.c3
  obtain⟨z0,z1,z2⟩:=HX.out.1.f3
  have eS:IntKind.i64.wrap ((n:Int) - 16)=((r.length:Nat):Int):=by rw[IntWalk.i64_in _ (by omega)];omega
  have hdd:decide (((r.length:Nat):Int) < ((l.length:Nat):Int))=true:=decide_eq_true (by omega)
  clear hpre
  go_wp2_with fail
  have n5:=((HX.out.1.set_ 0 (X Y 0)).set_ 1 (X Y 0)).set_ 2 (G none 0 0)
  have d0:=n5.cell 0
  have d1:=n5.cell 1
  have d2:=n5.cell 2
  refine bodyPost_ret (v:=tU #[aG #[X Y 0,X Y 0,G none 0 0],X Y 0,X Y 2]) (by simp[results,results303,go_sem,d0,d1,d2]) rfl ?_
  unfold kR
  rw[if_pos hs]
  exact⟨rfl,HE.out▸(((HX.out.2.setCell (p:=⟨q,0,none⟩) (nR _) _).setCell (p:=⟨q,1,none⟩) (nR _) _).setCell (p:=⟨q,2,none⟩) (nR _) _)⟩
 ·have HR:Hid (Reads w8 B 1 (some ⟨b,off + 16,none⟩) l.length (bv l)):=by
   have h1:=H8.out.2.2.2.2.2.takeb (k:=l.length) (by omega)
   rcases hpre with h|h
   ·exact absurd h hs
   ·rw[h] at h1;exact h1
  have hll:l.length≤r.length:=by omega
  have eS:IntKind.i64.wrap ((n:Int) - 16)=((r.length:Nat):Int):=by rw[IntWalk.i64_in _ (by omega)];omega
  have hdd:decide (((r.length:Nat):Int) < ((l.length:Nat):Int))=false:=decide_eq_false (by omega)
  have hm2:16 + l.length≤n:=by omega
  have hc16:¬c=16:=by omega
  clear hpre
  go_wp2_with fail
  refine(EJ (some ⟨b,off + 16,none⟩) l.length (c - 16) B l w8 HR.out (by have:=H8.out.2.2.1.lt;omega) hl0 (by omega)).mono ?_
  rintro e w9 ⟨A9,c9,rfl,hown9,hb9⟩
  have H9:Hid (ab w9 q 284 #[X Y 0,X Y 0,G none 0 0]∧Below q w w9∧w9.ownsRow q 5 1 (G A9 l.length c9) l.length (bv l)):=by
   obtain⟨-,g2,g3,g4,-⟩:=H8.out
   exact⟨g3.below hb9 g3.lt,g4.trans (hb9.mono (Nat.le_of_lt g3.lt)),cO hown9 (Nat.le_of_lt g3.lt)⟩
  clear hb9 hown9 H8
  go_wp2_with fail
  refine(lW w9 _ A9 l.length c9 l (Reads.of_own H9.out.2.2) (by omega) ha).mono ?_
  rintro e w10 ⟨rfl,rfl⟩
  obtain⟨s0,s1,s2⟩:=H9.out.1.c3
  obtain⟨z0,z1,z2⟩:=H9.out.1.f3
  go_wp2_with fail
  have n5:=((H9.out.1.set_ 0 (X Y k)).set_ 1 (X Y v)).set_ 2 (G A9 l.length c9)
  have o5:=aB (aB (aB H9.out.2.2 H9.out.1 (by decide) 0 (X Y k)) (H9.out.1.set_ 0 (X Y k)) (by decide) 1 (X Y v)) ((H9.out.1.set_ 0 (X Y k)).set_ 1 (X Y v)) (by decide) 2 (G A9 l.length c9)
  have d0:=n5.cell 0
  have d1:=n5.cell 1
  have d2:=n5.cell 2
  refine bodyPost_ret (v:=tU #[aG #[X Y k,X Y v,G A9 l.length c9],X Y (16 + l.length:Nat),X Y 0]) (by simp[results,results303,go_sem,d0,d1,d2]) rfl ?_
  unfold kR
  rw[if_neg (by omega)]
  exact⟨⟨A9,c9,rfl,HE.out▸o5⟩,HE.out▸(((H9.out.2.1.setCell (p:=⟨q,0,none⟩) (nR _) _).setCell (p:=⟨q,1,none⟩) (nR _) _).setCell (p:=⟨q,2,none⟩) (nR _) _)⟩
theorem qx (k v:Nat)(l rest:List Nat)(A:Option Addr)(n c B:Nat)(w:World)(hk:k≤255)(hv:v≤255)(hl:l.length≤4096)(hl0:0 < l.length)(ha:ay l)(har:ay rest)(hr:Reads w B 1 A n (bv (df k v l++rest)))(hB:B≤w.heap.size)(hnc:n≤c)(hn:n≤1048576):
  Calls Pg 303 #[G A n c] w fun e w'=>∃A' c',e=rT (tU #[aG #[X Y k,X Y v,G A' l.length c'],X Y (16 + l.length:Nat),X Y 0])∧w'.ownsRow w.heap.size 5 1 (G A' l.length c') l.length (bv l)∧Below w.heap.size w w':=by
 have e:df k v l++rest=eC k v l (l++rest):=by simp[df,eC]
 rw[e] at hr
 refine(qu k v l (l++rest) A n c B w hk hv hl hl0 ha (.inr (by rw[List.take_append_of_le_length (nR _),List.take_length])) hr hB hnc hn).mono ?_
 rintro e w' ⟨h,hb⟩
 unfold kR at h
 rw[if_neg (by rw[List.length_append];omega)] at h
 obtain⟨A',c',h1,h2⟩:=h
 exact⟨A',c',h1,h2,hb⟩
theorem vE (A:Option Addr)(n c:Nat)(w:World)(hn:n < 16):
  Calls Pg 303 #[G A n c] w fun e w'=>e=rT (tU #[aG #[X Y 0,X Y 0,G none 0 0],X Y 0,X Y 2])∧Below w.heap.size w w':=by
 have ao:=ab.new w 284 #[X Y 0,X Y 0,G none 0 0]
 have hbl0:=(bR w.heap.size w).alloc (nR _) (cL #[X Y 0,X Y 0,G none 0 0] 284)
 have hdd:decide ((n:Int) < 16)=true:=decide_eq_true (by omega)
 obtain⟨s0,s1,s2⟩:=ao.c3
 obtain⟨z0,z1,z2⟩:=ao.f3
 have HX:=jH (aI ao hbl0)
 clear ao hbl0
 go_enter func303,ntmps303
 go_wp2_with fail
 refine bodyPost_ret (v:=tU #[aG #[X Y 0,X Y 0,G none 0 0],X Y 0,X Y 2]) (by simp[results,results303,go_sem,s0,s1,s2]) rfl ?_
 exact⟨rfl,HX.out.2⟩
def iy (v:Nat)(t:List Nat):Prop:=t.length < 16∨∃k l r,k≤255∧0 < l.length∧l.length≤4096∧ay l∧r.length < l.length∧t=eC k v l r
theorem vD (v:Nat)(t:List Nat)(ht:iy v t)(A:Option Addr)(n c B:Nat)(w:World)(hv:v≤255)(hr:Reads w B 1 A n (bv t))(hB:B≤w.heap.size)(hnc:n≤c)(hn:n≤1048576):
  Calls Pg 303 #[G A n c] w fun e w'=>e=rT (tU #[aG #[X Y 0,X Y 0,G none 0 0],X Y 0,X Y 2])∧Below w.heap.size w w':=by
 rcases ht with h|⟨k,l,r,h1,h2,h3,h4,h5,rfl⟩
 ·exact vE A n c w (by rw[hr.length] at h;exact h)
 ·refine(qu k v l r A n c B w h1 hv h3 h2 h4 (.inl h5) hr hB hnc hn).mono ?_
  rintro e w' ⟨h,hb⟩
  unfold kR at h
  rw[if_pos h5] at h
  exact⟨h,hb⟩
def aH (v:Nat)(fs:List (Nat×List Nat)):List Nat:=fs.flatMap fun f=>df f.1 v f.2
def jk (fs:List (Nat×List Nat)):Prop:=∀f∈fs,f.1≤255∧0 < f.2.length∧f.2.length≤4096∧ay f.2
theorem zW {v:Nat}{fs:List (Nat×List Nat)}(h:jk fs):ay (aH v fs):=by
 intro x hx
 obtain⟨f,hf,hx⟩:=List.mem_flatMap.1 hx
 exact kC _ _ (h f hf).2.2.2 x hx
theorem iu (v:Nat)(f:Nat×List Nat)(fs:List (Nat×List Nat)):aH v (f::fs)=df f.1 v f.2++aH v fs:=rfl
theorem oh (v:Nat)(a b:List (Nat×List Nat)):aH v (a++b)=aH v a++aH v b:=by simp[aH]
theorem oe (v:Nat):∀fs:List (Nat×List Nat),16 * fs.length≤(aH v fs).length
 |[]=>by simp[aH]
 |f::fs=>by rw[iu,List.length_append,fO,List.length_cons];have:=oe v fs;omega
theorem og (v:Nat)(fs:List (Nat×List Nat))(j:Nat):aH v fs=aH v (fs.take j)++aH v (fs.drop j):=by rw[←oh,List.take_append_drop]
theorem AK:(Pg.info? 284).map (fun i=>(i.zero,i.size,i.bytes))=some (some (aG #[X Y 0,X Y 0,G none 0 0]),3,40):=by kernel_rfl
def kD (v:Nat)(p:(Nat×List Nat)×(Option Addr×Nat)):List Value:=[X Y p.1.1,X Y v,G p.2.1 p.1.2.length p.2.2]
def fZ (v:Nat)(fs:List (Nat×List Nat))(hs:List (Option Addr×Nat)):List Value:=(fs.zip hs).flatMap (kD v)
def dP (w:World)(aa v:Nat)(A:Option Addr)(c:Nat)(fs:List (Nat×List Nat)):Prop:=
 ∃hs:List (Option Addr×Nat),hs.length=fs.length∧w.ownsRow aa 284 3 (G A fs.length c) fs.length (fZ v fs hs)∧
  ∀(i:Nat) (f:Nat×List Nat) (h:Option Addr×Nat),fs[i]? =some f→hs[i]? =some h→w.ownsRow aa 5 1 (G h.1 f.2.length h.2) f.2.length (bv f.2)
theorem dP.nil (w:World)(aa v:Nat):dP w aa v none 0 []:=⟨[],rfl,World.ownsRow_nil _ _ _ _,fun i f h hf _=>by simp at hf⟩
theorem dP.below {w w':World}{aa v c:Nat}{A:Option Addr}{fs:List (Nat×List Nat)}(h:dP w aa v A c fs)(hb:Below w.heap.size w w'):dP w' aa v A c fs:=by
 obtain⟨hs,h1,h2,h3⟩:=h
 exact⟨hs,h1,aJ h2 hb,fun i f x hf hx=>aJ (h3 i f x hf hx) hb⟩
theorem yz {w w':World}{b1 b2 n m s1 s2:Nat}{e t:TypeId}{v u:Value}{xs ys:List Value}(h:w.ownsRow b1 e s1 v n xs)(h2:w.ownsRow b2 t s2 u m ys)(hg:w.grownBy w' u.ownBlock)(az:e≠t):w'.ownsRow b1 e s1 v n xs:=by
 refine nD h hg ?_
 rcases h.2 with⟨hv,_⟩|⟨g,cap,cur,hv,_,hc,_⟩
 ·left;rw[hv];rfl
 ·right
  rcases h2.2 with⟨hu,_⟩|⟨g2,cap2,cur2,hu,_,hc2,_⟩
  ·rw[hv,hu];simp[Value.ownBlock]
  ·rw[hv,hu]
   simp only[Value.ownBlock]
   intro he
   have:g=g2:=by simpa using he
   subst this
   rw[hc] at hc2
   injection hc2 with hc2
   injection hc2 with _ hc3
   exact az hc3
theorem dP.snoc {w w':World}{aa v c c' c1:Nat}{A A' A1:Option Addr}{fs:List (Nat×List Nat)}{k:Nat}{l:List Nat}{hs:List (Option Addr×Nat)}(h1:hs.length=fs.length)(h2:w.ownsRow aa 284 3 (G A fs.length c) fs.length (fZ v fs hs))
  (h3:∀(i:Nat) (f:Nat×List Nat) (h:Option Addr×Nat),fs[i]? =some f→hs[i]? =some h→w.ownsRow aa 5 1 (G h.1 f.2.length h.2) f.2.length (bv f.2))
  (hl:w.ownsRow aa 5 1 (G A1 l.length c1) l.length (bv l))(hg:w.grownBy w' (Value.slice A fs.length c).ownBlock)
  (ho:w'.ownsRow aa 284 3 (G A' (fs.length + 1) c') (fs.length + 1) (fZ v fs hs++kD v ((k,l),(A1,c1)))):dP w' aa v A' c' (fs++[(k,l)]):=by
 have hfar:∀{n:Nat} {u:Value} {xs:List Value},w.ownsRow aa 5 1 u n xs→w'.ownsRow aa 5 1 u n xs:=fun{n u xs} ho1=>yz ho1 h2 hg (by decide)
 refine⟨hs++[(A1,c1)],by simp[h1],?_,fun i f x hf hx=>?_⟩
 ·have e:fZ v (fs++[(k,l)]) (hs++[(A1,c1)])=fZ v fs hs++kD v ((k,l),(A1,c1)):=by
   unfold fZ
   rw[List.zip_append h1.symm]
   simp
  rw[e,List.length_append]
  exact ho
 ·by_cases hi:i < fs.length
  ·rw[List.getElem?_append_left hi] at hf
   rw[List.getElem?_append_left (by omega)] at hx
   exact hfar (h3 i f x hf hx)
  ·have hi2:i=fs.length:=by
    have:=(List.getElem?_eq_some_iff.1 hf).1
    simp at this
    omega
   subst hi2
   rw[List.getElem?_append_right (nR _),Nat.sub_self] at hf
   rw[←h1,List.getElem?_append_right (nR _),Nat.sub_self] at hx
   injection hf with hf
   injection hx with hx
   subst hf
   subst hx
   exact hfar hl
def iD (t:List Nat):Int:=if t=[] then 0 else 2
theorem xe (v:Nat)(fs:List (Nat×List Nat))(t:List Nat)(A:Option Addr)(n c B:Nat)(w:World)(hok:jk fs)(ht:t=[]∨iy v t)(hta:ay t)(hv:v≤255)(hr:Reads w B 1 A n (bv (aH v fs++t)))(hB:B≤w.heap.size)(hnc:n≤c)(hn:n≤1048576):
  Calls Pg 239 #[G A n c] w fun e w'=>∃A' c',e=rT (tU #[G A' fs.length c',X Y ((aH v fs).length),X Y (iD t)])∧dP w' w.heap.size v A' c' fs∧Below w.heap.size w w':=by
 have ax:=hr.length
 rw[List.length_append] at ax
 have HR:=jH hr
 have HL:=jH ax
 clear hr ax
 go_enter func239,ntmps239
 go_wp2_with fail
 go_loopg [5,6] fs.length (fun gk o at_ wr=>∃(j:Nat) (A2:Option Addr) (c2 m:Nat),o=G A2 j c2∧at_=X Y m∧Hid (j + gk=fs.length)∧Hid (m=(aH v (fs.take j)).length)∧Hid (dP wr w.heap.size v A2 c2 (fs.take j))∧Hid (Below w.heap.size w wr))
 case atStart=>exact⟨0,none,0,0,rfl,rfl,(by show _=_;omega),rfl,dP.nil _ _ _,bR _ _⟩
 case round=>
  obtain⟨j,A2,c2,m,rfl,rfl,hgk,hm,hF,hbr⟩:=hrel
  by_cases au:j < fs.length
  ·obtain⟨⟨k,l⟩,hfj⟩:∃f,fs[j]? =some f:=⟨_,List.getElem?_eq_getElem au⟩
   have hfok:=hok _ (List.mem_of_getElem? hfj)
   have hdrop:fs.drop j=(k,l)::fs.drop (j + 1):=by
    rw[List.drop_eq_getElem_cons au]
    have:=(List.getElem?_eq_some_iff.1 hfj).2
    rw[this]
   have htake:fs.take (j + 1)=fs.take j++[(k,l)]:=by rw[List.take_add_one,hfj];rfl
   have hsum:n=m + ((l.length + 16) + ((aH v (fs.drop (j + 1))).length + t.length)):=by
    have e1:(aH v fs).length=m + (aH v (fs.drop j)).length:=by rw[og v fs j,List.length_append,←hm.out]
    have e2:(aH v (fs.drop j)).length=l.length + 16 + (aH v (fs.drop (j + 1))).length:=by rw[hdrop,iu,List.length_append,fO]
    have:=HL.out
    omega
   have hmn:m + (16 + l.length)≤n:=by omega
   obtain⟨b,off,hA,hbB,hcl⟩:=HR.out.plain (by omega) (by omega)
   subst hA
   dsimp only at hfok
   have hdr:(bv (aH v fs++t)).drop m=bv (df k v l++(aH v (fs.drop (j + 1))++t)):=by
    have e0:df k v l++(aH v (fs.drop (j + 1))++t)=aH v (fs.drop j)++t:=by rw[hdrop,←List.append_assoc];rfl
    have e:bv (aH v fs++t)=bv (aH v (fs.take j))++bv (aH v (fs.drop j)++t):=by rw[og v fs j];simp[bv]
    have e2:(bv (aH v (fs.take j))).length=m:=by rw[el];exact hm.out.symm
    rw[e0,e,←e2,List.drop_left]
   have hcut:Reads wr B 1 (some ⟨b,off + m,none⟩) (n - m) (bv (df k v l++(aH v (fs.drop (j + 1))++t))):=by
    have h1:=(HR.out.below (hbr.out.mono hB)).cut (k:=m) (cap:=c) (by omega) hnc
    rw[if_neg (by omega),Nat.mul_one,hdr] at h1
    simpa only[Option.map_some,Addr.add_lit] using h1
   have CT:=jH (qx k v l (aH v (fs.drop (j + 1))++t) (some ⟨b,off + m,none⟩) (n - m) (c - m) B wr hfok.1 hv hfok.2.2.1 hfok.2.1 hfok.2.2.2 (bY (zW (fun f hf=>hok f (List.mem_of_mem_drop hf))) hta) hcut (nT hB hbr.out.size) (by omega) (by omega))
   have HT:=jH htake
   have HS:=jH hsum
   have hmc:¬c=m:=by omega
   have hj16:j≤1048576:=by
    have h1:=oe v (fs.take j)
    rw[←hm.out,List.length_take] at h1
    omega
   have hmn2:m < n:=by omega
   have hl16:16 + l.length≤4112:=by have:=hfok.2.2.1;omega
   have hm1:m≤1048576:=by omega
   clear hcut hdr hcl hfj hdrop htake hsum hfok hmn
   go_wp2_with fail
   refine CT.out.mono ?_
   rintro e w2 ⟨A3,c3,rfl,bK,al⟩
   have hs3:=al.size
   have HB3:=jH (aI bK (hbr.out.trans (al.mono hbr.out.size)))
   obtain⟨hs,hs1,hs2,hs3'⟩:=hF.out.below al
   have hlj:(fs.take j).length=j:=by rw[List.length_take];omega
   rw[hlj] at hs1 hs2
   have HH:=jH (aI hs1 (aI hs2 (aI hs3' hlj)))
   clear bK al hs1 hs2 hs3' hF CT hlj
   go_wp2_with (at_builtin;refine cu ?_)
   refine cw ?_
   have aK:Below w2.heap.size w2 ((w2.alloc (cL #[X Y k,X Y v,G A3 l.length c3] 284)).alloc (cL #[X Y k,X Y v,G A3 l.length c3] 284)):=((bR _ _).alloc (nR _) _).alloc (by simp) _
   refine jS rfl (.tmp 27) (.tmp 29) _ rfl 3 40 284 _ AK rfl (by omega) (by omega) underlying314 w.heap.size (G A2 j c2) j (fZ v (fs.take j) hs) rfl (aJ HH.out.2.1 aK) (w2.heap.size + 2) (some ⟨w2.heap.size + 1,0,none⟩) 1 1 (kD v ((k,l),(A3,c3))) rfl (eo _ _ _ _ 1 3 _ _ (by rfl) (by simp) (by simp) _ rfl) (by intro u hu;simp[kD] at hu;rcases hu with rfl|rfl|rfl<;>rfl) (j + 1) rfl (by omega) (by simp;have:=HB3.out.2.size;omega) ?_
   intro A4 c4 w4 bF aq hg4 _
   have hF4:Hid (dP w4 w.heap.size v A4 c4 (fs.take (j + 1))):=by
    obtain⟨g1,g2,g3,g4⟩:=HH.out
    show dP _ _ _ _ _ _
    rw[HT.out]
    have e:=g4.symm
    exact dP.snoc (w:=((w2.alloc (cL #[X Y k,X Y v,G A3 l.length c3] 284)).alloc (cL #[X Y k,X Y v,G A3 l.length c3] 284))) (w':=w4) (c:=c2) (A:=A2) (by rw[g4];exact g1) (by rw[g4];exact aJ g2 aK) (fun i f h hf hx=>aJ (g3 i f h hf hx) aK) (aJ (cO HB3.out.1 hbr.out.size) aK) (by rw[g4];exact hg4) (by rw[g4];exact bF)
   have hb6:Hid (Below w.heap.size w w4):=(HB3.out.2.trans (aK.mono (HB3.out.2.size))).trans aq
   clear bF aq hg4 aK HH HB3 hbr
   go_wp2_with fail
   go_roundg (gk - 1)
   case measure=>have h1:=hgk.out;omega
   case rel=>
    refine⟨j + 1,A4,c4,m + (16 + l.length),rfl,by go_num,(by show _=_;have:=hgk.out;omega),(by show _=_;rw[HT.out,oh,List.length_append,←hm.out];simp[aH,fO];omega),hF4,hb6⟩
  ·have hj:j=fs.length:=by have:=hgk.out;omega
   have hA:Hid (dP wr w.heap.size v A2 c2 fs∧Below w.heap.size w wr):=by
    have h1:=hF.out
    rw[hj,List.take_of_length_le (nR _)] at h1
    exact⟨h1,hbr.out⟩
   have hmL:m=(aH v fs).length:=by
    have h1:=hm.out
    rw[hj,List.take_of_length_le (nR _)] at h1
    exact h1
   have ax:=HL.out
   rcases ht with rfl|ht
   ·have hmn:m=n:=by simp at ax;omega
    have HM:=jH hmL
    have hdz:decide ((m:Int) < (n:Int))=false:=decide_eq_false (by omega)
    clear hF hbr hm HL HR ax hmL
    go_wp2_with fail
    go_ret3
    exact⟨A2,c2,by rw[←HM.out];simp[iD,hj],hA.out⟩
   ·by_cases ht0:t=[]
    ·subst ht0
     have hmn:m=n:=by simp at ax;omega
     have HM:=jH hmL
     have hdz:decide ((m:Int) < (n:Int))=false:=decide_eq_false (by omega)
     clear hF hbr hm HL HR ax hmL ht
     go_wp2_with fail
     go_ret3
     exact⟨A2,c2,by rw[←HM.out];simp[iD,hj],hA.out⟩
    ·have htp:0 < t.length:=List.length_pos_iff.2 ht0
     have hlt2:m < n:=by omega
     have hmc:¬c=m:=by omega
     obtain⟨b,off,hAe,hbB,hcl⟩:=HR.out.plain (by omega) (by omega)
     subst hAe
     have hcut:Reads wr B 1 (some ⟨b,off + m,none⟩) (n - m) (bv t):=by
      have h1:=(HR.out.below (hbr.out.mono hB)).cut (k:=m) (cap:=c) (by omega) hnc
      have e:bv (aH v fs++t)=bv (aH v fs)++bv t:=by simp[bv]
      have e2:(bv (aH v fs)).length=m:=by rw[el];exact hmL.symm
      rw[if_neg (by omega),Nat.mul_one,e,←e2,List.drop_left] at h1
      rw[e2] at h1
      simpa only[Option.map_some,Addr.add_lit] using h1
     have CT:=jH (vD v t ht (some ⟨b,off + m,none⟩) (n - m) (c - m) B wr hv hcut (nT hB hbr.out.size) (by omega) (by omega))
     have HM:=jH (aI hmL ht0)
     have hdz:decide ((m:Int) < (n:Int))=true:=decide_eq_true (by omega)
     clear hF hm HL HR ax hmL hcl hcut ht ht0 htp
     go_wp2_with fail
     refine CT.out.mono ?_
     rintro e w2 ⟨rfl,af⟩
     have al:Below wr.heap.size wr (w2.alloc (cL #[X Y 0,X Y 0,G none 0 0] 284)):=af.alloc af.size _
     have HZ:(fun Vv:World=>Hid (dP Vv w.heap.size v A2 c2 fs∧Below w.heap.size w Vv)) (w2.alloc (cL #[X Y 0,X Y 0,G none 0 0] 284)):=⟨hA.out.1.below al,hA.out.2.trans (al.mono hA.out.2.size)⟩
     clear af al hA hbr CT
     go_wp2_with fail
     go_ret3
     exact⟨A2,c2,by rw[←HM.out.1];simp[iD,HM.out.2,hj],HZ.out⟩
end
section
open Go.RowKit Go.Maps
def gq (f:Nat×List Nat):Prop:=f.1≤255∧0 < f.2.length∧f.2.length≤27∧ay f.2
theorem gq.ok {fs:List (Nat×List Nat)}(h:∀f∈fs,gq f):jk fs:=fun f hf=>⟨(h f hf).1,(h f hf).2.1,by have:=(h f hf).2.2.1;omega,(h f hf).2.2.2⟩
structure SL (D:aF)(Q V size:Nat)(fs:List (Nat×List Nat))(n:Nat)(cs:List (List (Nat×List Nat)))(la:List (Nat×List Nat))(m:Nat)(fl:List Nat)(fm:Nat):Prop where
 ld:dt D Q V (cs.map (aH V)) (aH V la) (aH V (la.take m)).length fl fm
 all:fs=cs.flatten++la
 sure:n≤cs.flatten.length + m
 mle:m≤la.length
 big:∀c∈cs,size / 43≤c.length
 frs:∀f∈fs,gq f
 lim:(aH V la).length≤1000
 small:Small D.fs
 V1:1≤V
 V3:V≤3
 s1:43≤size
 s2:size≤957
 q:10000≤Q
theorem sj {v:Nat}:∀{fs:List (Nat×List Nat)},(∀f∈fs,gq f)→(aH v fs).length≤43 * fs.length
 |[],_=>by simp[aH]
 |f::fs,h=>by
  rw[iu,List.length_append,fO,List.length_cons]
  have h1:=(h f List.mem_cons_self).2.2.1
  have h2:=sj (v:=v) (fs:=fs) (fun g hg=>h g (List.mem_cons_of_mem _ hg))
  omega
theorem sX {b:Nat}:∀{cs:List (List (Nat×List Nat))},(∀c∈cs,b≤c.length)→cs.length * b≤cs.flatten.length
 |[],_=>by simp
 |c::cs,h=>by
  rw[List.flatten_cons,List.length_append,List.length_cons,Nat.succ_mul]
  have h1:=h c List.mem_cons_self
  have h2:=sX (cs:=cs) (fun g hg=>h g (List.mem_cons_of_mem _ hg))
  omega
section
variable {D:aF}{Q V size n m fm:Nat}{fs:List (Nat×List Nat)}{cs:List (List (Nat×List Nat))}{la:List (Nat×List Nat)}{fl:List Nat}
theorem SL.las (h:SL D Q V size fs n cs la m fl fm):∀f∈la,gq f:=fun f hf=>h.frs f (by rw[h.all];exact List.mem_append.2 (.inr hf))
theorem SL.nowl (h:SL D Q V size fs n cs la m fl fm):D.now.length≤4:=by
 have h1:=h.ld.len
 have h2:=h.ld.few
 rw[h.ld.now,nJ (fun e=>by rw[e] at h1;simp at h1)]
 omega
theorem SL.room (h:SL D Q V size fs n cs la m fl fm)(f:Option Nat)(x:Nat)(hx:x≤1000):db D f x=true:=ni h.small (by have:=h.nowl;omega) (by rw[h.ld.quota];exact h.q) f x hx
theorem SL.append (h:SL D Q V size fs n cs la m fl fm){f:Nat}(hf:fl[cs.length]? =some f){k:Nat}{body:List Nat}(hb:gq (k,body))(hfit:(aH V la).length=0∨(aH V la).length + (body.length + 16)≤size)(o:Nat):
  SL {D with ops:=o,fs:=aw D.fs f ⟨aH V la++df k V body,(aH V (la.take m)).length⟩} Q V size (fs++[(k,body)]) n cs (la++[(k,body)]) m fl fm:=by
 have e:aH V (la++[(k,body)])=aH V la++df k V body:=by rw[oh];simp[aH]
 have ax:(aH V la++df k V body).length≤1000:=by
  have h1:=hb.2.2.1
  have h2:=h.s2
  rw[List.length_append,fO]
  dsimp only at h1
  omega
 have hld:=h.ld.put (f:=f) (by rw[List.length_map];exact hf) (aH V la++df k V body) (aH V (la.take m)).length o
 exact{
  ld:=by rw[e,List.take_append_of_le_length h.mle];exact hld
  all:=by rw[h.all,List.append_assoc]
  sure:=h.sure
  mle:=by rw[List.length_append];have:=h.mle;omega
  big:=h.big
  frs:=fun g hg=>by
   rcases List.mem_append.1 hg with hg|hg
   ·exact h.frs g hg
   ·rw[List.mem_singleton.1 hg];exact hb
  lim:=by rw[e];exact ax
  small:=h.small.put f ax
  V1:=h.V1,V3:=h.V3,s1:=h.s1,s2:=h.s2,q:=h.q}
theorem SL.synced (h:SL D Q V size fs n cs la m fl fm){f:Nat}(hf:fl[cs.length]? =some f)(o:Nat):
  SL {D with ops:=o,fs:=aw D.fs f ⟨aH V la,(aH V la).length⟩} Q V size fs fs.length cs la la.length fl fm:=by
 have hld:=h.ld.put (f:=f) (by rw[List.length_map];exact hf) (aH V la) (aH V la).length o
 exact{
  ld:=by rw[List.take_of_length_le (nR _)];exact hld
  all:=h.all
  sure:=by rw[h.all,List.length_append];exact nR _
  mle:=nR _
  big:=h.big
  frs:=h.frs
  lim:=h.lim
  small:=h.small.put f h.lim
  V1:=h.V1,V3:=h.V3,s1:=h.s1,s2:=h.s2,q:=h.q}
theorem SL.full (h:SL D Q V size fs n cs la m fl fm){x:Nat}(hx:x≤43)(hno:¬((aH V la).length=0∨(aH V la).length + x≤size))(hcap:fs.length < 3 * (size / 43)):size / 43≤la.length∧cs.length≤1:=by
 have h1:=sj (v:=V) h.las
 have h2:size / 43≤la.length:=by omega
 refine⟨h2,?_⟩
 have h3:=sX h.big
 have h4:fs.length=cs.flatten.length + la.length:=by rw[h.all,List.length_append]
 by_cases hc:cs.length≤1
 ·exact hc
 ·have h5:2 * (size / 43)≤cs.length * (size / 43):=Nat.mul_le_mul_right _ (by omega)
  omega
theorem SL.turned (h:SL D Q V size fs n cs la m fl fm){f f2 f4:Nat}(hf:fl[cs.length]? =some f)(hk:cs.length≤1)(hbig:size / 43≤la.length)(h2:f2∉aU (br D f ⟨aH V la,(aH V (la.take m)).length⟩).fs)(h4:f4∉aU (br (cY (br D f ⟨aH V la,(aH V (la.take m)).length⟩) (aN (cs.length + 2)) f2 []) f2 ⟨[],0⟩).fs):
  SL (gy D V cs.length f f2 f4 (aH V la) (aH V (la.take m)).length) Q V size fs n (cs++[la]) [] 0 (fl++[f2]) f4:=by
 have hld:=h.ld.turned (f:=f) (f2:=f2) (f4:=f4) (by rw[List.length_map];exact hf) (by rw[List.length_map];exact hk) h2 (by rw[List.length_map];exact h4)
 rw[List.length_map] at hld
 exact{
  ld:=by rw[List.map_append];exact hld
  all:=by rw[h.all];simp
  sure:=by have h1:=h.sure;have h2:=h.mle;rw[List.flatten_append,List.length_append,show [la].flatten.length=la.length by simp];omega
  mle:=nR _
  big:=fun c hc=>by
   rcases List.mem_append.1 hc with hc|hc
   ·exact h.big c hc
   ·rw[List.mem_singleton.1 hc];exact hbig
  frs:=h.frs
  lim:=by simp[aH]
  small:=wv h.small hk h.lim
  V1:=h.V1,V3:=h.V3,s1:=h.s1,s2:=h.s2,q:=h.q}
end
end
section
open Go.RowKit Go.Maps
def dS (w:World)(aa lg d mn size Q V ops:Nat)(fs:List (Nat×List Nat))(n:Nat)(mo:List Nat):Prop:=
 ∃ms D cs la m fl fm,ar w aa d mn ms D∧bQ w aa lg d size V (cs.length + 2) (bJ (cs.length + 1)) false∧SL D Q V size fs n cs la m fl fm∧D.ops≤ops∧ms∉mo∧∀x∈mo,x < w.heap.size
def KX:List TypeId:=[111,5,102,104,265,3]
theorem dS.fr {w w':World}{aa base' lg d mn size Q V ops n:Nat}{fs:List (Nat×List Nat)}{mo:List Nat}{K:List TypeId}{M:List Nat}(h:dS w aa lg d mn size Q V ops fs n mo)(hf:Fr K M base' w w')(hK:∀t∈KX,t∉K)(m1:mn∉M)(m2:∀x∈M,x∈mo):dS w' aa lg d mn size Q V ops fs n mo:=by
 obtain⟨ms,D,cs,la,m,fl,fm,h1,h2,h3,h4,h5,h6⟩:=h
 exact⟨ms,D,cs,la,m,fl,fm,h1.fr hf (hK _ (by decide)) (hK _ (by decide)) (hK _ (by decide)) (hK _ (by decide)) m1 (fun e=>h5 (m2 _ e)),h2.fr hf (hK _ (by decide)) (hK _ (by decide)),h3,h4,h5,fun x hx=>Nat.lt_of_lt_of_le (h6 x hx) hf.size⟩
theorem dS.made {w w':World}{aa lg d mn size Q V ops n:Nat}{fs:List (Nat×List Nat)}{mo:List Nat}(h:dS w aa lg d mn size Q V ops fs n mo)(hb:Below w.heap.size w w'):dS w' aa lg d mn size Q V ops fs n mo:=by
 obtain⟨ms,D,cs,la,m,fl,fm,h1,h2,h3,h4,h5,h6⟩:=h
 exact⟨ms,D,cs,la,m,fl,fm,h1.made hb,h2.made hb,h3,h4,h5,fun x hx=>Nat.lt_of_lt_of_le (h6 x hx) hb.size⟩
theorem u9 (aa lg d mn ms size Q V n m fm:Nat)(fs:List (Nat×List Nat))(cs:List (List (Nat×List Nat)))(la:List (Nat×List Nat))(fl:List Nat)(D:aF)(w:World)(hD:ar w aa d mn ms D)(hL:bQ w aa lg d size V (cs.length + 2) (bJ (cs.length + 1)) false)(hS:SL D Q V size fs n cs la m fl fm)(hk:cs.length≤1)(hbig:size / 43≤la.length)(aP:D.ops≤700000000000):
  Calls Pg 333 #[PT (some ⟨lg,0,none⟩)] w fun e w'=>e=rT (X Y 0)∧(∃ms' D' fl' fm',w.heap.size≤ms'∧ar w' aa d mn ms' D'∧bQ w' aa lg d size V (cs.length + 3) (bJ (cs.length + 2)) false∧SL D' Q V size fs n (cs++[la]) [] 0 fl' fm'∧D'.ops≤D.ops + 8)∧Fr KT [mn] aa w w':=by
 obtain⟨f,hf,hm,hp⟩:=hS.ld.last_
 rw[List.length_map] at hf hm
 have ax:fl.length=cs.length + 1:=by have:=hS.ld.len;rwa [List.length_map] at this
 obtain⟨t1,t2,t3⟩:=p8 hk ax fm
  (0:Nat)
 have bo:=hS.ld.fail
 have hchg:=hS.ld.chg
 have aV:=hS.ld.now
 have hnl:=hS.nowl
 have hsm:=hS.small
 have hQ:10000≤D.quota:=by rw[hS.ld.quota];exact hS.q
 generalize hL0:aH V la=L at *
 generalize hs0:(aH V (la.take m)).length=s at *
 have hl1:L.length≤1000:=hL0▸hS.lim
 have k1:(br D f ⟨L,s⟩).now=dn fl fm:=aV
 have sm1:Small (br D f ⟨L,s⟩).fs:=hsm.put f hl1
 refine(vc aa lg d mn size V (cs.length + 2) (cs.length + 1) (bJ (cs.length + 1)) w
  (fun W=>ar W aa d mn ms D)
  (fun W=>ar W aa d mn ms (br D f ⟨L,s⟩))
  (fun W=>∃f2,f2∉aU (br D f ⟨L,s⟩).fs∧ar W aa d mn ms (cY (br D f ⟨L,s⟩) (aN (cs.length + 2)) f2 []))
  (fun W=>∃f2,f2∉aU (br D f ⟨L,s⟩).fs∧ar W aa d mn ms (br (cY (br D f ⟨L,s⟩) (aN (cs.length + 2)) f2 []) f2 ⟨[],0⟩))
  (fun W=>∃f2 f4 ms',f2∉aU (br D f ⟨L,s⟩).fs∧f4∉aU (br (cY (br D f ⟨L,s⟩) (aN (cs.length + 2)) f2 []) f2 ⟨[],0⟩).fs∧w.heap.size≤ms'∧ar W aa d mn ms' (gy D V cs.length f f2 f4 L s)∧bQ W aa lg d size V (cs.length + 3) (bJ (cs.length + 2)) false)
  hD hD.hi hL (fT _) (by omega) (by omega) (by omega) (by omega) (fun a b h hb=>h.made hb) ?_ ?_ ?_ ?_).mono ?_
 ·intro W bl hW hLW hbl
  refine(vh aa lg d mn ms size V (cs.length + 2) (cs.length + 1) bl f (bJ (cs.length + 1)) D ⟨L,s⟩ W hbl hW hLW (by rw[fT];omega) (jZ _) (by omega) (by omega) bo (by omega) hm hp).mono ?_
  rintro e w' ⟨rfl,h1,h2⟩
  exact⟨rfl,h1,h2.mono (by decide) (by simp)⟩
 ·intro W bl hW hLW hbl
  refine(vg aa lg d mn ms size V (cs.length + 2) bl (bJ (cs.length + 1)) _ W hbl hW hLW (by show D.ops + 1≤_;omega) bo (by omega) (by omega) (by rw[k1,←aV];omega) (by show D.chg.length≤_;rw[hchg];simp) (by rw[k1];exact t1) (ni sm1 (by rw[k1,←aV];omega) hQ none 0 (by omega))).mono ?_
  rintro e w' ⟨rfl,h1,h2⟩
  exact⟨rfl,h1,h2⟩
 ·rintro W bl bn ⟨f2,hf2,hW⟩ hLW hbl hbn
  refine(vf aa lg d mn ms size V (cs.length + 2) bl bn f2 (aN (cs.length + 2)) (bJ (cs.length + 1)) _ ⟨[],0⟩ W hbl hbn hW hLW (fe (fK _)) bo (by show D.ops + 1 + 1≤_;omega) (by rw[rJ,k1];exact eP _ _ _) (by rw[yY];exact eP _ _ _)).mono ?_
  rintro e w' ⟨rfl,h1,h2⟩
  exact⟨rfl,⟨f2,hf2,h1⟩,h2.mono (by decide) (by simp)⟩
 ·rintro W bl bm A c ⟨f2,hf2,hW⟩ hsz hLW hbl hbm hown
  obtain⟨-,t2,-⟩:=p8 hk ax fm f2
  have sm3:Small (br (cY (br D f ⟨L,s⟩) (aN (cs.length + 2)) f2 []) f2 ⟨[],0⟩).fs:=(sm1.put f2 (p:=⟨[],0⟩) (Nat.zero_le _)).put f2 (p:=⟨[],0⟩) (Nat.zero_le _)
  have hn3:(br (cY (br D f ⟨L,s⟩) (aN (cs.length + 2)) f2 []) f2 ⟨[],0⟩).now=aw (dn fl fm) (aN (cs.length + 2)) f2:=by
   show (cY (br D f ⟨L,s⟩) (aN (cs.length + 2)) f2 []).now=_
   rw[rJ,k1]
  have hl3:(br (cY (br D f ⟨L,s⟩) (aN (cs.length + 2)) f2 []) f2 ⟨[],0⟩).now.length≤5:=by
   rw[hn3]
   have:=rN (dn fl fm) (aN (cs.length + 2)) f2
   rw[←aV] at this⊢
   omega
  have hsl:bJ (cs.length + 1)++[cs.length + 2]=bJ (cs.length + 2):=(wX _).symm
  have hll:(bJ (cs.length + 2)).length=cs.length + 1 + 1:=fT _
  rw[hsl] at hown
  have hown':W.ownsRow aa 3 1 (G A (bJ (cs.length + 2)).length c) (bJ (cs.length + 2)).length (nv (bJ (cs.length + 2))):=by rw[hll];exact hown
  have hbm':ab W bm 259 #[X Y V,X Y (cs.length + 3:Nat),G A (bJ (cs.length + 2)).length c]:=by rw[hll];exact hbm
  refine(ve aa lg d mn ms size V V (cs.length + 2) (cs.length + 3) bl bm (bJ (cs.length + 1)) (bJ (cs.length + 2)) false _ A c W hbl hbm' hW hLW (by show D.ops + 1 + 1 + 1≤_;omega) bo (by omega) (by show (D.chg++[_]).length≤_;rw[hchg];simp) (by rw[hn3];exact t2) (nO (k:=cs.length + 1) hS.V1 hS.V3 (by omega)) hown' (ni sm3 (by omega) hQ none _ (by rw[oc,fT];omega))).mono ?_
  rintro e w' ⟨rfl,⟨f4,ms',hf4,hms,h1⟩,h2,h3⟩
  exact⟨rfl,⟨f2,f4,ms',hf2,hf4,nT hsz hms,h1,h2⟩,h3⟩
 ·rintro e w' ⟨rfl,⟨f2,f4,ms',hf2,hf4,hms,h1,h2⟩,h3⟩
  subst hL0 hs0
  exact⟨rfl,⟨ms',_,_,_,hms,h1,h2,hS.turned hf hk hbig hf2 hf4,by show D.ops + 1 + 1 + 1 + 1 + 1 + 1 + 1≤_;omega⟩,h3⟩
theorem zS (aa lg d mn size Q V ops n k:Nat)(fs:List (Nat×List Nat))(body:List Nat)(mo:List Nat)(A:Option Addr)(nb c B:Nat)(w:World)(h:dS w aa lg d mn size Q V ops fs n mo)(aP:ops≤600000000000)(hcap:fs.length < 3 * (size / 43))(hb:gq (k,body))(hnb:nb=body.length)(hr:Reads w B 1 A nb (bv body))(hB:B≤w.heap.size):
  Calls Pg 213 #[PT (some ⟨lg,0,none⟩),X Y k,G A nb c] w fun e w'=>e=rT (X Y 0)∧dS w' aa lg d mn size Q V (ops + 9) (fs++[(k,body)]) n mo∧Fr KL [mn] aa w w':=by
 obtain⟨ms,D,cs,la,m,fl,fm,hD,hL,hS,ho,hms,hmo⟩:=h
 obtain⟨b1,b2,b3,b4⟩:=id hb
 dsimp only at b1 b2 b3 b4
 have hV:=hS.V3
 have hs2:=hS.s2
 refine(zV aa lg d size V (cs.length + 2) k (bJ (cs.length + 1)) body [mn] A nb c B w
  (fun W=>ar W aa d mn ms D∧bQ W aa lg d size V (cs.length + 2) (bJ (cs.length + 1)) false∧w.heap.size≤W.heap.size)
  (fun W=>∃ms' D' cs' la' m' fl' fm',ar W aa d mn ms' D'∧bQ W aa lg d size V (cs'.length + 2) (bJ (cs'.length + 1)) false∧SL D' Q V size fs n cs' la' m' fl' fm'∧D'.ops≤ops + 8∧ms'∉mo∧((aH V la').length=0∨(aH V la').length + (nb + 16)≤size)∧w.heap.size≤W.heap.size)
  (fun W=>dS W aa lg d mn size Q V (ops + 9) (fs++[(k,body)]) n mo) ⟨hD,hL,nR _⟩ hD.hi (fun a b ⟨g1,g2,g3⟩ hb=>⟨g1.made hb,g2.made hb,nT g3 hb.size⟩) (fun W g=>g.2.1) b1 (by omega) (by omega) hr hB b4 ?_ ?_)
 ·rintro W bl bb A1 c1 ⟨g1,g2,g3⟩ hbl hbb
  obtain⟨f,hf,hm,hp⟩:=hS.ld.last_
  rw[List.length_map] at hf hm
  refine Aj aa lg d mn ms size V (cs.length + 2) (cs.length + 1) f bl bb (bJ (cs.length + 1)) D _ A1 (nb + 16) c1 _ W hbl hbb g1 g2 (by rw[fT];have:=hS.ld.few;rw[List.length_map] at this;omega) (jZ _) (by omega) (by have:=hS.ld.few;rw[List.length_map] at this;omega) hm hp (by have:=hS.lim;dsimp only;omega) (by omega) ?_
  intro W2 af
  refine⟨fun hd=>?_,fun hd=>?_⟩
  ·exact⟨ms,D,cs,la,m,fl,fm,g1.made af,g2.made af,hS,by omega,hms,of_decide_eq_true hd,nT g3 af.size⟩
  ·obtain⟨hbig,hk⟩:=hS.full (x:=nb + 16) (by omega) (of_decide_eq_false hd) hcap
   refine(u9 aa lg d mn ms size Q V n m fm fs cs la fl D W2 (g1.made af) (g2.made af) hS hk hbig (by omega)).mono ?_
   rintro e w' ⟨rfl,⟨ms',D',fl',fm',hms',hD',hL',hS',ho'⟩,hf'⟩
   have hsz:=af.size
   exact⟨rfl,⟨ms',D',cs++[la],[],0,fl',fm',hD',by rw[List.length_append];exact hL',hS',by omega,fun e=>by have:=hmo _ e;omega,.inl rfl,nT (nT g3 hsz) hf'.size⟩,hf'⟩
 ·rintro W bl bb A1 c1 b2' ⟨ms',D',cs',la',m',fl',fm',hD',hL',hS',ho',hms',hfit,hsz⟩ hbl hbb hown
  obtain⟨f,hf,hm,hp⟩:=hS'.ld.last_
  rw[List.length_map] at hf hm
  have hfew:=hS'.ld.few
  rw[List.length_map] at hfew
  refine(Ai aa b2' lg d mn ms' size V (cs'.length + 2) (cs'.length + 1) f bl bb (bJ (cs'.length + 1)) D' _ A1 (nb + 16) c1 (df k V body) W hbl hbb hD' hL' (by rw[fT];omega) (jZ _) (by omega) (by omega) hS'.ld.fail (by omega) (by have:=hS'.nowl;omega) hm hp hown (kC k V b4) (hS'.room _ _ (by omega))).mono ?_
  rintro e w' ⟨rfl,h1,h2⟩
  have hS2:=hS'.append hf hb (by rw[←hnb];exact hfit) (D'.ops + 1)
  exact⟨rfl,⟨ms',_,cs',_,m',fl',fm',h1,hL'.fr h2 (by decide) (by decide),hS2,by show D'.ops + 1≤_;omega,hms',fun x hx=>Nat.lt_of_lt_of_le (hmo x hx) (nT hsz h2.size)⟩,h2.mono (by decide) (by simp)⟩
theorem zU (aa lg d mn ms size V nx x f:Nat)(segs:List Nat)(D:aF)(p:bM)(w:World)(hD:ar w aa d mn ms D)(hL:bQ w aa lg d size V nx segs false)(hsg:segs.length≤64)(hx:segs.getLast? =some x)(h1:1≤x)(h2:x < 1000000)(bo:D.fail=0)(aP:D.ops≤900000000000)(hm:av D.now (aN x)=some f)(hp:av D.fs f=some p):
  Calls Pg 121 #[PT (some ⟨lg,0,none⟩)] w fun e w'=>e=rT (X Y 0)∧ar w' aa d mn ms (br D f p)∧Fr KS [] aa w w':=by
 have H:=jH (aI hD hL)
 obtain⟨q,hq⟩:∃q,q=w.heap.size:=⟨_,rfl⟩
 have HQ:=jH hq
 have hx2:=(ab.new w 171 #[PT (some ⟨lg,0,none⟩)]).alloc (cL #[.func (.func 228) #[PT (some ⟨lg,0,none⟩)] #[],.func (.func 229) #[] #[PT (some ⟨q,0,none⟩)]] 71)
 have hg2:=ab.new (w.alloc (cL #[PT (some ⟨lg,0,none⟩)] 171)) 71 #[.func (.func 228) #[PT (some ⟨lg,0,none⟩)] #[],.func (.func 229) #[] #[PT (some ⟨q,0,none⟩)]]
 have hbl2:=((bR w.heap.size w).alloc (nR _) (cL #[PT (some ⟨lg,0,none⟩)] 171)).alloc (by simp) (cL #[.func (.func 228) #[PT (some ⟨lg,0,none⟩)] #[],.func (.func 229) #[] #[PT (some ⟨q,0,none⟩)]] 71)
 rw[show (w.alloc (cL #[PT (some ⟨lg,0,none⟩)] 171)).heap.size=q + 1 by rw[hq];simp] at hg2
 rw[←hq] at hx2 hbl2
 clear hD hL
 go_enter func121,ntmps121
 go_wp2_with fail
 rw[←hq]
 clear hq
 generalize (w.alloc (cL #[PT (some ⟨lg,0,none⟩)] 171)).alloc (cL #[.func (.func 228) #[PT (some ⟨lg,0,none⟩)] #[],.func (.func 229) #[] #[PT (some ⟨q,0,none⟩)]] 71)=w2 at *
 have hD2:ar w2 aa d mn ms D:=H.out.1.made (HQ.out▸hbl2)
 have hL2:bQ w2 aa lg d size V nx segs false:=H.out.2.made (HQ.out▸hbl2)
 have hf02:Fr KS [] aa w w2:=Fr.of_below _ _ (HQ.out▸hbl2) H.out.1.hi
 refine(mi [(228,#[PT (some ⟨lg,0,none⟩)],#[]),(229,#[],#[PT (some ⟨q,0,none⟩)])] (some ⟨q + 1,0,none⟩) 2 2 (q + 2)
  (fun i W=>Fr KS [] aa w2 W∧match i with
   |0=>ar W aa d mn ms D
   |1=>ar W aa d mn ms D
   |_=>ar W aa d mn ms (br D f p)) w2 rfl (by omega)
  (fun p hp=>by
   rcases List.mem_cons.1 hp with rfl|hp
   ·exact enters_of func228 (by kernel_rfl) rfl
   ·rcases List.mem_cons.1 hp with rfl|hp
    ·exact enters_of func229 (by kernel_rfl) rfl
    ·cases hp)
  (fun i W hW=>gV (hW.1.blk _ _ _ hg2 (by decide)) rfl) ⟨Fr.refl _ _ _ _,hD2⟩ ?_).mono ?_
 ·intro i hi W hW
  have hxW:=hW.1.blk _ _ _ hx2 (by decide)
  have hLW:=hL2.fr hW.1 (by decide) (by decide)
  match i,hi,hW with
  |0,_,hW=>
   show Calls _ _ #[PT (some ⟨lg,0,none⟩)] _ _
   refine(qU aa lg d size V nx segs W hLW).mono ?_
   rintro e w' ⟨rfl,rfl⟩
   exact⟨rfl,hW.1,hW.2⟩
  |1,_,hW=>
   show Calls _ _ #[PT (some ⟨q,0,none⟩)] _ _
   refine(zQ aa lg d mn ms size V nx x q f segs D p W hxW hW.2 hLW hsg hx h1 h2 bo aP hm hp).mono ?_
   rintro e w' ⟨rfl,hD,hf⟩
   exact⟨rfl,hW.1.trans hf,hD⟩
 ·rintro e w3 ⟨rfl,hfw,hD3⟩
  have HE:=jH (aI hD3 (hf02.trans hfw))
  clear hD3 hfw hx2 hg2 hbl2 hD2 hf02 hL2
  go_wp2_with fail
  go_ret
  exact⟨rfl,HE.out.1,HE.out.2⟩
theorem zR (aa lg d mn size Q V ops n:Nat)(fs:List (Nat×List Nat))(mo:List Nat)(w:World)(h:dS w aa lg d mn size Q V ops fs n mo)(aP:ops≤800000000000):
  Calls Pg 121 #[PT (some ⟨lg,0,none⟩)] w fun e w'=>e=rT (X Y 0)∧dS w' aa lg d mn size Q V (ops + 1) fs fs.length mo∧Fr KS [] aa w w':=by
 obtain⟨ms,D,cs,la,m,fl,fm,hD,hL,hS,ho,hms,hmo⟩:=h
 obtain⟨f,hf,hm,hp⟩:=hS.ld.last_
 rw[List.length_map] at hf hm
 have hfew:=hS.ld.few
 rw[List.length_map] at hfew
 refine(zU aa lg d mn ms size V (cs.length + 2) (cs.length + 1) f (bJ (cs.length + 1)) D _ w hD hL (by rw[fT];omega) (jZ _) (by omega) (by omega) hS.ld.fail (by omega) hm hp).mono ?_
 rintro e w' ⟨rfl,h1,h2⟩
 exact⟨rfl,⟨ms,_,cs,la,_,fl,fm,h1,hL.fr h2 (by decide) (by decide),hS.synced hf (D.ops + 1),by show D.ops + 1≤_;omega,hms,fun x hx=>Nat.lt_of_lt_of_le (hmo x hx) h2.size⟩,h2⟩
theorem fV {w:World}{q ss:Nat}{t1 t2:TypeId}{v0 v1 v2 v3 v4 v5 v6 v7 v8 v9 v10 v11 v12 v13 u0 u1 u2 u3 u4 u5:Value}(hx:ab w q t1 #[v0,v1,v2,v3,v4,v5,v6,v7,v8,v9,v10,v11,v12,v13])(hs:ab w ss t2 #[u0,u1,u2,u3,u4,u5]):w.cell? ⟨q,0,none⟩=some v0∧w.cell? ⟨q,1,none⟩=some v1∧w.cell? ⟨q,2,none⟩=some v2∧w.cell? ⟨q,3,none⟩=some v3∧w.cell? ⟨q,4,none⟩=some v4∧w.cell? ⟨q,5,none⟩=some v5∧w.cell? ⟨q,6,none⟩=some v6∧w.cell? ⟨q,7,none⟩=some v7∧w.cell? ⟨q,8,none⟩=some v8∧w.cell? ⟨q,9,none⟩=some v9∧w.cell? ⟨q,10,none⟩=some v10∧w.cell? ⟨q,11,none⟩=some v11∧w.cell? ⟨q,12,none⟩=some v12∧w.cell? ⟨q,13,none⟩=some v13∧w.cell? ⟨ss,0,none⟩=some u0∧w.cell? ⟨ss,1,none⟩=some u1:=
 ⟨hx.cell 0,hx.cell 1,hx.cell 2,hx.cell 3,hx.cell 4,hx.cell 5,hx.cell 6,hx.cell 7,hx.cell 8,hx.cell 9,hx.cell 10,hx.cell 11,hx.cell 12,hx.cell 13,hs.cell 0,hs.cell 1⟩
def Fh (V q ss lg sp:Nat)(w3 wc:World)(p:Nat)(A4:Option Addr)(nb c4 kk:Nat)(body:List Nat)(v1 v2 v3 v4 v5 v6 v7 v8 v9 v10 v11 v12 v13:Value):Prop:=
 ab wc p 284 #[X Y kk,X Y V,G A4 nb c4]∧wc.ownsRow w3.heap.size 5 1 (G A4 nb c4) nb (bv body)∧ab wc q 119 #[X Y kk,v1,v2,v3,v4,v5,v6,v7,v8,v9,v10,v11,v12,v13]∧(∃a2 a3 a4 a5,ab wc ss 175 #[PT (some ⟨lg,0,none⟩),PT (some ⟨sp,0,none⟩),a2,a3,a4,a5])∧Below w3.heap.size w3 wc
def KW:List TypeId:=KL++[192]
structure pw (E:World→Prop)(aa sp sd sf:Nat)(gen gen':Nat)(bl bl':List Be)(fm fm':List (Tu×Fl))(V kk nb:Nat)(body:List Nat)(rv:Array Value)(mn:Nat):Prop where
 env:∀W W',E W→Fr KW [mn,sf] aa W W'→E W'
 may:∀W,E W→Calls Pg 210 #[.agg rv] W fun e W'=>e=rT (bL true)∧Below W.heap.size W W'
 app:∀base2 sp2 sd2 sf2 W,E W→bP W base2 sp2 sd2 sf2 gen bl fm→Calls Pg 199 #[PT (some ⟨sp2,0,none⟩),.agg rv] W fun e W'=>e=rT (X Y 0)∧Below base2 W W'
 enc:∀W,E W→Calls Pg 212 #[.agg rv,X Y V] W fun e W'=>∃A' c',e=rT (tU #[aG #[X Y kk,X Y V,G A' nb c'],X Y 0])∧W'.ownsRow W.heap.size 5 1 (G A' nb c') nb (bv body)∧Below W.heap.size W W'
 into:∀W,E W→Calls Pg 214 #[.agg rv,X Y V] W fun e W'=>∃R',e=rT (.agg R')∧Below W.heap.size W W'∧∀(h:bP W' aa sp sd sf gen bl fm),Calls Pg 199 #[PT (some ⟨sp,0,none⟩),.agg R'] W' fun e W2=>e=rT (X Y 0)∧bP W2 aa sp sd sf gen' bl' fm'∧Fr [192] [sf] aa W' W2
theorem od (aa lg d mn size Q V ops n:Nat)(fs:List (Nat×List Nat))(mo:List Nat)(w:World)(h:dS w aa lg d mn size Q V ops fs n mo):Calls Pg 124 #[PT (some ⟨lg,0,none⟩)] w fun e w'=>e=rT (X Y V)∧w=w':=by
 obtain⟨ms,D,cs,la,m,fl,fm,h1,h2,-⟩:=h
 exact zT aa lg d size V _ _ false w h2
theorem qJ (E:World→Prop)(aa ss lg sp sd sf gen gen' d mn size Q V ops n kk nb:Nat)(body:List Nat)(fs:List (Nat×List Nat))(bl bl':List Be)(fm fm':List (Tu×Fl))(v1 v2 v3 v4 v5 v6 v7 v8 v9 v10 v11 v12 v13:Value)(mo:List Nat)(w:World)(hE:E w)(hO:pw E aa sp sd sf gen gen' bl bl' fm fm' V kk nb body #[X Y kk,v1,v2,v3,v4,v5,v6,v7,v8,v9,v10,v11,v12,v13] mn)
  (hW:ie w aa ss lg sp)(hS:bP w aa sp sd sf gen bl fm)(hX:dS w aa lg d mn size Q V ops fs n mo)(hbl:bl.length≤1000)(aP:ops≤600000000000)(hkk:kk≤5)(hcap:fs.length < 3 * (size / 43))(hfr:gq (kk,body))(hnb:nb=body.length)(hmm:mn≠sf)(hmd:mn≠sd)(hsf:sf∈mo):
  Calls Pg 110 #[PT (some ⟨ss,0,none⟩),aG #[X Y kk,v1,v2,v3,v4,v5,v6,v7,v8,v9,v10,v11,v12,v13]] w fun e w'=>e=rT (X Y 0)∧dS w' aa lg d mn size Q V (ops + 9) (fs++[(kk,body)]) n mo∧bP w' aa sp sd sf gen' bl' fm'∧ie w' aa ss lg sp∧Fr KW [mn,sf] aa w w':=by
 have HO:=jH hO
 have an:=hS.hi
 have EB:∀W W',E W→aa≤W.heap.size→Below W.heap.size W W'→E W':=fun W W' h1 h2 h3=>HO.out.env W W' h1 (Fr.of_below _ _ h3 h2)
 have HEB:=jH EB
 have hx:=ab.new w 119 #[X Y kk,v1,v2,v3,v4,v5,v6,v7,v8,v9,v10,v11,v12,v13]
 have ao:=(bR w.heap.size w).alloc (nR _) (cL #[X Y kk,v1,v2,v3,v4,v5,v6,v7,v8,v9,v10,v11,v12,v13] 119)
 have CM:=jH (hO.may _ (EB _ _ hE an ao))
 have hk6:((kk:Int)==6)=false:=by rw[beq_eq_false_iff_ne];omega
 obtain⟨q,hq⟩:∃q,q=w.heap.size:=⟨_,rfl⟩
 have HQ:=jH hq
 have H:=jH (aI hW (aI hS (aI hX hE)))
 have HB:=jH (aI an (aI hcap (aI hfr hnb)))
 rw[←hq] at hx ao
 obtain⟨hss,v2x,v3x,v4x,v5x,hsb⟩:=hW
 clear hS hX hO hE EB an hcap hfr hnb
 go_enter func110,ntmps110
 go_wp2_with fail
 rw[←hq]
 generalize w.alloc (cL #[X Y kk,v1,v2,v3,v4,v5,v6,v7,v8,v9,v10,v11,v12,v13] 119)=w0 at *
 refine(CM.out).mono ?_
 rintro e w1 ⟨rfl,ae⟩
 have hx1:=hx.below ae hx.lt
 have bf:=ao.trans (ae.mono (Nat.le_of_lt hx.lt))
 have hs1:=hsb.below bf (by have:=hsb.lt;omega)
 clear hq
 have e0:=fV hx1 hs1
 obtain⟨e0a,-⟩:=id e0
 have d0:=fV hx1.drew hs1.drew
 have HX:=jH (aI hx1 (aI hs1 bf))
 clear hx ao hx1 ae bf hs1 hsb e0 CM
 have hS1:=H.out.2.1.made (HQ.out▸HX.out.2.2)
 have HE1:Hid (E w1):=HEB.out w w1 H.out.2.2.2 HB.out.1 (HQ.out▸HX.out.2.2)
 have CC:=jH (vU aa sp sd sf gen bl fm w1.drew (hS1.made (bR _ _).drew) hbl)
 have hbs1:aa≤w1.heap.size:=hS1.hi
 clear hS1
 go_wp2_with fail
 go_region_held3 (fun wS=>wS.cell? ⟨q,0,none⟩=some (X Y kk)∧wS.cell? ⟨q,1,none⟩=some (v1)∧wS.cell? ⟨q,2,none⟩=some (v2)∧wS.cell? ⟨q,3,none⟩=some (v3)∧wS.cell? ⟨q,4,none⟩=some (v4)∧wS.cell? ⟨q,5,none⟩=some (v5)∧wS.cell? ⟨q,6,none⟩=some (v6)∧wS.cell? ⟨q,7,none⟩=some (v7)∧wS.cell? ⟨q,8,none⟩=some (v8)∧wS.cell? ⟨q,9,none⟩=some (v9)∧wS.cell? ⟨q,10,none⟩=some (v10)∧wS.cell? ⟨q,11,none⟩=some (v11)∧wS.cell? ⟨q,12,none⟩=some (v12)∧wS.cell? ⟨q,13,none⟩=some (v13)∧wS.cell? ⟨ss,0,none⟩=some (PT (some ⟨lg,0,none⟩))∧wS.cell? ⟨ss,1,none⟩=some (PT (some ⟨sp,0,none⟩))) (first|with_reducible exact d0|with_reducible exact d1|with_reducible exact d2|fail)
  (first
   |(go_at_call 211;(with_reducible refine CC.out.mono ?_);rintro e w2 ⟨sp2,sd2,sf2,rfl,hS2,af⟩;have y2:=HX.out.1.drew.below af HX.out.1.lt;have z2:=HX.out.2.1.drew.below af HX.out.2.1.lt;have d1:=fV y2 z2;have CA2:=HO.out.app w1.drew.heap.size sp2 sd2 sf2 w2 (HEB.out w1 w2 HE1.out hbs1 ((bR _ _).drew.trans af)) hS2)
   |(go_at_call 199;(with_reducible refine CA2.mono ?_);rintro e w3 ⟨rfl,hf3⟩;have y3:=y2.below hf3 HX.out.1.lt;have z3:=z2.below hf3 HX.out.2.1.lt;have d2:=fV y3 z3))
 all_goals
  have hb13:Below w1.heap.size w1 w3:=((bR w1.heap.size w1).drew.trans af).trans hf3
  have HY:=jH (aI y3 (aI z3 hb13))
  have HE3:Hid (E w3):=HEB.out w1 w3 HE1.out hbs1 hb13
  clear hS2 af y2 z2 d1 CA2 hf3 y3 z3 hb13 d0 d2
  have hL3:=H.out.2.2.1.made (HQ.out▸(HX.out.2.2.trans (HY.out.2.2.mono (Nat.le_of_lt HX.out.1.lt))))
  have d3:=fV HY.out.1.drew HY.out.2.1.drew
  have dA:=fun o=>fV (HY.out.1.alloc o).drew (HY.out.2.1.alloc o).drew
  have hbs3:aa≤w3.heap.size:=nT hbs1 HY.out.2.2.size
  have CE:Hid (∀W,E W→Calls Pg 212 #[aG #[X Y kk,v1,v2,v3,v4,v5,v6,v7,v8,v9,v10,v11,v12,v13],X Y V] W fun e W'=>∃A' c',e=rT (tU #[aG #[X Y kk,X Y V,G A' nb c'],X Y 0])∧W'.ownsRow W.heap.size 5 1 (G A' nb c') nb (bv body)∧Below W.heap.size W W'):=HO.out.enc
  go_upto_region 6 with fail
  go_cut [6,7] (fun x6 x7 wc=>x7=X Y 0∧∃p A4 c4,x6=PT (some ⟨p,0,none⟩)∧Fh V q ss lg sp w3 wc p A4 nb c4 kk body v1 v2 v3 v4 v5 v6 v7 v8 v9 v10 v11 v12 v13)
  case first=>
   have hE3d:=HEB.out w3 w3.drew HE3.out hbs3 (bR _ _).drew
   have hE3a:=HEB.out w3 (w3.alloc (cL #[X Y 0,X Y 0,G none 0 0] 284)).drew HE3.out hbs3 (((bR _ _).alloc (nR _) _).drew)
   have CE1:=jH (CE.out _ hE3d)
   have CE2:=jH (CE.out _ hE3a)
   clear hE3d hE3a
   go_wp2_with fail
   go_region_held3 (fun wS=>wS.cell? ⟨q,0,none⟩=some (X Y kk)∧wS.cell? ⟨q,1,none⟩=some (v1)∧wS.cell? ⟨q,2,none⟩=some (v2)∧wS.cell? ⟨q,3,none⟩=some (v3)∧wS.cell? ⟨q,4,none⟩=some (v4)∧wS.cell? ⟨q,5,none⟩=some (v5)∧wS.cell? ⟨q,6,none⟩=some (v6)∧wS.cell? ⟨q,7,none⟩=some (v7)∧wS.cell? ⟨q,8,none⟩=some (v8)∧wS.cell? ⟨q,9,none⟩=some (v9)∧wS.cell? ⟨q,10,none⟩=some (v10)∧wS.cell? ⟨q,11,none⟩=some (v11)∧wS.cell? ⟨q,12,none⟩=some (v12)∧wS.cell? ⟨q,13,none⟩=some (v13)∧wS.cell? ⟨ss,0,none⟩=some (PT (some ⟨lg,0,none⟩))∧wS.cell? ⟨ss,1,none⟩=some (PT (some ⟨sp,0,none⟩))) (first|with_reducible exact d3|with_reducible exact dA _|with_reducible exact d4|with_reducible exact d4A _|with_reducible exact d4S _ _ _|fail)
    (first
     |(go_at_call 124;(first|(with_reducible refine(od aa lg d mn size Q V ops n fs mo w3.drew (hL3.made (bR _ _).drew)).mono ?_)|(with_reducible refine(od aa lg d mn size Q V ops n fs mo (w3.alloc (cL #[X Y 0,X Y 0,G none 0 0] 284)).drew (hL3.made ((bR _ _).alloc (nR _) _).drew)).mono ?_));rintro e w4 ⟨rfl,rfl⟩)
     |(go_at_call 212;(first|(with_reducible refine CE1.out.mono ?_)|(with_reducible refine CE2.out.mono ?_));rintro e w4 ⟨A4,c4,rfl,bF,aq⟩;(first|(have y4:=HY.out.1.drew.below aq HY.out.1.lt;have z4:=HY.out.2.1.drew.below aq HY.out.2.1.lt)|(have y4:=(HY.out.1.alloc (cL #[X Y 0,X Y 0,G none 0 0] 284)).drew.below aq (HY.out.1.alloc (cL #[X Y 0,X Y 0,G none 0 0] 284)).lt;have z4:=(HY.out.2.1.alloc (cL #[X Y 0,X Y 0,G none 0 0] 284)).drew.below aq (HY.out.2.1.alloc (cL #[X Y 0,X Y 0,G none 0 0] 284)).lt;have k4:=(ab.new w3 284 #[X Y 0,X Y 0,G none 0 0]).drew.below aq (ab.new w3 284 #[X Y 0,X Y 0,G none 0 0]).lt;have hqp:q≠w3.heap.size:=Nat.ne_of_lt HY.out.1.lt;have hsp:ss≠w3.heap.size:=Nat.ne_of_lt HY.out.2.1.lt;have d4S:=fun v u x=>fV (((y4.far (p:=⟨w3.heap.size,0,none⟩) hqp v).far (p:=⟨w3.heap.size,1,none⟩) hqp u).far (p:=⟨w3.heap.size,2,none⟩) hqp x) (((z4.far (p:=⟨w3.heap.size,0,none⟩) hsp v).far (p:=⟨w3.heap.size,1,none⟩) hsp u).far (p:=⟨w3.heap.size,2,none⟩) hsp x);have s0:w4.cell? ⟨w3.heap.size,0,none⟩=some (X Y 0):=by {have:=k4.cell 0;simpa using this};have b0:=k4.frozen 0;have s1:w4.cell? ⟨w3.heap.size,1,none⟩=some (X Y 0):=by {have:=k4.cell 1;simpa using this};have b1:=k4.frozen 1;have s2:w4.cell? ⟨w3.heap.size,2,none⟩=some (G none 0 0):=by {have:=k4.cell 2;simpa using this};have b2:=k4.frozen 2;have hl4:=k4.lt;have t1:∀v,(w4.setCell ⟨w3.heap.size,0,none⟩ v).cell? ⟨w3.heap.size,1,none⟩=some (X Y 0):=fun v=>by {have:=(k4.set_ 0 v).cell 1;simpa using this};have r1:∀v,(w4.setCell ⟨w3.heap.size,0,none⟩ v).frozen? ⟨w3.heap.size,1,none⟩=false:=fun v=>(k4.set_ 0 v).frozen 1;have t2:∀v u,((w4.setCell ⟨w3.heap.size,0,none⟩ v).setCell ⟨w3.heap.size,1,none⟩ u).cell? ⟨w3.heap.size,2,none⟩=some (G none 0 0):=fun v u=>by {have:=((k4.set_ 0 v).set_ 1 u).cell 2;simpa using this};have r2:∀v u,((w4.setCell ⟨w3.heap.size,0,none⟩ v).setCell ⟨w3.heap.size,1,none⟩ u).frozen? ⟨w3.heap.size,2,none⟩=false:=fun v u=>((k4.set_ 0 v).set_ 1 u).frozen 2));have d4:=fV y4 z4;have d4A:=fun o=>fV (y4.alloc o) (z4.alloc o)))
   all_goals
    go_wp2_with fail
    go_meet
    first
     |exact⟨rfl,w4.heap.size,A4,c4,rfl,ab.new w4 284 _,aJ bF ((bR w4.heap.size w4).alloc (nR _) _),y4.alloc _,⟨_,_,_,_,z4.alloc _⟩,((bR w3.heap.size w3).drew.trans aq).trans (((bR w4.heap.size w4).alloc (nR _) _).mono aq.size)⟩
     |(have hsz:w3.heap.size≤(w3.alloc (cL #[X Y 0,X Y 0,G none 0 0] 284)).drew.heap.size:=by {show w3.heap.size≤(w3.alloc _).heap.size;simp};have aA:Below w3.heap.size w3 w4:=((bR w3.heap.size w3).alloc (nR _) (cL #[X Y 0,X Y 0,G none 0 0] 284)).drew.trans (aq.mono hsz);exact⟨rfl,w3.heap.size,A4,c4,rfl,((k4.set_ 0 _).set_ 1 _).set_ 2 _,iY (aB (aB (aB bF k4 (by decide) 0 _) (k4.set_ 0 _) (by decide) 1 _) ((k4.set_ 0 _).set_ 1 _) (by decide) 2 _) hsz,((y4.far (p:=⟨w3.heap.size,0,none⟩) hqp _).far (p:=⟨w3.heap.size,1,none⟩) hqp _).far (p:=⟨w3.heap.size,2,none⟩) hqp _,⟨_,_,_,_,((z4.far (p:=⟨w3.heap.size,0,none⟩) hsp _).far (p:=⟨w3.heap.size,1,none⟩) hsp _).far (p:=⟨w3.heap.size,2,none⟩) hsp _⟩,((aA.setCell (p:=⟨w3.heap.size,0,none⟩) (nR _) _).setCell (p:=⟨w3.heap.size,1,none⟩) (nR _) _).setCell (p:=⟨w3.heap.size,2,none⟩) (nR _) _⟩)
  case rest=>
   rename_i x6 x7 wc hcut
   obtain⟨rfl,p,A4,c4,rfl,hp,hown,hyc,⟨a2,a3,a4,a5,hzc⟩,hbc⟩:=hcut
   have hb_c:Below w1.heap.size w1 wc:=HY.out.2.2.trans (hbc.mono HY.out.2.2.size)
   have hq_c:Below w.heap.size w wc:=HQ.out▸(HX.out.2.2.trans (hb_c.mono (Nat.le_of_lt HX.out.1.lt)))
   have hbsc:aa≤wc.heap.size:=nT hbs3 hbc.size
   have hXc:=H.out.2.2.1.made hq_c
   have hSc:=H.out.2.1.made hq_c
   have HEc:Hid (E wc):=HEB.out w3 wc HE3.out hbs3 hbc
   have CL:=jH (zS aa lg d mn size Q V ops n kk fs body mo A4 nb c4 wc.heap.size wc.drew (hXc.made (bR _ _).drew) aP HB.out.2.1 HB.out.2.2.1 HB.out.2.2.2 (Reads.of_own hown).drew (nR _))
   have hpd:=hp.drew
   have hzd:=hzc.drew
   have g0:wc.drew.cell? ⟨ss,0,none⟩=some (PT (some ⟨lg,0,none⟩))∧wc.drew.cell? ⟨p,0,none⟩=some (X Y kk)∧wc.drew.cell? ⟨p,2,none⟩=some (G A4 nb c4):=⟨hzd.cell 0,hpd.cell 0,hpd.cell 2⟩
   have HZ:=jH (aI hp (aI hyc (aI hzc (aI hq_c (aI hXc hSc)))))
   clear hp hown hyc hzc hbc hb_c hq_c hXc hSc hpd hzd d3 dA hL3 CE
   go_wp2_with fail
   go_region_held3 (fun wS=>wS.cell? ⟨ss,0,none⟩=some (PT (some ⟨lg,0,none⟩))∧wS.cell? ⟨p,0,none⟩=some (X Y kk)∧wS.cell? ⟨p,2,none⟩=some (G A4 nb c4)) (first|with_reducible exact g0|with_reducible exact g1|fail)
    (first|(go_at_call 213;(with_reducible refine CL.out.mono ?_);rintro e w5 ⟨rfl,hX5,hf5⟩;have p5:=hf5.blk _ _ _ HZ.out.1.drew (by decide);have z5:=hf5.blk _ _ _ HZ.out.2.2.1.drew (by decide);have g1:w5.cell? ⟨ss,0,none⟩=some (PT (some ⟨lg,0,none⟩))∧w5.cell? ⟨p,0,none⟩=some (X Y kk)∧w5.cell? ⟨p,2,none⟩=some (G A4 nb c4):=⟨z5.cell 0,p5.cell 0,p5.cell 2⟩))
   all_goals
    have y5:=hf5.blk _ _ _ HZ.out.2.1.drew (by decide)
    have S5:=(HZ.out.2.2.2.2.2.made (bR _ _).drew).fr hf5 (by decide) (by decide) (by simpa using Ne.symm hmd) (by simpa using Ne.symm hmm)
    have f5:Fr KW [mn,sf] aa wc w5:=((Fr.refl KW [mn,sf] aa wc).drew).trans (hf5.mono (by decide) (by simp))
    have HE5:Hid (E w5):=HO.out.env wc w5 HEc.out f5
    have hbs5:aa≤w5.heap.size:=nT hbsc f5.size
    have e5:=fV y5.drew z5.drew
    have C5:=jH (HO.out.into w5.drew (HEB.out w5 _ HE5.out hbs5 (bR _ _).drew))
    have HF:=jH (aI f5 (aI hX5 (aI S5 (aI y5 z5))))
    clear hf5 hX5 p5 z5 g0 g1 y5 S5 f5
    have L5d:=HF.out.2.1.made (bR _ _).drew
    go_wp2_with fail
    go_region_held3 (fun wS=>wS.cell? ⟨q,0,none⟩=some (X Y kk)∧wS.cell? ⟨q,1,none⟩=some (v1)∧wS.cell? ⟨q,2,none⟩=some (v2)∧wS.cell? ⟨q,3,none⟩=some (v3)∧wS.cell? ⟨q,4,none⟩=some (v4)∧wS.cell? ⟨q,5,none⟩=some (v5)∧wS.cell? ⟨q,6,none⟩=some (v6)∧wS.cell? ⟨q,7,none⟩=some (v7)∧wS.cell? ⟨q,8,none⟩=some (v8)∧wS.cell? ⟨q,9,none⟩=some (v9)∧wS.cell? ⟨q,10,none⟩=some (v10)∧wS.cell? ⟨q,11,none⟩=some (v11)∧wS.cell? ⟨q,12,none⟩=some (v12)∧wS.cell? ⟨q,13,none⟩=some (v13)∧wS.cell? ⟨ss,0,none⟩=some (PT (some ⟨lg,0,none⟩))∧wS.cell? ⟨ss,1,none⟩=some (PT (some ⟨sp,0,none⟩))) (first|with_reducible exact e5|with_reducible exact e6|with_reducible exact e7|fail)
     (first
      |(go_at_call 124;(with_reducible refine(od aa lg d mn size Q V _ n _ mo w5.drew L5d).mono ?_);rintro e w6 ⟨rfl,rfl⟩)
      |(go_at_call 214;(with_reducible refine C5.out.mono ?_);rintro e w6 ⟨R',rfl,hb6,hap6⟩;have y6:=HF.out.2.2.2.1.drew.below hb6 HF.out.2.2.2.1.lt;have z6:=HF.out.2.2.2.2.drew.below hb6 HF.out.2.2.2.2.lt;have e6:=fV y6 z6;have S6:=(HF.out.2.2.1.made (bR _ _).drew).made hb6;have C6:=hap6 S6)
      |(go_at_call 199;(with_reducible refine C6.mono ?_);rintro e w7 ⟨rfl,hS7,hf7⟩;have y7:=hf7.blk _ _ _ y6 (by decide);have z7:=hf7.blk _ _ _ z6 (by decide);have e7:=fV y7 z7))
    all_goals
     have hb56:Below w5.heap.size w5 w6:=(bR w5.heap.size w5).drew.trans hb6
     have f67:Fr KW [mn,sf] aa w6 w7:=hf7.mono (by decide) (by simp)
     have f57:Fr KW [mn,sf] aa w5 w7:=(Fr.of_below _ _ hb56 hbs5).trans f67
     have X7:=(HF.out.2.1.made hb56).fr hf7 (by decide) (by simpa using hmm) (fun x hx=>by rw[List.mem_singleton.1 hx];exact hsf)
     have HR:=jH (aI X7 (aI hS7 (aI z7 (((Fr.of_below KW [mn,sf] HZ.out.2.2.2.1 HB.out.1).trans HF.out.1).trans f57))))
     clear hb56 f67 f57 X7 hS7 hf7 y7 z7 y6 z6 e5 e6 e7 S6 C6 hap6 hb6 L5d
     go_wp2_with fail
     go_ret
     exact⟨rfl,HR.out.1,HR.out.2.1,⟨hss,_,_,_,_,HR.out.2.2.1⟩,HR.out.2.2.2⟩
end
section
open Go.RowKit
def RG (p:Nat)(r:List Nat)(w w':World):Prop:=aD w' p r∧w.grownBy w' (some p)
theorem mH (p x:Nat)(r:List Nat)(w:World)(hx:x < 256)(hl:r.length≤1000000)(ha:ay r)(h:aD w p (be x 1++r)):
  Calls Pg 406 #[PT (some ⟨p,0,none⟩)] w fun e w'=>e=rT (X Y x)∧RG p r w w':=by
 refine(mG p (be x 1++r) w (by rw[List.length_append,be_length];omega) (by rw[List.length_append,be_length];omega) (bY (bZ _ _) ha) h).mono ?_
 rintro e w' ⟨rfl,hr⟩
 have h2:=hr.1
 rw[jg] at h2
 rw[iE,im 1 x (by omega)]
 exact⟨rfl,h2,hr.2⟩
theorem jo (p x:Nat)(r:List Nat)(w:World)(hx:x < 65536)(hl:r.length≤1000000)(ha:ay r)(h:aD w p (be x 2++r)):
  Calls Pg 306 #[PT (some ⟨p,0,none⟩)] w fun e w'=>e=rT (X Y x)∧RG p r w w':=by
 refine(mQ p (be x 2++r) w (by rw[List.length_append,be_length];omega) (by rw[List.length_append,be_length];omega) (bY (bZ _ _) ha) h).mono ?_
 rintro e w' ⟨rfl,hr⟩
 have h2:=hr.1
 rw[jg] at h2
 rw[iE,im 2 x (by omega)]
 exact⟨rfl,h2,hr.2⟩
theorem iB (p x:Nat)(r:List Nat)(w:World)(hx:x < 4294967296)(hl:r.length≤1000000)(ha:ay r)(h:aD w p (be x 4++r)):
  Calls Pg 305 #[PT (some ⟨p,0,none⟩)] w fun e w'=>e=rT (X Z x)∧RG p r w w':=by
 refine(mJ p (be x 4++r) w (by rw[List.length_append,be_length];omega) (by rw[List.length_append,be_length];omega) (bY (bZ _ _) ha) h).mono ?_
 rintro e w' ⟨rfl,hr⟩
 have h2:=hr.1
 rw[jg] at h2
 rw[iE,im 4 x (by omega)]
 exact⟨rfl,h2,hr.2⟩
theorem Bb (p x:Nat)(r:List Nat)(w:World)(hx:x < 9223372036854775808)(hl:r.length≤1000000)(ha:ay r)(h:aD w p (be x 8++r)):
  Calls Pg 412 #[PT (some ⟨p,0,none⟩)] w fun e w'=>e=rT (X Y x)∧RG p r w w':=by
 refine(Ba p (be x 8++r) w (by rw[List.length_append,be_length];omega) (by rw[List.length_append,be_length];omega) (bY (bZ _ _) ha) (by rw[iE,im 8 x (by omega)];exact hx) h).mono ?_
 rintro e w' ⟨rfl,hr⟩
 have h2:=hr.1
 rw[jg] at h2
 rw[iE,im 8 x (by omega)]
 exact⟨rfl,h2,hr.2⟩
theorem aD.grown {w w':World}{p q:Nat}{l:List Nat}(h:aD w p l)(hg:w.grownBy w' (some q))(h2:w.heap.size≤q):aD w' p l:=
 h.below ((bR _ _).grown hg (nR _) (fun k hk=>by injection hk with hk;omega))
theorem fY {a b:World}{row:Option Nat}(h:Below a.heap.size a b):a.grownBy b row:=⟨h.os,h.tape,h.output,h.size,fun i hi _=>h.block i hi⟩
theorem aD.far6 {w:World}{p g:Nat}{l:List Nat}(h:aD w p l)(hg:p < g)(i:Nat)(u:Value):aD (w.setCell ⟨g,i,none⟩ u) p l:=by
 obtain⟨B,A,c,h1,h2,h3,h4⟩:=h
 exact⟨B,A,c,h1,h2.far (p:=⟨g,i,none⟩) (by show p≠g;omega) u,h3.below ((bR B w).setCell (p:=⟨g,i,none⟩) (by show B≤g;omega) u),h4⟩
theorem oH (w:World)(g i:Nat)(u:Value):w.grownBy (w.setCell ⟨g,i,none⟩ u) (some g):=by
 have hb:=(bR g w).setCell (p:=⟨g,i,none⟩) (nR _) u
 exact⟨hb.os,hb.tape,hb.output,hb.size,fun k hk az=>Below.heap_setCell w ⟨g,i,none⟩ u k (fun e=>az (congrArg some e))⟩
theorem cM {a c:World}{p g:Nat}(h:a.grownBy c (some p))(hg:a.heap.size≤g)(i:Nat)(u:Value):a.grownBy (c.setCell ⟨g,i,none⟩ u) (some p):=
 h.andThen (oH c g i u) (fun j hj=>by injection hj with hj;left;omega)
theorem vr (p src dst pr sp dp:Nat)(r:List Nat)(w:World)(h1:src < 4294967296)(h2:dst < 4294967296)(h3:pr < 256)(h4:sp < 65536)(h5:dp < 65536)(hm:cP ⟨src,dst,pr,sp,dp⟩=true)(hl:r.length≤10000)(ha:ay r)
  (h:aD w p (be src 4++(be dst 4++(be pr 1++(be sp 2++(be dp 2++r)))))):
  Calls Pg 410 #[PT (some ⟨p,0,none⟩)] w fun e w'=>e=rT (tU #[aG #[X Z src,X Z dst,X Y pr,X Y sp,X Y dp],bL true])∧RG p r w w':=by
 obtain⟨q,hq⟩:∃q,q=w.heap.size:=⟨_,rfl⟩
 have ao:=ab.new w 39 #[X Z 0,X Z 0,X Y 0,X Y 0,X Y 0]
 have hbl0:w.grownBy (w.alloc (cL #[X Z 0,X Z 0,X Y 0,X Y 0,X Y 0] 39)) (some p):=fY ((bR _ w).alloc (nR _) _)
 have hp:p < q:=hq▸h.lt
 have h:=h.below ((bR w.heap.size w).alloc (nR _) (cL #[X Z 0,X Z 0,X Y 0,X Y 0,X Y 0] 39))
 have HL:Hid ((be src 4++(be dst 4++(be pr 1++(be sp 2++(be dp 2++r))))).length=r.length + 13):=by
  simp[be_length,Hid];omega
 have CM:=jH (jV ⟨src,dst,pr,sp,dp⟩)
 rw[hm] at CM
 rw[←hq] at ao
 go_enter func410,ntmps410
 go_wp2_with fail
 rw[←hq]
 have HE:=jH hq
 clear hq
 generalize (w.alloc (cL #[X Z 0,X Z 0,X Y 0,X Y 0,X Y 0] 39))=w1 at *
 have H1:=jH (aI h (aI hbl0 ao))
 clear h hbl0 ao hm
 refine(xE p _ w1 H1.out.1).mono ?_
 rintro e w' ⟨rfl,rfl⟩
 rw[HL.out]
 have d0:decide (((r.length + 13:Nat):Int) < 13)=false:=decide_eq_false (by omega)
 rw[Int.natCast_add] at d0
 clear HL
 go_wp2_with fail
 refine(iB p src (be dst 4++(be pr 1++(be sp 2++(be dp 2++r)))) w1 (by omega) (by first|omega|(simp[be_length];omega)) (dJ (dJ (dJ (dJ ha)))) H1.out.1).mono ?_
 rintro e w2 ⟨rfl,hr⟩
 have H2:Hid (aD w2 p (be dst 4++(be pr 1++(be sp 2++(be dp 2++r))))∧w.grownBy w2 (some p)∧ab w2 q 39 #[X Z 0,X Z 0,X Y 0,X Y 0,X Y 0]):=⟨hr.1,H1.out.2.1.trans hr.2,H1.out.2.2.grown hr.2 (by simp;omega)⟩
 clear hr H1
 go_wp2_with fail
 refine(iB p dst (be pr 1++(be sp 2++(be dp 2++r))) w2 (by omega) (by first|omega|(simp[be_length];omega)) (dJ (dJ (dJ ha))) H2.out.1).mono ?_
 rintro e w3 ⟨rfl,hr⟩
 have H3:Hid (aD w3 p (be pr 1++(be sp 2++(be dp 2++r)))∧w.grownBy w3 (some p)∧ab w3 q 39 #[X Z 0,X Z 0,X Y 0,X Y 0,X Y 0]):=⟨hr.1,H2.out.2.1.trans hr.2,H2.out.2.2.grown hr.2 (by simp;omega)⟩
 clear hr H2
 go_wp2_with fail
 refine(mH p pr (be sp 2++(be dp 2++r)) w3 (by omega) (by first|omega|(simp[be_length];omega)) (dJ (dJ ha)) H3.out.1).mono ?_
 rintro e w4 ⟨rfl,hr⟩
 have H4:Hid (aD w4 p (be sp 2++(be dp 2++r))∧w.grownBy w4 (some p)∧ab w4 q 39 #[X Z 0,X Z 0,X Y 0,X Y 0,X Y 0]):=⟨hr.1,H3.out.2.1.trans hr.2,H3.out.2.2.grown hr.2 (by simp;omega)⟩
 clear hr H3
 obtain⟨q6,hq6⟩:∃q6,q6=w4.heap.size:=⟨_,rfl⟩
 have hb6:=ab.new w4 39 #[X Z src,X Z dst,X Y pr,X Y 0,X Y 0]
 have hg6:w4.grownBy (w4.alloc (cL #[X Z src,X Z dst,X Y pr,X Y 0,X Y 0] 39)) (some p):=fY ((bR _ w4).alloc (nR _) _)
 have hr6:=H4.out.1.below ((bR w4.heap.size w4).alloc (nR _) (cL #[X Z src,X Z dst,X Y pr,X Y 0,X Y 0] 39))
 have hl6:=H4.out.2.2.lt
 go_wp2_with fail
 rw[←hq6] at hb6 hl6⊢
 have H5:(fun Vv:World=>Hid (aD Vv p (be sp 2++(be dp 2++r))∧w.grownBy Vv (some p)∧ab Vv q 39 #[X Z 0,X Z 0,X Y 0,X Y 0,X Y 0]∧ab Vv q6 39 #[X Z src,X Z dst,X Y pr,X Y 0,X Y 0]∧q < q6)) (w4.alloc (cL #[X Z src,X Z dst,X Y pr,X Y 0,X Y 0] 39)):=⟨hr6,H4.out.2.1.trans hg6,H4.out.2.2.alloc _,hb6,hl6⟩
 clear hr6 hg6 hb6 H4 hl6 hq6
 generalize (w4.alloc (cL #[X Z src,X Z dst,X Y pr,X Y 0,X Y 0] 39))=w5 at *
 refine(jo p sp (be dp 2++r) w5 (by omega) (by first|omega|(simp[be_length];omega)) (dJ ha) H5.out.1).mono ?_
 rintro e w6 ⟨rfl,hr⟩
 have H6:Hid (aD w6 p (be dp 2++r)∧w.grownBy w6 (some p)∧ab w6 q 39 #[X Z 0,X Z 0,X Y 0,X Y 0,X Y 0]∧ab w6 q6 39 #[X Z src,X Z dst,X Y pr,X Y 0,X Y 0]∧q < q6):=⟨hr.1,H5.out.2.1.trans hr.2,H5.out.2.2.1.grown hr.2 (by simp;omega),H5.out.2.2.2.1.grown hr.2 (by have:=H5.out.2.2.2.2;simp;omega),H5.out.2.2.2.2⟩
 clear hr H5
 go_wp2_with fail
 refine(jo p dp r w6 (by omega) (by first|omega|(simp[be_length];omega)) ha H6.out.1).mono ?_
 rintro e w7 ⟨rfl,hr⟩
 have H7:Hid (aD w7 p r∧w.grownBy w7 (some p)∧ab w7 q 39 #[X Z 0,X Z 0,X Y 0,X Y 0,X Y 0]∧ab w7 q6 39 #[X Z src,X Z dst,X Y pr,X Y 0,X Y 0]∧q < q6):=⟨hr.1,H6.out.2.1.trans hr.2,H6.out.2.2.1.grown hr.2 (by simp;omega),H6.out.2.2.2.1.grown hr.2 (by have:=H6.out.2.2.2.2;simp;omega),H6.out.2.2.2.2⟩
 clear hr H6
 have z3:=H7.out.2.2.2.1.frozen 3
 have z4:=(H7.out.2.2.2.1.set_ 3 (X Y sp)).frozen 4
 have x3:=H7.out.2.2.2.1.cell 3
 have x4:=(H7.out.2.2.2.1.set_ 3 (X Y sp)).cell 4
 have b8:=(H7.out.2.2.2.1.set_ 3 (X Y sp)).set_ 4 (X Y dp)
 have a8:=(H7.out.2.2.1.far (p:=⟨q6,3,none⟩) (by have:=H7.out.2.2.2.2;show q≠q6;omega) (X Y sp)).far (p:=⟨q6,4,none⟩) (by have:=H7.out.2.2.2.2;show q≠q6;omega) (X Y dp)
 have c0:=b8.cell 0
 have c1:=b8.cell 1
 have c2:=b8.cell 2
 have c3:=b8.cell 3
 have c4:=b8.cell 4
 simp only[ga,gz,gN,Array.setIfInBounds,List.set_toArray,List.set_cons_zero,List.set_cons_succ,List.size_toArray] at x3 x4 c0 c1 c2 c3 c4
 have H8:(fun Vv:World=>Hid (aD Vv p r∧w.grownBy Vv (some p)∧ab Vv q 39 #[X Z 0,X Z 0,X Y 0,X Y 0,X Y 0]∧ab Vv q6 39 #[X Z src,X Z dst,X Y pr,X Y sp,X Y dp]∧q < q6)) ((w7.setCell ⟨q6,3,none⟩ (X Y sp)).setCell ⟨q6,4,none⟩ (X Y dp)):=by
  obtain⟨g1,g2,g3,g4,g5⟩:=H7.out
  have h6:w.heap.size≤q6:=by have:=HE.out;omega
  exact⟨(g1.far6 (by omega) _ _).far6 (by omega) _ _,cM (cM g2 h6 3 _) h6 4 _,a8,b8,g5⟩
 clear a8 b8 H7
 go_wp2_with fail
 generalize ((w7.setCell ⟨q6,3,none⟩ (X Y sp)).setCell ⟨q6,4,none⟩ (X Y dp))=w8 at *
 refine(CM.out w8).mono ?_
 rintro e w9 ⟨rfl,hb9⟩
 have H9:Hid (aD w9 p r∧w.grownBy w9 (some p)∧ab w9 q 39 #[X Z 0,X Z 0,X Y 0,X Y 0,X Y 0]∧ab w9 q6 39 #[X Z src,X Z dst,X Y pr,X Y sp,X Y dp]∧q < q6):=⟨H8.out.1.below hb9,H8.out.2.1.trans (fY hb9),H8.out.2.2.1.below hb9 H8.out.2.2.1.lt,H8.out.2.2.2.1.below hb9 H8.out.2.2.2.1.lt,H8.out.2.2.2.2⟩
 clear hb9 H8 CM z3 z4 x3 x4 c0 c1 c2 c3 c4
 obtain⟨g1,g2,g3,g4,g5⟩:=H9.out
 obtain⟨c0,c1,c2,c3,c4⟩:=g4.c5
 have z0:=g3.frozen 0
 have z1:=(g3.set_ 0 (X Z src)).frozen 1
 have z2:=((g3.set_ 0 (X Z src)).set_ 1 (X Z dst)).frozen 2
 have z3:=(((g3.set_ 0 (X Z src)).set_ 1 (X Z dst)).set_ 2 (X Y pr)).frozen 3
 have z4:=((((g3.set_ 0 (X Z src)).set_ 1 (X Z dst)).set_ 2 (X Y pr)).set_ 3 (X Y sp)).frozen 4
 have n5:=((((g3.set_ 0 (X Z src)).set_ 1 (X Z dst)).set_ 2 (X Y pr)).set_ 3 (X Y sp)).set_ 4 (X Y dp)
 have y0:=g3.cell 0
 have y1:=(g3.set_ 0 (X Z src)).cell 1
 have y2:=((g3.set_ 0 (X Z src)).set_ 1 (X Z dst)).cell 2
 have y3:=(((g3.set_ 0 (X Z src)).set_ 1 (X Z dst)).set_ 2 (X Y pr)).cell 3
 have y4:=((((g3.set_ 0 (X Z src)).set_ 1 (X Z dst)).set_ 2 (X Y pr)).set_ 3 (X Y sp)).cell 4
 have d0:=n5.cell 0
 have d1:=n5.cell 1
 have d2:=n5.cell 2
 have d3:=n5.cell 3
 have d4:=n5.cell 4
 simp only[ga,gz,gN,Array.setIfInBounds,List.set_toArray,List.set_cons_zero,List.set_cons_succ,List.size_toArray,List.length_cons,List.length_nil] at y0 y1 y2 y3 y4 d0 d1 d2 d3 d4
 clear g1 g2 g4 g5
 go_wp2_with fail
 obtain⟨g1,g2,-,g4,g5⟩:=H9.out
 have h6:w.heap.size≤q:=by have:=HE.out;omega
 refine bodyPost_ret (v:=tU #[aG #[X Z src,X Z dst,X Y pr,X Y sp,X Y dp],bL true]) (by simp[results,results410,go_sem,d0,d1,d2,d3,d4]) rfl ?_
 exact⟨rfl,((((g1.far6 hp _ _).far6 hp _ _).far6 hp _ _).far6 hp _ _).far6 hp _ _,cM (cM (cM (cM (cM g2 h6 0 _) h6 1 _) h6 2 _) h6 3 _) h6 4 _⟩
theorem vt (p:Nat)(k:Tu)(hk:bT k)(hm:cP k=true)(r:List Nat)(w:World)(hl:r.length≤10000)(ha:ay r)(h:aD w p (du k++r)):
  Calls Pg 410 #[PT (some ⟨p,0,none⟩)] w fun e w'=>e=rT (tU #[.agg k.vals,bL true])∧RG p r w w':=by
 obtain⟨src,dst,pr,sp,dp⟩:=k
 have hm2:=of_decide_eq_true hm
 obtain⟨m1,m2,m3,m4,m5⟩:=hm2
 obtain⟨k1,k2,-,-,-⟩:=hk
 dsimp only at m1 m2 m3 m4 m5 k1 k2
 obtain⟨pr,rfl⟩:∃n:Nat,pr=(n:Int):=⟨pr.toNat,by omega⟩
 obtain⟨sp,rfl⟩:∃n:Nat,sp=(n:Int):=⟨sp.toNat,by omega⟩
 obtain⟨dp,rfl⟩:∃n:Nat,dp=(n:Int):=⟨dp.toNat,by omega⟩
 refine vr p src dst pr sp dp r w k1 k2 (by omega) (by omega) (by omega) hm hl ha ?_
 have:du ⟨src,dst,(pr:Int),(sp:Int),(dp:Int)⟩=be src 4++be dst 4++be pr 1++be sp 2++be dp 2:=by
  unfold du
  dsimp only
  rw[fF pr (by omega),fF sp (by omega),fF dp (by omega)]
 rw[this] at h
 simpa only[List.append_assoc] using h
theorem iI {w:World}{q src dst:Nat}{pr sp dp:Int}(h:ab w q 39 #[X Z src,X Z dst,X Y pr,X Y sp,X Y dp]):w.cell? ⟨q,0,none⟩=some (X Z src)∧w.cell? ⟨q,1,none⟩=some (X Z dst)∧w.cell? ⟨q,2,none⟩=some (X Y pr)∧w.cell? ⟨q,3,none⟩=some (X Y sp)∧w.cell? ⟨q,4,none⟩=some (X Y dp):=⟨h.cell 0,h.cell 1,h.cell 2,h.cell 3,h.cell 4⟩
theorem xH (V p:Nat)(f:Fl)(hf:cI f)(hin:aT V f=f)(r:List Nat)(w:World)(hl:r.length≤5000)(ha:ay r)(h:aD w p (cX V f++r)):
  Calls Pg 409 #[PT (some ⟨p,0,none⟩),X Y V] w fun e w'=>e=rT (tU #[.agg f.vals,bL true])∧RG p r w w':=by
 obtain⟨⟨src,dst,pr,sp,dp⟩,be,gen,seen⟩:=f
 obtain⟨hk,hm,h1,h2,h3⟩:=hf
 dsimp only at hk hm h1 h2 h3
 obtain⟨g2,hg2⟩:∃g,decide ((2:Int)≤(V:Int))=g:=⟨_,rfl⟩
 obtain⟨g3,hg3⟩:∃g,decide ((3:Int)≤(V:Int))=g:=⟨_,rfl⟩
 obtain⟨bg,hbg⟩:∃bg:List Nat,bg=if 2≤V then Go.Proofs.YtgjnoccflmjheaaGreatDoor.be gen 4 else []:=⟨_,rfl⟩
 obtain⟨bs,hbs⟩:∃bs:List Nat,bs=if 3≤V then Go.Proofs.YtgjnoccflmjheaaGreatDoor.be seen 8 else []:=⟨_,rfl⟩
 have hbgl:bg.length≤4∧ay bg:=by rw[hbg];split;exact⟨by simp[be_length],bZ _ _⟩;exact⟨by simp,fun x hx=>by simp at hx⟩
 have hbsl:bs.length≤8∧ay bs:=by rw[hbs];split;exact⟨by simp[be_length],bZ _ _⟩;exact⟨by simp,fun x hx=>by simp at hx⟩
 have HV:Hid ((g2=true→bg=Go.Proofs.YtgjnoccflmjheaaGreatDoor.be gen 4)∧(g2=false→bg=[]∧gen=0)∧(g3=true→bs=Go.Proofs.YtgjnoccflmjheaaGreatDoor.be seen 8)∧(g3=false→bs=[]∧seen=0)):=by
  unfold aT at hin
  injection hin with _ _ e1 e2
  dsimp only at e1 e2
  refine⟨fun e=>?_,fun e=>?_,fun e=>?_,fun e=>?_⟩
  ·rw[←hg2] at e;have:=of_decide_eq_true e;rw[hbg,if_pos (by omega)]
  ·rw[←hg2] at e;have:=of_decide_eq_false e;rw[hbg,if_neg (by omega)];rw[if_pos (by omega)] at e1;exact⟨rfl,e1.symm⟩
  ·rw[←hg3] at e;have:=of_decide_eq_true e;rw[hbs,if_pos (by omega)]
  ·rw[←hg3] at e;have:=of_decide_eq_false e;rw[hbs,if_neg (by omega)];rw[if_pos (by omega)] at e2;exact⟨rfl,e2.symm⟩
 obtain⟨q,hq⟩:∃q,q=w.heap.size:=⟨_,rfl⟩
 have hp:p < q:=hq▸h.lt
 have ao:=ab.new w 47 #[X Z 0,X Z 0,X Y 0,X Y 0,X Y 0,X Y 0,X Y 0,X Y 0]
 have hbl0:w.grownBy (w.alloc (cL #[X Z 0,X Z 0,X Y 0,X Y 0,X Y 0,X Y 0,X Y 0,X Y 0] 47)) (some p):=fY ((bR _ w).alloc (nR _) _)
 have hr0:aD (w.alloc (cL #[X Z 0,X Z 0,X Y 0,X Y 0,X Y 0,X Y 0,X Y 0,X Y 0] 47)) p (du ⟨src,dst,pr,sp,dp⟩++(Go.Proofs.YtgjnoccflmjheaaGreatDoor.be be 2++(bg++(bs++r)))):=by
  have h:=h.below ((bR w.heap.size w).alloc (nR _) (cL #[X Z 0,X Z 0,X Y 0,X Y 0,X Y 0,X Y 0,X Y 0,X Y 0] 47))
  unfold cX at h
  dsimp only at h
  rw[←hbg,←hbs] at h
  simpa only[List.append_assoc] using h
 rw[←hq] at ao
 clear h hbg hbs hin
 dsimp only[Fl.vals]
 go_enter func409,ntmps409
 go_wp2_with fail
 rw[←hq]
 have HE:=jH hq
 clear hq
 generalize (w.alloc (cL #[X Z 0,X Z 0,X Y 0,X Y 0,X Y 0,X Y 0,X Y 0,X Y 0] 47))=w1 at *
 refine(vt p ⟨src,dst,pr,sp,dp⟩ hk hm _ w1 (by simp[be_length];omega) (dJ (bY hbgl.2 (bY hbsl.2 ha))) hr0).mono ?_
 rintro e w2 ⟨rfl,hr⟩
 dsimp only[Tu.vals]
 obtain⟨q6,hq6⟩:∃q6,q6=w2.heap.size:=⟨_,rfl⟩
 have af:=ao.grown hr.2 (by simp;omega)
 have H3:(fun Vv:World=>Hid (aD Vv p (Go.Proofs.YtgjnoccflmjheaaGreatDoor.be be 2++(bg++(bs++r)))∧w.grownBy Vv (some p)∧ab Vv q 47 #[X Z 0,X Z 0,X Y 0,X Y 0,X Y 0,X Y 0,X Y 0,X Y 0]∧ab Vv q6 39 #[X Z src,X Z dst,X Y pr,X Y sp,X Y dp]∧p < q6∧q < q6)) (w2.alloc (cL #[X Z src,X Z dst,X Y pr,X Y sp,X Y dp] 39)):=by
  have:=af.lt
  have:=hr.1.lt
  exact⟨hr.1.below ((bR _ _).alloc (nR _) _),(hbl0.trans hr.2).trans (fY ((bR _ w2).alloc (nR _) _)),af.alloc _,hq6▸ab.new w2 _ _,by omega,by omega⟩
 clear af hr hr0 ao hbl0
 go_upto_region 2 with fail
 rw[←hq6]
 clear hq6
 generalize (w2.alloc (cL #[X Z src,X Z dst,X Y pr,X Y sp,X Y dp] 39))=w3 at *
 go_cut [8] from 9 (fun v8 w5=>∃q8,v8=PT (some ⟨q8,0,none⟩)∧Hid (aD w5 p (bg++(bs++r))∧w.grownBy w5 (some p)∧ab w5 q 47 #[X Z 0,X Z 0,X Y 0,X Y 0,X Y 0,X Y 0,X Y 0,X Y 0]∧ab w5 q8 47 #[X Z src,X Z dst,X Y pr,X Y sp,X Y dp,X Y be,X Y 0,X Y 0]∧p < q8∧q < q8))
 case first=>
  have hq9:q < w3.heap.size∧q6≠w3.heap.size∧p < w3.heap.size:=⟨H3.out.2.2.1.lt,Nat.ne_of_lt H3.out.2.2.2.1.lt,H3.out.1.lt⟩
  have d0:=iI H3.out.2.2.2.1.drew
  have e0:=iI (H3.out.2.2.2.1.alloc (cL #[X Z 0,X Z 0,X Y 0,X Y 0,X Y 0,X Y 0,X Y 0,X Y 0] 47)).drew
  have e1:=iI (H3.out.2.2.2.1.alloc (cL #[X Z 0,X Z 0,X Y 0,X Y 0,X Y 0,X Y 0,X Y 0,X Y 0] 47))
  go_region_held3 (fun wS=>wS.cell? ⟨q6,0,none⟩=some (X Z src)∧wS.cell? ⟨q6,1,none⟩=some (X Z dst)∧wS.cell? ⟨q6,2,none⟩=some (X Y pr)∧wS.cell? ⟨q6,3,none⟩=some (X Y sp)∧wS.cell? ⟨q6,4,none⟩=some (X Y dp)) (first|with_reducible exact d0|with_reducible exact d1|with_reducible exact d2|with_reducible exact d3|with_reducible exact d4|with_reducible exact e0|with_reducible exact e1|fail)
   (first
   |(go_at_call 306;(with_reducible refine(jo p be _ w3.drew (by omega) (by simp[be_length];omega) (bY hbgl.2 (bY hbsl.2 ha)) (H3.out.1.below ((bR _ w3).drew))).mono ?_);rintro e w4 ⟨rfl,hr4⟩;have b6:=H3.out.2.2.2.1.drew.grown hr4.2 (by have:=H3.out.2.2.2.2.1;simp;omega);have d1:=iI b6;have d2:=iI (b6.alloc (cL #[X Z 0,X Z 0,X Y 0,X Y 0,X Y 0,X Y 0,X Y 0,X Y 0] 47));have d3:=iI (b6.alloc (cL #[X Z src,X Z dst,X Y pr,X Y sp,X Y dp,X Y be,X Y 0,X Y 0] 47)))
   |(go_at_call 306;(with_reducible refine(jo p be _ (w3.alloc (cL #[X Z 0,X Z 0,X Y 0,X Y 0,X Y 0,X Y 0,X Y 0,X Y 0] 47)).drew (by omega) (by simp[be_length];omega) (bY hbgl.2 (bY hbsl.2 ha)) (H3.out.1.below (((bR _ w3).alloc (nR _) _).drew))).mono ?_);rintro e w4 ⟨rfl,hr4⟩;have b6:=(H3.out.2.2.2.1.alloc (cL #[X Z 0,X Z 0,X Y 0,X Y 0,X Y 0,X Y 0,X Y 0,X Y 0] 47)).drew.grown hr4.2 (by have:=H3.out.2.2.2.2.1;simp;omega);have d1:=iI b6;have b8:=(ab.new w3 47 #[X Z 0,X Z 0,X Y 0,X Y 0,X Y 0,X Y 0,X Y 0,X Y 0]).drew.grown hr4.2 (by have:=hq9;simp;omega)
     have z0:=(b8).frozen 0
     have y0:=(b8).cell 0
     have nn_0:=(b8).set_ 0 (X Z src)
     have z1:=(nn_0).frozen 1
     have y1:=(nn_0).cell 1
     have nn_1:=(nn_0).set_ 1 (X Z dst)
     have z2:=(nn_1).frozen 2
     have y2:=(nn_1).cell 2
     have nn_2:=(nn_1).set_ 2 (X Y pr)
     have z3:=(nn_2).frozen 3
     have y3:=(nn_2).cell 3
     have nn_3:=(nn_2).set_ 3 (X Y sp)
     have z4:=(nn_3).frozen 4
     have y4:=(nn_3).cell 4
     have nn_4:=(nn_3).set_ 4 (X Y dp)
     have z5:=(nn_4).frozen 5
     have y5:=(nn_4).cell 5
     have nn_5:=(nn_4).set_ 5 (X Y be)
     have z6:=(nn_5).frozen 6
     have y6:=(nn_5).cell 6
     have nn_6:=(nn_5).set_ 6 (X Y 0)
     have z7:=(nn_6).frozen 7
     have y7:=(nn_6).cell 7
     have nn:=(nn_6).set_ 7 (X Y 0)
     have mm0:=nn.cell 0
     have mm1:=nn.cell 1
     have mm2:=nn.cell 2
     have mm3:=nn.cell 3
     have mm4:=nn.cell 4
     have mm5:=nn.cell 5
     have mm6:=nn.cell 6
     have mm7:=nn.cell 7
     simp only[ga,gz,gN,Array.setIfInBounds,List.set_toArray,List.set_cons_zero,List.set_cons_succ,List.size_toArray,List.length_cons,List.length_nil] at y0 y1 y2 y3 y4 y5 y6 y7 mm0 mm1 mm2 mm3 mm4 mm5 mm6 mm7 nn
     clear nn_0 nn_1 nn_2 nn_3 nn_4 nn_5 nn_6
     have d4:=iI (((((((((b6.far (p:=⟨w3.heap.size,0,none⟩) hq9.2.1 (X Z src)).far (p:=⟨w3.heap.size,1,none⟩) hq9.2.1 (X Z dst)).far (p:=⟨w3.heap.size,2,none⟩) hq9.2.1 (X Y pr)).far (p:=⟨w3.heap.size,3,none⟩) hq9.2.1 (X Y sp)).far (p:=⟨w3.heap.size,4,none⟩) hq9.2.1 (X Y dp)).far (p:=⟨w3.heap.size,5,none⟩) hq9.2.1 (X Y be)).far (p:=⟨w3.heap.size,6,none⟩) hq9.2.1 (X Y 0)).far (p:=⟨w3.heap.size,7,none⟩) hq9.2.1 (X Y 0)))))
  ·obtain⟨q8,hq8⟩:∃q8,q8=w4.heap.size:=⟨_,rfl⟩
   have H5:(fun Vv:World=>Hid (aD Vv p (bg++(bs++r))∧w.grownBy Vv (some p)∧ab Vv q 47 #[X Z 0,X Z 0,X Y 0,X Y 0,X Y 0,X Y 0,X Y 0,X Y 0]∧ab Vv q8 47 #[X Z src,X Z dst,X Y pr,X Y sp,X Y dp,X Y be,X Y 0,X Y 0]∧p < q8∧q < q8)) (w4.alloc (cL #[X Z src,X Z dst,X Y pr,X Y sp,X Y dp,X Y be,X Y 0,X Y 0] 47)):=by
    obtain⟨g1,g2,g3,g4,g5,g6⟩:=H3.out
    have g3':=g3.drew.grown hr4.2 (by simp;omega)
    have:=g3'.lt
    have:=hr4.1.lt
    exact⟨hr4.1.below ((bR _ _).alloc (nR _) _),((g2.trans (fY (bR _ w3).drew)).trans hr4.2).trans (fY ((bR _ w4).alloc (nR _) _)),g3'.alloc _,hq8▸ab.new w4 _ _,by omega,by omega⟩
   have HQ8:=jH hq8
   clear hq8
   go_wp2_with fail
   go_meet
   exact⟨q8,by rw[HQ8.out],H5⟩
  ·obtain⟨q8,hq8⟩:∃q8,q8=w3.heap.size:=⟨_,rfl⟩
   have H5:(fun Vv:World=>Hid (aD Vv p (bg++(bs++r))∧w.grownBy Vv (some p)∧ab Vv q 47 #[X Z 0,X Z 0,X Y 0,X Y 0,X Y 0,X Y 0,X Y 0,X Y 0]∧ab Vv q8 47 #[X Z src,X Z dst,X Y pr,X Y sp,X Y dp,X Y be,X Y 0,X Y 0]∧p < q8∧q < q8)) ((((((((w4.setCell ⟨w3.heap.size,0,none⟩ (X Z src)).setCell ⟨w3.heap.size,1,none⟩ (X Z dst)).setCell ⟨w3.heap.size,2,none⟩ (X Y pr)).setCell ⟨w3.heap.size,3,none⟩ (X Y sp)).setCell ⟨w3.heap.size,4,none⟩ (X Y dp)).setCell ⟨w3.heap.size,5,none⟩ (X Y be)).setCell ⟨w3.heap.size,6,none⟩ (X Y 0)).setCell ⟨w3.heap.size,7,none⟩ (X Y 0)):=by
    obtain⟨g1,g2,g3,g4,g5,g6⟩:=H3.out
    have g3':=(g3.alloc (cL #[X Z 0,X Z 0,X Y 0,X Y 0,X Y 0,X Y 0,X Y 0,X Y 0] 47)).drew.grown hr4.2 (by simp;omega)
    have h9:=hq9.2.2
    have h8:w.heap.size≤w3.heap.size:=g2.size
    have h7:q≠w3.heap.size:=Nat.ne_of_lt hq9.1
    refine⟨((((((((hr4.1.far6 h9 _ _).far6 h9 _ _).far6 h9 _ _).far6 h9 _ _).far6 h9 _ _).far6 h9 _ _).far6 h9 _ _).far6 h9 _ _),(cM (cM (cM (cM (cM (cM (cM (cM ((g2.trans (fY (((bR _ w3).alloc (nR _) _).drew))).trans hr4.2) h8 0 _) h8 1 _) h8 2 _) h8 3 _) h8 4 _) h8 5 _) h8 6 _) h8 7 _),((((((((g3'.far (p:=⟨w3.heap.size,0,none⟩) h7 _).far (p:=⟨w3.heap.size,1,none⟩) h7 _).far (p:=⟨w3.heap.size,2,none⟩) h7 _).far (p:=⟨w3.heap.size,3,none⟩) h7 _).far (p:=⟨w3.heap.size,4,none⟩) h7 _).far (p:=⟨w3.heap.size,5,none⟩) h7 _).far (p:=⟨w3.heap.size,6,none⟩) h7 _).far (p:=⟨w3.heap.size,7,none⟩) h7 _),?_,by omega,by have:=hq9.1;omega⟩
    rw[hq8]
    exact nn
   have HQ8:=jH hq8
   clear hq8
   go_wp2_with fail
   go_meet
   exact⟨q8,by rw[HQ8.out],H5⟩
 case rest=>
  obtain⟨q8,rfl,H5⟩:=hcut
  clear H3
  go_upto_if 19 with fail
  go_cut [] from 9 (fun wd=>Hid (aD wd p (bs++r)∧w.grownBy wd (some p)∧ab wd q 47 #[X Z 0,X Z 0,X Y 0,X Y 0,X Y 0,X Y 0,X Y 0,X Y 0]∧ab wd q8 47 #[X Z src,X Z dst,X Y pr,X Y sp,X Y dp,X Y be,X Y gen,X Y 0]∧p < q8∧q < q8))
  case first=>
   cases g2 with
   |false=>
    have H6:Hid (aD wc p (bs++r)∧w.grownBy wc (some p)∧ab wc q 47 #[X Z 0,X Z 0,X Y 0,X Y 0,X Y 0,X Y 0,X Y 0,X Y 0]∧ab wc q8 47 #[X Z src,X Z dst,X Y pr,X Y sp,X Y dp,X Y be,X Y gen,X Y 0]∧p < q8∧q < q8):=by
     obtain⟨g1,g2,g3,g4,g5,g6⟩:=H5.out
     obtain⟨e1,e2⟩:=HV.out.2.1 rfl
     rw[e1] at g1
     rw[e2]
     exact⟨g1,g2,g3,g4,g5,g6⟩
    clear H5
    go_wp2_with fail
    go_meet
    exact H6
   |true=>
    have h5:=H5.out.1
    rw[HV.out.1 rfl] at h5
    have HU:=jH (iB p gen _ wc (by omega) (by simp;omega) (bY hbsl.2 ha) h5)
    clear h5
    go_wp2_with fail
    refine HU.out.mono ?_
    rintro e w6 ⟨rfl,hr⟩
    have H6:Hid (aD w6 p (bs++r)∧w.grownBy w6 (some p)∧ab w6 q 47 #[X Z 0,X Z 0,X Y 0,X Y 0,X Y 0,X Y 0,X Y 0,X Y 0]∧ab w6 q8 47 #[X Z src,X Z dst,X Y pr,X Y sp,X Y dp,X Y be,X Y 0,X Y 0]∧p < q8∧q < q8):=by
     obtain⟨g1,g2,g3,g4,g5,g6⟩:=H5.out
     exact⟨hr.1,g2.trans hr.2,g3.grown hr.2 (by simp;omega),g4.grown hr.2 (by simp;omega),g5,g6⟩
    clear hr H5 HU
    have cv:IntKind.i64.wrap (gen:Int)=(gen:Int):=IntWalk.i64_in _ (by omega)
    have z6:=H6.out.2.2.2.1.frozen 6
    have x6:=H6.out.2.2.2.1.cell 6
    have H7:(fun Vv:World=>Hid (aD Vv p (bs++r)∧w.grownBy Vv (some p)∧ab Vv q 47 #[X Z 0,X Z 0,X Y 0,X Y 0,X Y 0,X Y 0,X Y 0,X Y 0]∧ab Vv q8 47 #[X Z src,X Z dst,X Y pr,X Y sp,X Y dp,X Y be,X Y gen,X Y 0]∧p < q8∧q < q8)) (w6.setCell ⟨q8,6,none⟩ (X Y gen)):=by
     obtain⟨g1,g2,g3,g4,g5,g6⟩:=H6.out
     have:=HE.out
     exact⟨g1.far6 g5 _ _,cM g2 (by omega) 6 _,g3.far (p:=⟨q8,6,none⟩) (by show q≠q8;omega) _,g4.set_ 6 _,g5,g6⟩
    clear H6
    go_wp2_with fail
    go_meet
    exact H7
  case rest=>
  clear H5
  go_upto_if 25 with fail
  have H7:=hcut
  clear hcut
  go_cut [] from 9 (fun wd=>Hid (aD wd p r∧w.grownBy wd (some p)∧ab wd q 47 #[X Z 0,X Z 0,X Y 0,X Y 0,X Y 0,X Y 0,X Y 0,X Y 0]∧ab wd q8 47 #[X Z src,X Z dst,X Y pr,X Y sp,X Y dp,X Y be,X Y gen,X Y seen]∧p < q8∧q < q8))
  case first=>
   cases g3 with
   |false=>
    have H9:Hid (aD wc p r∧w.grownBy wc (some p)∧ab wc q 47 #[X Z 0,X Z 0,X Y 0,X Y 0,X Y 0,X Y 0,X Y 0,X Y 0]∧ab wc q8 47 #[X Z src,X Z dst,X Y pr,X Y sp,X Y dp,X Y be,X Y gen,X Y seen]∧p < q8∧q < q8):=by
     obtain⟨g1,g2,g3,g4,g5,g6⟩:=H7.out
     obtain⟨e1,e2⟩:=HV.out.2.2.2 rfl
     rw[e1] at g1
     rw[e2]
     exact⟨g1,g2,g3,g4,g5,g6⟩
    clear H7
    go_wp2_with fail
    go_meet
    exact H9
   |true=>
    have h7:=H7.out.1
    rw[HV.out.2.2.1 rfl] at h7
    have HU:=jH (Bb p seen _ wc (by omega) (by omega) ha h7)
    clear h7
    go_wp2_with fail
    refine HU.out.mono ?_
    rintro e w8 ⟨rfl,hr⟩
    have H8:Hid (aD w8 p r∧w.grownBy w8 (some p)∧ab w8 q 47 #[X Z 0,X Z 0,X Y 0,X Y 0,X Y 0,X Y 0,X Y 0,X Y 0]∧ab w8 q8 47 #[X Z src,X Z dst,X Y pr,X Y sp,X Y dp,X Y be,X Y gen,X Y 0]∧p < q8∧q < q8):=by
     obtain⟨g1,g2,g3,g4,g5,g6⟩:=H7.out
     exact⟨hr.1,g2.trans hr.2,g3.grown hr.2 (by simp;omega),g4.grown hr.2 (by simp;omega),g5,g6⟩
    clear hr H7 HU
    have z7:=H8.out.2.2.2.1.frozen 7
    have x7:=H8.out.2.2.2.1.cell 7
    have H9:(fun Vv:World=>Hid (aD Vv p r∧w.grownBy Vv (some p)∧ab Vv q 47 #[X Z 0,X Z 0,X Y 0,X Y 0,X Y 0,X Y 0,X Y 0,X Y 0]∧ab Vv q8 47 #[X Z src,X Z dst,X Y pr,X Y sp,X Y dp,X Y be,X Y gen,X Y seen]∧p < q8∧q < q8)) (w8.setCell ⟨q8,7,none⟩ (X Y seen)):=by
     obtain⟨g1,g2,g3,g4,g5,g6⟩:=H8.out
     have:=HE.out
     exact⟨g1.far6 g5 _ _,cM g2 (by omega) 7 _,g3.far (p:=⟨q8,7,none⟩) (by show q≠q8;omega) _,g4.set_ 7 _,g5,g6⟩
    clear H8
    go_wp2_with fail
    go_meet
    exact H9
  case rest=>
  have H9:=hcut
  clear hcut H7
  have g3:=H9.out.2.2.1
  have g4:=H9.out.2.2.2.1
  obtain⟨c0,c1,c2,c3,c4,c5,c6,c7⟩:=g4.c8
  have z0:=(g3).frozen 0
  have y0:=(g3).cell 0
  have n_0:=(g3).set_ 0 (X Z src)
  have z1:=(n_0).frozen 1
  have y1:=(n_0).cell 1
  have n_1:=(n_0).set_ 1 (X Z dst)
  have z2:=(n_1).frozen 2
  have y2:=(n_1).cell 2
  have n_2:=(n_1).set_ 2 (X Y pr)
  have z3:=(n_2).frozen 3
  have y3:=(n_2).cell 3
  have n_3:=(n_2).set_ 3 (X Y sp)
  have z4:=(n_3).frozen 4
  have y4:=(n_3).cell 4
  have n_4:=(n_3).set_ 4 (X Y dp)
  have z5:=(n_4).frozen 5
  have y5:=(n_4).cell 5
  have n_5:=(n_4).set_ 5 (X Y be)
  have z6:=(n_5).frozen 6
  have y6:=(n_5).cell 6
  have n_6:=(n_5).set_ 6 (X Y gen)
  have z7:=(n_6).frozen 7
  have y7:=(n_6).cell 7
  have n:=(n_6).set_ 7 (X Y seen)
  have d0:=n.cell 0
  have d1:=n.cell 1
  have d2:=n.cell 2
  have d3:=n.cell 3
  have d4:=n.cell 4
  have d5:=n.cell 5
  have d6:=n.cell 6
  have d7:=n.cell 7
  simp only[ga,gz,gN,Array.setIfInBounds,List.set_toArray,List.set_cons_zero,List.set_cons_succ,List.size_toArray,List.length_cons,List.length_nil] at y0 y1 y2 y3 y4 y5 y6 y7 d0 d1 d2 d3 d4 d5 d6 d7 n
  clear n_0 n_1 n_2 n_3 n_4 n_5 n_6
  clear g3 g4 n
  go_wp2_with fail
  obtain⟨g1,g2,-,-,g5,g6⟩:=H9.out
  have h6:w.heap.size≤q:=by have:=HE.out;omega
  refine bodyPost_ret (v:=tU #[aG #[X Z src,X Z dst,X Y pr,X Y sp,X Y dp,X Y be,X Y gen,X Y seen],bL true]) (by simp[results,results409,go_sem,d0,d1,d2,d3,d4,d5,d6,d7]) rfl ?_
  exact⟨rfl,((((((((g1.far6 hp _ _).far6 hp _ _).far6 hp _ _).far6 hp _ _).far6 hp _ _).far6 hp _ _).far6 hp _ _).far6 hp _ _),(cM (cM (cM (cM (cM (cM (cM (cM g2 h6 0 _) h6 1 _) h6 2 _) h6 3 _) h6 4 _) h6 5 _) h6 6 _) h6 7 _)⟩
theorem yx {w:World}{aa n size p:Nat}{e:TypeId}{v:Value}{xs:List Value}(h:w.ownsRow aa e size v n xs)(hp:p < aa):v.ownBlock=none∨some p≠v.ownBlock:=by
 rcases h.2 with⟨hv,_⟩|⟨g,cap,cur,hv,hg,_⟩
 ·left;rw[hv];rfl
 ·right;rw[hv];simp[Value.ownBlock];omega
theorem nC {w:World}{aa n size p:Nat}{e:TypeId}{v:Value}{xs:List Value}(h:w.ownsRow aa e size v n xs)(hp:p < aa):v.ownBlock=none∨v.ownBlock≠some p:=(yx h hp).imp id Ne.symm
theorem yy {w:World}{aa n size q:Nat}{e:TypeId}{v:Value}{xs:List Value}(h:w.ownsRow aa e size v n xs)(hq:w.heap.size≤q):v.ownBlock≠some q:=fun e=>by have:=(h.lt q e).2;omega
theorem aD.grownO {w w':World}{p aa n size:Nat}{e:TypeId}{v:Value}{xs:List Value}{l:List Nat}(h:aD w p l)(hg:w.grownBy w' v.ownBlock)(ho:w.ownsRow aa e size v n xs)(hp:p < aa):aD w' p l:=by
 obtain⟨B,A,c,h1,h2,h3,h4⟩:=h
 have hb:Below (p + 1) w w':=(bR (p + 1) w).grown hg h2.lt (fun k hk=>by have:=(ho.lt k hk).1;omega)
 exact⟨B,A,c,h1,h2.below hb (by omega),h3.below (hb.mono (by omega)),h4⟩
theorem sF {a c c':World}{row:Option Nat}(h:a.grownBy c row)(hb:Below a.heap.size c c'):a.grownBy c' row:=⟨hb.os.trans h.os,hb.tape.trans h.tape,hb.output.trans h.output,nT h.size hb.size,fun i hi az=>(hb.block i hi).trans (h.block i hi az)⟩
theorem aD.low {w w':World}{p B:Nat}{l:List Nat}(h:aD w p l)(hb:Below B w w')(hp:p < B):aD w' p l:=by
 obtain⟨B2,A,c,h1,h2,h3,h4⟩:=h
 exact⟨B2,A,c,h1,h2.below hb hp,h3.below (hb.mono (by omega)),h4⟩
theorem En (l:List Be)(b:Be):aC (l++[b])=aC l++b.cells:=by simp[aC]
theorem yg (V p:Nat)(l:List Be)(hn:l.length≤16)(hok:∀b∈l,fQ b=true)(had:∀b∈l,b.addr < 4294967296)(hin:∀b∈l,aX V b=b)(r:List Nat)(w:World)(hl:r.length≤5000)(ha:ay r)(h:aD w p (be l.length 1++(dC V l++r))):
  Calls Pg 411 #[PT (some ⟨p,0,none⟩),X Y V] w fun e w'=>∃A c,e=rT (G A l.length c)∧w'.ownsRow w.heap.size 34 3 (G A l.length c) l.length (aC l)∧RG p r w w':=by
 obtain⟨g2,hg2⟩:∃g,decide ((2:Int)≤(V:Int))=g:=⟨_,rfl⟩
 have HG2:=jH hg2
 have hp:=h.lt
 have H1:=jH h
 have HP:=jH hp
 have hmin:min ((l.length:Nat):Int) 17=((l.length:Nat):Int):=by omega
 have hle:decide (((l.length:Nat):Int) < 17)=true:=decide_eq_true (by omega)
 clear h hp
 go_enter func411,ntmps411
 go_wp2_with fail
 refine(mH p l.length _ w (by omega) (by have:=kM V l;rw[List.length_append];omega) (bY (l8 _ _) ha) H1.out).mono ?_
 rintro e w1 ⟨rfl,hr⟩
 have H2:=jH hr
 clear hr H1
 go_wp2_with fail
 go_loopg [5,10] l.length (fun gk o at_ wr=>∃(j:Nat) (A2:Option Addr) (c2:Nat),o=G A2 j c2∧at_=X Y j∧Hid (j + gk=l.length)∧Hid (wr.ownsRow w.heap.size 34 3 (G A2 j c2) j (aC (l.take j)))∧Hid (aD wr p (dC V (l.drop j)++r))∧Hid (w.grownBy wr (some p)))
 case atStart=>exact⟨0,none,0,rfl,rfl,(by show _=_;omega),World.ownsRow_nil _ _ _ _,H2.out.1,H2.out.2⟩
 case round=>
  obtain⟨j,A2,c2,rfl,rfl,hgk,hown,hrb,hgr⟩:=hrel
  by_cases au:j < l.length
  ·obtain⟨⟨id,ad,wt⟩,hfj⟩:∃f,l[j]? =some f:=⟨_,List.getElem?_eq_getElem au⟩
   have hmem:=List.mem_of_getElem? hfj
   have hbok:=hok _ hmem
   have hbad:=had _ hmem
   have hbin:=hin _ hmem
   dsimp only[fQ,ey] at hbok hbad
   simp only[Bool.and_eq_true,decide_eq_true_eq] at hbok
   obtain⟨⟨hid0,hid1⟩,hwt0,hwt1⟩:=hbok
   obtain⟨id,rfl⟩:∃n:Nat,id=(n:Int):=⟨id.toNat,by omega⟩
   obtain⟨wt,rfl⟩:∃n:Nat,wt=(n:Int):=⟨wt.toNat,by omega⟩
   have hdrop:l.drop j=⟨id,ad,wt⟩::l.drop (j + 1):=by
    rw[List.drop_eq_getElem_cons au,(List.getElem?_eq_some_iff.1 hfj).2]
   have htake:l.take (j + 1)=l.take j++[⟨id,ad,wt⟩]:=by rw[List.take_add_one,hfj];rfl
   obtain⟨bw,aA⟩:∃bw:List Nat,bw=if 2≤V then be wt 1 else []:=⟨_,rfl⟩
   have hbwl:bw.length≤1∧ay bw:=by rw[aA];split;exact⟨by simp[be_length],bZ _ _⟩;exact⟨by simp,fun x hx=>by simp at hx⟩
   have HV:Hid ((g2=true→bw=be wt 1)∧(g2=false→bw=[]∧wt=1)):=by
    unfold aX at hbin
    injection hbin with _ _ e1
    dsimp only at e1
    refine⟨fun e=>?_,fun e=>?_⟩
    ·rw[←HG2.out] at e;have:=of_decide_eq_true e;rw[aA,if_pos (by omega)]
    ·rw[←HG2.out] at e;have:=of_decide_eq_false e;rw[aA,if_neg (by omega)];rw[if_pos (by omega)] at e1;exact⟨rfl,by omega⟩
   have hrb2:aD wr p (be id 2++(be ad 4++(bw++(dC V (l.drop (j + 1))++r)))):=by
    have h1:=hrb.out
    rw[hdrop,show dC V ((⟨id,ad,wt⟩:Be)::l.drop (j + 1))=ib V ⟨id,ad,wt⟩++dC V (l.drop (j + 1)) from rfl] at h1
    unfold ib at h1
    dsimp only at h1
    rw[fF id (by omega),fF wt (by omega),←aA] at h1
    simpa only[List.append_assoc] using h1
   have hR:ay (dC V (l.drop (j + 1))++r):=bY (l8 _ _) ha
   have hRl:(dC V (l.drop (j + 1))++r).length≤6000:=by have:=kM V (l.drop (j + 1));rw[List.length_drop] at this;rw[List.length_append];omega
   have HT:=jH htake
   have HH:=jH (aI hrb2 (aI hown.out hgr.out))
   clear hdrop hfj hmem htake hrb2 hrb hown hgr aA hbin
   go_wp2_with fail
   generalize hRR:(dC V (l.drop (j + 1))++r)=R at *
   have HRR:=jH hRR
   clear hRR
   refine(jo p id _ wr (by omega) (by simp[be_length];omega) (dJ (bY hbwl.2 hR)) HH.out.1).mono ?_
   rintro e w2 ⟨rfl,hr⟩
   have HH2:Hid (aD w2 p (be ad 4++(bw++R))∧w2.ownsRow w.heap.size 34 3 (G A2 j c2) j (aC (l.take j))∧w.grownBy w2 (some p)):=⟨hr.1,HH.out.2.1.kept hr.2 (nC HH.out.2.1 HP.out),HH.out.2.2.trans hr.2⟩
   clear hr HH
   go_wp2_with fail
   refine(iB p ad _ w2 hbad (by simp[be_length];omega) (bY hbwl.2 hR) HH2.out.1).mono ?_
   rintro e w3 ⟨rfl,hr⟩
   have HH3:Hid (aD w3 p (bw++R)∧w3.ownsRow w.heap.size 34 3 (G A2 j c2) j (aC (l.take j))∧w.grownBy w3 (some p)):=⟨hr.1,HH2.out.2.1.kept hr.2 (nC HH2.out.2.1 HP.out),HH2.out.2.2.trans hr.2⟩
   clear hr HH2
   obtain⟨q6,hq6⟩:∃q6,q6=w3.heap.size:=⟨_,rfl⟩
   have H4:(fun Vv:World=>Hid (aD Vv p (bw++R)∧Vv.ownsRow w.heap.size 34 3 (G A2 j c2) j (aC (l.take j))∧w.grownBy Vv (some p)∧ab Vv q6 34 #[X Y id,X Z ad,X Y 1]∧(Value.slice A2 j c2).ownBlock≠some q6∧w.heap.size≤q6)) (w3.alloc (cL #[X Y id,X Z ad,X Y 1] 34)):=by
    obtain⟨g1,g2,g3⟩:=HH3.out
    exact⟨g1.below ((bR _ _).alloc (nR _) _),aJ g2 ((bR _ _).alloc (nR _) _),g3.trans (fY ((bR _ w3).alloc (nR _) _)),hq6▸ab.new w3 _ _,yy g2 (by omega),by have:=g3.size;omega⟩
   clear HH3
   go_upto_if 18 with fail
   go_cut [] from 11 to 26 (fun w6=>Hid (aD w6 p R∧w6.ownsRow w.heap.size 34 3 (G A2 j c2) j (aC (l.take j))∧w.grownBy w6 (some p)∧ab w6 q6 34 #[X Y id,X Z ad,X Y wt]))
   case first=>
    rw[←hq6]
    have HQ:=jH hq6
    clear hq6
    generalize (w3.alloc (cL #[X Y id,X Z ad,X Y 1] 34))=w4 at *
    cases g2 with
    |false=>
     have H6:Hid (aD w4 p R∧w4.ownsRow w.heap.size 34 3 (G A2 j c2) j (aC (l.take j))∧w.grownBy w4 (some p)∧ab w4 q6 34 #[X Y id,X Z ad,X Y wt]):=by
      obtain⟨g1,g2,g3,g4,g5,g6⟩:=H4.out
      obtain⟨e1,e2⟩:=HV.out.2 rfl
      rw[e1] at g1
      rw[e2]
      exact⟨g1,g2,g3,g4⟩
     clear H4
     go_wp2_with fail
     have hq6:=HQ.out
     subst hq6
     go_meet
     exact H6
    |true=>
     have h4:=H4.out.1
     rw[HV.out.1 rfl] at h4
     have HU:=jH (mH p wt _ w4 (by omega) (by omega) hR h4)
     clear h4
     go_wp2_with fail
     refine HU.out.mono ?_
     rintro e w5 ⟨rfl,hr⟩
     have H5:Hid (aD w5 p R∧w5.ownsRow w.heap.size 34 3 (G A2 j c2) j (aC (l.take j))∧w.grownBy w5 (some p)∧ab w5 q6 34 #[X Y id,X Z ad,X Y 1]∧(Value.slice A2 j c2).ownBlock≠some q6∧w.heap.size≤q6):=by
      obtain⟨g1,g2,g3,g4,g5,g6⟩:=H4.out
      exact⟨hr.1,g2.kept hr.2 (nC g2 HP.out),g3.trans hr.2,g4.grown hr.2 (by have:=HP.out;simp;omega),g5,g6⟩
     clear hr H4 HU
     have z2:=H5.out.2.2.2.1.frozen 2
     have x2:=H5.out.2.2.2.1.cell 2
     have H6:(fun Vv:World=>Hid (aD Vv p R∧Vv.ownsRow w.heap.size 34 3 (G A2 j c2) j (aC (l.take j))∧w.grownBy Vv (some p)∧ab Vv q6 34 #[X Y id,X Z ad,X Y wt])) (w5.setCell ⟨q6,2,none⟩ (X Y wt)):=by
      obtain⟨g1,g2,g3,g4,g5,g6⟩:=H5.out
      have:=HP.out
      exact⟨g1.far6 (by omega) _ _,g2.kept (oH w5 q6 2 _) (.inr g5),cM g3 (by omega) 2 _,g4.set_ 2 _⟩
     clear H5
     go_wp2_with fail
     have hq6:=HQ.out
     subst hq6
     go_meet
     exact H6
   case rest=>
   rw[←hq6]
   clear hq6
   obtain⟨w6,hw6⟩:∃w6,w6=wc:=⟨_,rfl⟩
   rw[←hw6] at hcut⊢
   clear hw6 H4
   have H6:=hcut
   clear hcut
   obtain⟨c0,c1,c2'⟩:=H6.out.2.2.2.c3
   go_wp2_with (at_builtin;refine cu ?_)
   refine cw ?_
   have hb7:=(bR w6.heap.size w6).alloc (nR _) (cL #[X Y id,X Z ad,X Y wt] 34)
   have hsz6:w.heap.size≤w6.heap.size:=H6.out.2.2.1.size
   refine jS rfl (.tmp 22) (.tmp 24) _ rfl 3 24 34 _ ou rfl (by omega) (by omega) underlying35 w.heap.size (G A2 j c2) j (aC (l.take j)) rfl (aJ H6.out.2.1 hb7) (w6.heap.size + 1) (some ⟨w6.heap.size,0,none⟩) 1 1 (Be.cells ⟨id,ad,wt⟩) rfl (eo _ _ _ _ 1 3 _ _ (by rfl) rfl rfl _ rfl) (by intro u hu;simp[Be.cells] at hu;rcases hu with rfl|rfl|rfl<;>rfl) (j + 1) rfl (by omega) (by rw[World.size_alloc];omega) ?_
   intro A7 c7 w7 cT hb8 hg8 hor
   have H7:Hid (w7.ownsRow w.heap.size 34 3 (G A7 (j + 1) c7) (j + 1) (aC (l.take (j + 1)))∧aD w7 p R∧w.grownBy w7 (some p)):=by
    obtain⟨g1,g2,g3,g4⟩:=H6.out
    refine⟨by rw[HT.out,En];exact cT,(g1.below hb7).grownO hg8 (aJ g2 hb7) HP.out,(g3.trans (fY hb7)).andThen hg8 (fun k hk=>.inl ((aJ g2 hb7).lt k hk).1)⟩
   clear cT hb8 hg8 hb7 H6 hor c0 c1 c2'
   go_wp2_with fail
   go_roundg (gk - 1)
   case measure=>have h1:=hgk.out;omega
   case rel=>exact⟨j + 1,A7,c7,rfl,by go_num,(by show _=_;have:=hgk.out;omega),H7.out.1,(by rw[HRR.out];exact H7.out.2.1),H7.out.2.2⟩
  ·have hj:j=l.length:=by have:=hgk.out;omega
   have hA:Hid (wr.ownsRow w.heap.size 34 3 (G A2 l.length c2) l.length (aC l)∧RG p r w wr):=by
    have h1:=hown.out
    have h2:=hrb.out
    rw[hj,List.take_of_length_le (nR _)] at h1
    rw[hj,List.drop_length] at h2
    exact⟨h1,h2,hgr.out⟩
   clear hown hrb hgr
   go_wp2_with fail
   go_ret
   exact⟨A2,c2,by simp[hj],hA.out⟩
theorem xz (V p:Nat)(f:Fl)(hf:cI f)(hin:aT V f=f)(r:List Nat)(w:World)(hl:r.length≤4000)(ha:ay r)(h:aD w p (cX V f++r)):
  Calls Pg 311 #[PT (some ⟨p,0,none⟩),X Y 1,X Y V] w fun e w'=>e=rT (tU #[.agg (recC 1 f 0 (G none 0 0)),bL true])∧RG p r w w':=by
 obtain⟨⟨src,dst,pr,sp,dp⟩,be,gen,seen⟩:=f
 dsimp only[recC]
 obtain⟨q,hq⟩:∃q,q=w.heap.size:=⟨_,rfl⟩
 have hp:p < q:=hq▸h.lt
 have hB0:Below w.heap.size w ((w.alloc (cL #[X Y 0,X Z 0,X Z 0,X Y 0,X Y 0,X Y 0,X Y 0,X Y 0,X Y 0,X Y 0,G none 0 0,X Y 0,X Y 0,X Y 0] 119)).alloc (cL #[X Y 1,X Z 0,X Z 0,X Y 0,X Y 0,X Y 0,X Y 0,X Y 0,X Y 0,X Y 0,G none 0 0,X Y 0,X Y 0,X Y 0] 119)):=((bR w.heap.size w).alloc (nR _) _).alloc (by simp) _
 have h0:=h.below hB0
 have hq1:ab ((w.alloc (cL #[X Y 0,X Z 0,X Z 0,X Y 0,X Y 0,X Y 0,X Y 0,X Y 0,X Y 0,X Y 0,G none 0 0,X Y 0,X Y 0,X Y 0] 119)).alloc (cL #[X Y 1,X Z 0,X Z 0,X Y 0,X Y 0,X Y 0,X Y 0,X Y 0,X Y 0,X Y 0,G none 0 0,X Y 0,X Y 0,X Y 0] 119)) q 119 #[X Y 0,X Z 0,X Z 0,X Y 0,X Y 0,X Y 0,X Y 0,X Y 0,X Y 0,X Y 0,G none 0 0,X Y 0,X Y 0,X Y 0]:=(hq▸ab.new w 119 #[X Y 0,X Z 0,X Z 0,X Y 0,X Y 0,X Y 0,X Y 0,X Y 0,X Y 0,X Y 0,G none 0 0,X Y 0,X Y 0,X Y 0]).alloc _
 have hq2:ab ((w.alloc (cL #[X Y 0,X Z 0,X Z 0,X Y 0,X Y 0,X Y 0,X Y 0,X Y 0,X Y 0,X Y 0,G none 0 0,X Y 0,X Y 0,X Y 0] 119)).alloc (cL #[X Y 1,X Z 0,X Z 0,X Y 0,X Y 0,X Y 0,X Y 0,X Y 0,X Y 0,X Y 0,G none 0 0,X Y 0,X Y 0,X Y 0] 119)) (q + 1) 119 #[X Y 1,X Z 0,X Z 0,X Y 0,X Y 0,X Y 0,X Y 0,X Y 0,X Y 0,X Y 0,G none 0 0,X Y 0,X Y 0,X Y 0]:=by
  have:=ab.new (w.alloc (cL #[X Y 0,X Z 0,X Z 0,X Y 0,X Y 0,X Y 0,X Y 0,X Y 0,X Y 0,X Y 0,G none 0 0,X Y 0,X Y 0,X Y 0] 119)) 119 #[X Y 1,X Z 0,X Z 0,X Y 0,X Y 0,X Y 0,X Y 0,X Y 0,X Y 0,X Y 0,G none 0 0,X Y 0,X Y 0,X Y 0]
  rw[show (w.alloc (cL #[X Y 0,X Z 0,X Z 0,X Y 0,X Y 0,X Y 0,X Y 0,X Y 0,X Y 0,X Y 0,G none 0 0,X Y 0,X Y 0,X Y 0] 119)).heap.size=q + 1 by rw[hq];simp] at this
  exact this
 have H1:=jH (aI h0 (aI hB0 (aI hq1 hq2)))
 clear h h0 hB0 hq1 hq2
 go_enter func311,ntmps311
 go_wp2_with fail
 rw[←hq]
 have HE:=jH hq
 clear hq
 generalize ((w.alloc (cL #[X Y 0,X Z 0,X Z 0,X Y 0,X Y 0,X Y 0,X Y 0,X Y 0,X Y 0,X Y 0,G none 0 0,X Y 0,X Y 0,X Y 0] 119)).alloc (cL #[X Y 1,X Z 0,X Z 0,X Y 0,X Y 0,X Y 0,X Y 0,X Y 0,X Y 0,X Y 0,G none 0 0,X Y 0,X Y 0,X Y 0] 119))=w1 at *
 refine(xH V p ⟨⟨src,dst,pr,sp,dp⟩,be,gen,seen⟩ hf hin r w1 (by omega) ha H1.out.1).mono ?_
 rintro e w2 ⟨rfl,hr⟩
 dsimp only[Fl.vals]
 have g4:=H1.out.2.2.2.grown hr.2 (by simp;omega)
 have z0:=(g4).frozen 1
 have y0:=(g4).cell 1
 have n_0:=(g4).set_ 1 (X Z src)
 have z1:=(n_0).frozen 2
 have y1:=(n_0).cell 2
 have n_1:=(n_0).set_ 2 (X Z dst)
 have z2:=(n_1).frozen 3
 have y2:=(n_1).cell 3
 have n_2:=(n_1).set_ 3 (X Y pr)
 have z3:=(n_2).frozen 4
 have y3:=(n_2).cell 4
 have n_3:=(n_2).set_ 4 (X Y sp)
 have z4:=(n_3).frozen 5
 have y4:=(n_3).cell 5
 have n_4:=(n_3).set_ 5 (X Y dp)
 have z5:=(n_4).frozen 6
 have y5:=(n_4).cell 6
 have n_5:=(n_4).set_ 6 (X Y be)
 have z6:=(n_5).frozen 7
 have y6:=(n_5).cell 7
 have n_6:=(n_5).set_ 7 (X Y gen)
 have z7:=(n_6).frozen 8
 have y7:=(n_6).cell 8
 have n:=(n_6).set_ 8 (X Y seen)
 have d0:=n.cell 1
 have d1:=n.cell 2
 have d2:=n.cell 3
 have d3:=n.cell 4
 have d4:=n.cell 5
 have d5:=n.cell 6
 have d6:=n.cell 7
 have d7:=n.cell 8
 simp only[ga,gz,gN,Array.setIfInBounds,List.set_toArray,List.set_cons_zero,List.set_cons_succ,List.size_toArray,List.length_cons,List.length_nil] at y0 y1 y2 y3 y4 y5 y6 y7 d0 d1 d2 d3 d4 d5 d6 d7 n
 clear n_0 n_1 n_2 n_3 n_4 n_5 n_6
 have H3:(fun Vv:World=>Hid (ab Vv (q + 1) 119 #[X Y 1,X Z src,X Z dst,X Y pr,X Y sp,X Y dp,X Y be,X Y gen,X Y seen,X Y 0,G none 0 0,X Y 0,X Y 0,X Y 0]∧ab Vv q 119 #[X Y 0,X Z 0,X Z 0,X Y 0,X Y 0,X Y 0,X Y 0,X Y 0,X Y 0,X Y 0,G none 0 0,X Y 0,X Y 0,X Y 0]∧aD Vv p r∧w.grownBy Vv (some p))) ((((((((w2.setCell ⟨q + 1,1,none⟩ (X Z src)).setCell ⟨q + 1,2,none⟩ (X Z dst)).setCell ⟨q + 1,3,none⟩ (X Y pr)).setCell ⟨q + 1,4,none⟩ (X Y sp)).setCell ⟨q + 1,5,none⟩ (X Y dp)).setCell ⟨q + 1,6,none⟩ (X Y be)).setCell ⟨q + 1,7,none⟩ (X Y gen)).setCell ⟨q + 1,8,none⟩ (X Y seen)):=by
  obtain⟨-,g2,g3,-⟩:=H1.out
  have g5:=g3.grown hr.2 (by simp;omega)
  have h6:w.heap.size≤q + 1:=by have:=HE.out;omega
  have hpq:p < q + 1:=by omega
  have hqq:q≠q + 1:=by omega
  exact⟨n,((((((((g5.far (p:=⟨q + 1,1,none⟩) hqq _).far (p:=⟨q + 1,2,none⟩) hqq _).far (p:=⟨q + 1,3,none⟩) hqq _).far (p:=⟨q + 1,4,none⟩) hqq _).far (p:=⟨q + 1,5,none⟩) hqq _).far (p:=⟨q + 1,6,none⟩) hqq _).far (p:=⟨q + 1,7,none⟩) hqq _).far (p:=⟨q + 1,8,none⟩) hqq _),((((((((hr.1.far6 hpq _ _).far6 hpq _ _).far6 hpq _ _).far6 hpq _ _).far6 hpq _ _).far6 hpq _ _).far6 hpq _ _).far6 hpq _ _),(cM (cM (cM (cM (cM (cM (cM (cM ((fY g2).trans hr.2) h6 1 _) h6 2 _) h6 3 _) h6 4 _) h6 5 _) h6 6 _) h6 7 _) h6 8 _)⟩
 clear n g4 hr H1
 go_upto_region 18 with fail
 clear z0 y0 d0 z1 y1 d1 z2 y2 d2 z3 y3 d3 z4 y4 d4 z5 y5 d5 z6 y6 d6 z7 y7 d7
 generalize ((((((((w2.setCell ⟨q + 1,1,none⟩ (X Z src)).setCell ⟨q + 1,2,none⟩ (X Z dst)).setCell ⟨q + 1,3,none⟩ (X Y pr)).setCell ⟨q + 1,4,none⟩ (X Y sp)).setCell ⟨q + 1,5,none⟩ (X Y dp)).setCell ⟨q + 1,6,none⟩ (X Y be)).setCell ⟨q + 1,7,none⟩ (X Y gen)).setCell ⟨q + 1,8,none⟩ (X Y seen))=W at *
 apply wp_region_lit
 refine wpList_load_row rfl _ _ rfl (q + 1) rfl 119 #[X Y 1,X Z src,X Z dst,X Y pr,X Y sp,X Y dp,X Y be,X Y gen,X Y seen,X Y 0,G none 0 0,X Y 0,X Y 0,X Y 0] (0,0) _ H3.out.1 underlying119 rfl dF ?_
 refine Go.Great.wpList_readTo rfl (some 64) rfl (bL true) rfl ?_
 refine wpList_store_row rfl _ _ _ rfl q #[X Y 1,X Z src,X Z dst,X Y pr,X Y sp,X Y dp,X Y be,X Y gen,X Y seen,X Y 0,G none 0 0,X Y 0,X Y 0,X Y 0] rfl rfl 119 #[X Y 0,X Z 0,X Z 0,X Y 0,X Y 0,X Y 0,X Y 0,X Y 0,X Y 0,X Y 0,G none 0 0,X Y 0,X Y 0,X Y 0] H3.out.2.1 dF rfl (by simp[Value.oneCell']) ?_
 refine Go.Great.wpList_readTo rfl (some 7) rfl (bL true) rfl ?_
 apply wpList_nil
 have cz:=setRow_heap W q _ #[X Y 1,X Z src,X Z dst,X Y pr,X Y sp,X Y dp,X Y be,X Y gen,X Y seen,X Y 0,G none 0 0,X Y 0,X Y 0,X Y 0] _ _ H3.out.2.1
 have hlow:Below q W (W.setRow q #[X Y 1,X Z src,X Z dst,X Y pr,X Y sp,X Y dp,X Y be,X Y gen,X Y seen,X Y 0,G none 0 0,X Y 0,X Y 0,X Y 0]):=below_setRow (bR _ _) (nR _) _
 simp only[Exit.inBlock,Exit.then]
 go_wp2_with fail
 refine bodyPost_ret (fU rfl _ _ q 119 #[X Y 1,X Z src,X Z dst,X Y pr,X Y sp,X Y dp,X Y be,X Y gen,X Y seen,X Y 0,G none 0 0,X Y 0,X Y 0,X Y 0] (0,0) _ rfl cz underlying119 rfl dF) rfl ?_
 exact⟨rfl,H3.out.2.2.1.low hlow hp,sF H3.out.2.2.2 (HE.out▸hlow)⟩
theorem ye (V:Nat)(v1:1≤V)(v3:V≤3)(f:Fl)(hf:cI f)(hin:aT V f=f)(A:Option Addr)(n c B:Nat)(w:World)(hrd:Reads w B 1 A n (bv (cX V f)))(hB:B≤w.heap.size)(bI:A=none→c=0):
  Calls Pg 198 #[aG #[X Y 1,X Y V,G A n c]] w fun e w'=>e=rT (tU #[.agg (recC 1 f 0 (G none 0 0)),X Y 0])∧Below w.heap.size w w':=by
 obtain⟨⟨src,dst,pr,sp,dp⟩,be,gen,seen⟩:=f
 have CM:=jH (lr _ hf)
 dsimp only[recC] at CM⊢
 have hn2:n≤140737488355328:=by have:=hrd.length;have:=lz V ⟨⟨src,dst,pr,sp,dp⟩,be,gen,seen⟩;omega
 obtain⟨q,hq⟩:∃q,q=w.heap.size:=⟨_,rfl⟩
 have hB0:Below w.heap.size w ((w.alloc (cL #[X Y 1,X Y V,G A n c] 284)).alloc (cL #[X Y 0,X Z 0,X Z 0,X Y 0,X Y 0,X Y 0,X Y 0,X Y 0,X Y 0,X Y 0,G none 0 0,X Y 0,X Y 0,X Y 0] 119)):=((bR w.heap.size w).alloc (nR _) _).alloc (by simp) _
 have hsz:((w.alloc (cL #[X Y 1,X Y V,G A n c] 284)).alloc (cL #[X Y 0,X Z 0,X Z 0,X Y 0,X Y 0,X Y 0,X Y 0,X Y 0,X Y 0,X Y 0,G none 0 0,X Y 0,X Y 0,X Y 0] 119)).heap.size=q + 2:=by rw[hq];simp
 have hr0:=hrd.below (hB0.mono hB)
 have hq1:ab ((w.alloc (cL #[X Y 1,X Y V,G A n c] 284)).alloc (cL #[X Y 0,X Z 0,X Z 0,X Y 0,X Y 0,X Y 0,X Y 0,X Y 0,X Y 0,X Y 0,G none 0 0,X Y 0,X Y 0,X Y 0] 119)) q 284 #[X Y 1,X Y V,G A n c]:=(hq▸ab.new w 284 #[X Y 1,X Y V,G A n c]).alloc _
 have hq2:ab ((w.alloc (cL #[X Y 1,X Y V,G A n c] 284)).alloc (cL #[X Y 0,X Z 0,X Z 0,X Y 0,X Y 0,X Y 0,X Y 0,X Y 0,X Y 0,X Y 0,G none 0 0,X Y 0,X Y 0,X Y 0] 119)) (q + 1) 119 #[X Y 0,X Z 0,X Z 0,X Y 0,X Y 0,X Y 0,X Y 0,X Y 0,X Y 0,X Y 0,G none 0 0,X Y 0,X Y 0,X Y 0]:=by
  have:=ab.new (w.alloc (cL #[X Y 1,X Y V,G A n c] 284)) 119 #[X Y 0,X Z 0,X Z 0,X Y 0,X Y 0,X Y 0,X Y 0,X Y 0,X Y 0,X Y 0,G none 0 0,X Y 0,X Y 0,X Y 0]
  rw[show (w.alloc (cL #[X Y 1,X Y V,G A n c] 284)).heap.size=q + 1 by rw[hq];simp] at this
  exact this
 have CN:=jH (ja A n c B _ ((w.alloc (cL #[X Y 1,X Y V,G A n c] 284)).alloc (cL #[X Y 0,X Z 0,X Z 0,X Y 0,X Y 0,X Y 0,X Y 0,X Y 0,X Y 0,X Y 0,G none 0 0,X Y 0,X Y 0,X Y 0] 119)) hr0 (by rw[hsz];omega) hn2 bI)
 have CV:=jH (ke V v1 v3)
 obtain⟨x0,x1,x2⟩:=hq1.c3
 have H1:=jH (aI hB0 (aI hq1 (aI hq2 hsz)))
 clear hrd hr0 hB0 hq1 hq2 hsz
 go_enter func198,ntmps198
 go_wp2_with fail
 rw[←hq]
 have HE:=jH hq
 clear hq
 generalize ((w.alloc (cL #[X Y 1,X Y V,G A n c] 284)).alloc (cL #[X Y 0,X Z 0,X Z 0,X Y 0,X Y 0,X Y 0,X Y 0,X Y 0,X Y 0,X Y 0,G none 0 0,X Y 0,X Y 0,X Y 0] 119))=w1 at *
 refine(CV.out w1).mono ?_
 rintro e w' ⟨rfl,rfl⟩
 go_wp2_with fail
 refine CN.out.mono ?_
 rintro e w2 ⟨p,rfl,hp,hrb,af⟩
 rw[H1.out.2.2.2] at hp
 have k1:=H1.out.2.1.below af (by rw[H1.out.2.2.2];omega)
 have k2:=H1.out.2.2.1.below af (by rw[H1.out.2.2.2];omega)
 have H2:Hid (aD w2 p (cX V ⟨⟨src,dst,pr,sp,dp⟩,be,gen,seen⟩++[])∧Below q w w2∧ab w2 q 284 #[X Y 1,X Y V,G A n c]∧ab w2 (q + 1) 119 #[X Y 0,X Z 0,X Z 0,X Y 0,X Y 0,X Y 0,X Y 0,X Y 0,X Y 0,X Y 0,G none 0 0,X Y 0,X Y 0,X Y 0]∧q + 2≤p∧w.heap.size≤w2.heap.size):=⟨by rw[List.append_nil];exact hrb,HE.out▸H1.out.1.trans (af.mono H1.out.1.size),k1,k2,hp,nT H1.out.1.size af.size⟩
 clear x0 x1 x2
 obtain⟨x0,x1⟩:=k1.c2
 clear hrb af CN CV H1 k1 k2 hp
 go_wp2_with fail
 refine(xz V p _ hf hin [] w2 (by simp) gj H2.out.1).mono ?_
 rintro e w4 ⟨rfl,hr⟩
 dsimp only[recC]
 obtain⟨q5,hq5⟩:∃q5,q5=w4.heap.size:=⟨_,rfl⟩
 have hz5:w.heap.size≤w4.heap.size:=nT H2.out.2.2.2.2.2 hr.2.size
 have H3:(fun Vv:World=>Hid (aD Vv p []∧Below q w Vv∧ab Vv (q + 1) 119 #[X Y 0,X Z 0,X Z 0,X Y 0,X Y 0,X Y 0,X Y 0,X Y 0,X Y 0,X Y 0,G none 0 0,X Y 0,X Y 0,X Y 0]∧ab Vv q5 119 #[X Y 1,X Z src,X Z dst,X Y pr,X Y sp,X Y dp,X Y be,X Y gen,X Y seen,X Y 0,G none 0 0,X Y 0,X Y 0,X Y 0]∧w.heap.size≤Vv.heap.size)) (w4.alloc (cL #[X Y 1,X Z src,X Z dst,X Y pr,X Y sp,X Y dp,X Y be,X Y gen,X Y seen,X Y 0,G none 0 0,X Y 0,X Y 0,X Y 0] 119)):=by
  obtain⟨-,g2,-,g4,g5,g6⟩:=H2.out
  have g7:Below q w2 w4:=(bR q w2).grown hr.2 (by have:=HE.out;omega) (fun k hk=>by injection hk with hk;omega)
  exact⟨hr.1.below ((bR _ _).alloc (nR _) _),(g2.trans g7).alloc (by have:=HE.out;omega) _,(g4.grown hr.2 (by simp;omega)).alloc _,hq5▸ab.new w4 _ _,by rw[World.size_alloc];omega⟩
 clear hr H2 x0 x1
 have g5:=H3.out.2.2.2.1
 obtain⟨c_0,c_1,c_2,c_3,c_4,c_5,c_6,c_7,c_8,c_9,c_10,c_11,c_12,c_13⟩:=g5.c14
 clear g5 hz5
 go_wp2_with fail
 rw[←hq5]
 clear hq5
 generalize (w4.alloc (cL #[X Y 1,X Z src,X Z dst,X Y pr,X Y sp,X Y dp,X Y be,X Y gen,X Y seen,X Y 0,G none 0 0,X Y 0,X Y 0,X Y 0] 119))=w5 at *
 refine(nr p w5 H3.out.1).mono ?_
 rintro e w' ⟨rfl,rfl⟩
 go_wp2_with fail
 refine(CM.out w5).mono ?_
 rintro e w6 ⟨rfl,hb6⟩
 have H4:Hid (ab w6 q5 119 #[X Y 1,X Z src,X Z dst,X Y pr,X Y sp,X Y dp,X Y be,X Y gen,X Y seen,X Y 0,G none 0 0,X Y 0,X Y 0,X Y 0]∧ab w6 (q + 1) 119 #[X Y 0,X Z 0,X Z 0,X Y 0,X Y 0,X Y 0,X Y 0,X Y 0,X Y 0,X Y 0,G none 0 0,X Y 0,X Y 0,X Y 0]∧Below q w w6):=by
  obtain⟨-,g2,g3,g4,g5⟩:=H3.out
  have:=HE.out
  exact⟨g4.below hb6 g4.lt,g3.below hb6 g3.lt,g2.trans (hb6.mono (by omega))⟩
 clear hb6 H3 c_0 c_1 c_2 c_3 c_4 c_5 c_6 c_7 c_8 c_9 c_10 c_11 c_12 c_13
 go_upto_region 7 with fail
 apply wp_region_lit
 refine wpList_load_row rfl _ _ rfl q5 rfl 119 #[X Y 1,X Z src,X Z dst,X Y pr,X Y sp,X Y dp,X Y be,X Y gen,X Y seen,X Y 0,G none 0 0,X Y 0,X Y 0,X Y 0] (0,0) _ H4.out.1 underlying119 rfl dF ?_
 refine wpList_store_row rfl _ _ _ rfl (q + 1) #[X Y 1,X Z src,X Z dst,X Y pr,X Y sp,X Y dp,X Y be,X Y gen,X Y seen,X Y 0,G none 0 0,X Y 0,X Y 0,X Y 0] rfl rfl 119 #[X Y 0,X Z 0,X Z 0,X Y 0,X Y 0,X Y 0,X Y 0,X Y 0,X Y 0,X Y 0,G none 0 0,X Y 0,X Y 0,X Y 0] H4.out.2.1 dF rfl (by simp[Value.oneCell']) ?_
 refine Go.Great.wpList_readTo rfl (some 3) rfl (X Y 0) rfl ?_
 apply wpList_nil
 have cz:=setRow_heap w6 (q + 1) _ #[X Y 1,X Z src,X Z dst,X Y pr,X Y sp,X Y dp,X Y be,X Y gen,X Y seen,X Y 0,G none 0 0,X Y 0,X Y 0,X Y 0] _ _ H4.out.2.1
 have hlow:Below q w (w6.setRow (q + 1) #[X Y 1,X Z src,X Z dst,X Y pr,X Y sp,X Y dp,X Y be,X Y gen,X Y seen,X Y 0,G none 0 0,X Y 0,X Y 0,X Y 0]):=below_setRow H4.out.2.2 (by omega) _
 simp only[Exit.inBlock,Exit.then]
 go_wp2_with fail
 refine bodyPost_ret (fU rfl _ _ (q + 1) 119 #[X Y 1,X Z src,X Z dst,X Y pr,X Y sp,X Y dp,X Y be,X Y gen,X Y seen,X Y 0,G none 0 0,X Y 0,X Y 0,X Y 0] (0,0) _ rfl cz underlying119 rfl dF) rfl ?_
 exact⟨rfl,HE.out▸hlow⟩
theorem xA (V p:Nat)(gen:Nat)(l:List Be)(hg:gen≤1000000)(hn:l.length≤16)(hok:∀b∈l,fQ b=true)(had:∀b∈l,b.addr < 4294967296)(hin:∀b∈l,aX V b=b)(r:List Nat)(w:World)(hl:r.length≤4000)(ha:ay r)(h:aD w p (cZ V gen l++r)):
  Calls Pg 311 #[PT (some ⟨p,0,none⟩),X Y 3,X Y V] w fun e w'=>∃A c,e=rT (tU #[.agg (cU (gen:Int) (G A l.length c)),bL true])∧w'.ownsRow w.heap.size 34 3 (G A l.length c) l.length (aC l)∧RG p r w w':=by
 dsimp only[cU]
 obtain⟨q,hq⟩:∃q,q=w.heap.size:=⟨_,rfl⟩
 have hp:p < q:=hq▸h.lt
 have hB0:Below w.heap.size w ((w.alloc (cL #[X Y 0,X Z 0,X Z 0,X Y 0,X Y 0,X Y 0,X Y 0,X Y 0,X Y 0,X Y 0,G none 0 0,X Y 0,X Y 0,X Y 0] 119)).alloc (cL #[X Y 3,X Z 0,X Z 0,X Y 0,X Y 0,X Y 0,X Y 0,X Y 0,X Y 0,X Y 0,G none 0 0,X Y 0,X Y 0,X Y 0] 119)):=((bR w.heap.size w).alloc (nR _) _).alloc (by simp) _
 have h0:=h.below hB0
 have hq1:ab ((w.alloc (cL #[X Y 0,X Z 0,X Z 0,X Y 0,X Y 0,X Y 0,X Y 0,X Y 0,X Y 0,X Y 0,G none 0 0,X Y 0,X Y 0,X Y 0] 119)).alloc (cL #[X Y 3,X Z 0,X Z 0,X Y 0,X Y 0,X Y 0,X Y 0,X Y 0,X Y 0,X Y 0,G none 0 0,X Y 0,X Y 0,X Y 0] 119)) q 119 #[X Y 0,X Z 0,X Z 0,X Y 0,X Y 0,X Y 0,X Y 0,X Y 0,X Y 0,X Y 0,G none 0 0,X Y 0,X Y 0,X Y 0]:=(hq▸ab.new w 119 #[X Y 0,X Z 0,X Z 0,X Y 0,X Y 0,X Y 0,X Y 0,X Y 0,X Y 0,X Y 0,G none 0 0,X Y 0,X Y 0,X Y 0]).alloc _
 have hq2:ab ((w.alloc (cL #[X Y 0,X Z 0,X Z 0,X Y 0,X Y 0,X Y 0,X Y 0,X Y 0,X Y 0,X Y 0,G none 0 0,X Y 0,X Y 0,X Y 0] 119)).alloc (cL #[X Y 3,X Z 0,X Z 0,X Y 0,X Y 0,X Y 0,X Y 0,X Y 0,X Y 0,X Y 0,G none 0 0,X Y 0,X Y 0,X Y 0] 119)) (q + 1) 119 #[X Y 3,X Z 0,X Z 0,X Y 0,X Y 0,X Y 0,X Y 0,X Y 0,X Y 0,X Y 0,G none 0 0,X Y 0,X Y 0,X Y 0]:=by
  have:=ab.new (w.alloc (cL #[X Y 0,X Z 0,X Z 0,X Y 0,X Y 0,X Y 0,X Y 0,X Y 0,X Y 0,X Y 0,G none 0 0,X Y 0,X Y 0,X Y 0] 119)) 119 #[X Y 3,X Z 0,X Z 0,X Y 0,X Y 0,X Y 0,X Y 0,X Y 0,X Y 0,X Y 0,G none 0 0,X Y 0,X Y 0,X Y 0]
  rw[show (w.alloc (cL #[X Y 0,X Z 0,X Z 0,X Y 0,X Y 0,X Y 0,X Y 0,X Y 0,X Y 0,X Y 0,G none 0 0,X Y 0,X Y 0,X Y 0] 119)).heap.size=q + 1 by rw[hq];simp] at this
  exact this
 have H1:=jH (aI h0 (aI hB0 (aI hq1 hq2)))
 clear h h0 hB0 hq1 hq2
 go_enter func311,ntmps311
 go_wp2_with fail
 rw[←hq]
 have HE:=jH hq
 clear hq
 generalize ((w.alloc (cL #[X Y 0,X Z 0,X Z 0,X Y 0,X Y 0,X Y 0,X Y 0,X Y 0,X Y 0,X Y 0,G none 0 0,X Y 0,X Y 0,X Y 0] 119)).alloc (cL #[X Y 3,X Z 0,X Z 0,X Y 0,X Y 0,X Y 0,X Y 0,X Y 0,X Y 0,X Y 0,G none 0 0,X Y 0,X Y 0,X Y 0] 119))=w1 at *
 have h5:aD w1 p (be gen 4++(be l.length 1++(dC V l++r))):=by
  have:=H1.out.1
  unfold cZ at this
  simpa only[List.append_assoc] using this
 refine(iB p gen _ w1 (by omega) (by have:=kM V l;simp[be_length];omega) (dJ (bY (l8 _ _) ha)) h5).mono ?_
 rintro e w2 ⟨rfl,hr⟩
 have cv:IntKind.i64.wrap (gen:Int)=(gen:Int):=IntWalk.i64_in _ (by omega)
 have b2:=H1.out.2.2.2.grown hr.2 (by simp;omega)
 have b1:=H1.out.2.2.1.grown hr.2 (by simp;omega)
 have z9:=b2.frozen 9
 have y9:=b2.cell 9
 have H3:(fun Vv:World=>Hid (ab Vv (q + 1) 119 #[X Y 3,X Z 0,X Z 0,X Y 0,X Y 0,X Y 0,X Y 0,X Y 0,X Y 0,X Y gen,G none 0 0,X Y 0,X Y 0,X Y 0]∧ab Vv q 119 #[X Y 0,X Z 0,X Z 0,X Y 0,X Y 0,X Y 0,X Y 0,X Y 0,X Y 0,X Y 0,G none 0 0,X Y 0,X Y 0,X Y 0]∧aD Vv p (be l.length 1++(dC V l++r))∧w.grownBy Vv (some p))) (w2.setCell ⟨q + 1,9,none⟩ (X Y gen)):=
  ⟨b2.set_ 9 _,b1.far (p:=⟨q + 1,9,none⟩) (by show q≠q + 1;omega) _,hr.1.far6 (by omega) _ _,cM ((fY H1.out.2.1).trans hr.2) (by have:=HE.out;omega) 9 _⟩
 clear b1 b2 hr H1 h5
 go_wp2_with fail
 generalize (w2.setCell ⟨q + 1,9,none⟩ (X Y gen))=w3 at *
 clear cv z9 y9
 refine(yg V p l hn hok had hin r w3 (by omega) ha H3.out.2.2.1).mono ?_
 rintro e w4 ⟨A,c,rfl,hown,hr⟩
 have b2:=H3.out.1.grown hr.2 (by simp;omega)
 have b1:=H3.out.2.1.grown hr.2 (by simp;omega)
 have z10:=b2.frozen 10
 have y10:=b2.cell 10
 have H5:(fun Vv:World=>Hid (ab Vv (q + 1) 119 #[X Y 3,X Z 0,X Z 0,X Y 0,X Y 0,X Y 0,X Y 0,X Y 0,X Y 0,X Y gen,G A l.length c,X Y 0,X Y 0,X Y 0]∧ab Vv q 119 #[X Y 0,X Z 0,X Z 0,X Y 0,X Y 0,X Y 0,X Y 0,X Y 0,X Y 0,X Y 0,G none 0 0,X Y 0,X Y 0,X Y 0]∧aD Vv p r∧w.grownBy Vv (some p)∧Vv.ownsRow w.heap.size 34 3 (G A l.length c) l.length (aC l))) (w4.setCell ⟨q + 1,10,none⟩ (G A l.length c)):=
  ⟨b2.set_ 10 _,b1.far (p:=⟨q + 1,10,none⟩) (by show q≠q + 1;omega) _,hr.1.far6 (by omega) _ _,cM (H3.out.2.2.2.trans hr.2) (by have:=HE.out;omega) 10 _,aB (cO hown H3.out.2.2.2.size) b2 (by decide) 10 _⟩
 clear b1 b2 hr H3 hown
 go_upto_region 18 with fail
 clear z10 y10
 generalize (w4.setCell ⟨q + 1,10,none⟩ (G A l.length c))=W at *
 apply wp_region_lit
 refine wpList_load_row rfl _ _ rfl (q + 1) rfl 119 #[X Y 3,X Z 0,X Z 0,X Y 0,X Y 0,X Y 0,X Y 0,X Y 0,X Y 0,X Y gen,G A l.length c,X Y 0,X Y 0,X Y 0] (0,0) _ H5.out.1 underlying119 rfl dF ?_
 refine Go.Great.wpList_readTo rfl (some 64) rfl (bL true) rfl ?_
 refine wpList_store_row rfl _ _ _ rfl q #[X Y 3,X Z 0,X Z 0,X Y 0,X Y 0,X Y 0,X Y 0,X Y 0,X Y 0,X Y gen,G A l.length c,X Y 0,X Y 0,X Y 0] rfl rfl 119 #[X Y 0,X Z 0,X Z 0,X Y 0,X Y 0,X Y 0,X Y 0,X Y 0,X Y 0,X Y 0,G none 0 0,X Y 0,X Y 0,X Y 0] H5.out.2.1 dF rfl (by simp[Value.oneCell']) ?_
 refine Go.Great.wpList_readTo rfl (some 7) rfl (bL true) rfl ?_
 apply wpList_nil
 have cz:=setRow_heap W q _ #[X Y 3,X Z 0,X Z 0,X Y 0,X Y 0,X Y 0,X Y 0,X Y 0,X Y 0,X Y gen,G A l.length c,X Y 0,X Y 0,X Y 0] _ _ H5.out.2.1
 have hlow:Below q W (W.setRow q #[X Y 3,X Z 0,X Z 0,X Y 0,X Y 0,X Y 0,X Y 0,X Y 0,X Y 0,X Y gen,G A l.length c,X Y 0,X Y 0,X Y 0]):=below_setRow (bR _ _) (nR _) _
 simp only[Exit.inBlock,Exit.then]
 go_wp2_with fail
 refine bodyPost_ret (fU rfl _ _ q 119 #[X Y 3,X Z 0,X Z 0,X Y 0,X Y 0,X Y 0,X Y 0,X Y 0,X Y 0,X Y gen,G A l.length c,X Y 0,X Y 0,X Y 0] (0,0) _ rfl cz underlying119 rfl dF) rfl ?_
 exact⟨A,c,rfl,jB H5.out.2.2.2.2 H5.out.2.1 (by decide) _,H5.out.2.2.1.low hlow hp,sF H5.out.2.2.2.1 (HE.out▸hlow)⟩
theorem yf (V:Nat)(v1:1≤V)(v3:V≤3)(gen:Nat)(l:List Be)(hg:gen≤1000000)(hn:l.length≤16)(hok:∀b∈l,fQ b=true)(had:∀b∈l,b.addr < 4294967296)(hin:∀b∈l,aX V b=b)(A:Option Addr)(n c B:Nat)(w:World)(hrd:Reads w B 1 A n (bv (cZ V gen l)))(hB:B≤w.heap.size)(bI:A=none→c=0):
  Calls Pg 198 #[aG #[X Y 3,X Y V,G A n c]] w fun e w'=>∃A4 c4,e=rT (tU #[.agg (cU (gen:Int) (G A4 l.length c4)),X Y 0])∧w'.ownsRow w.heap.size 34 3 (G A4 l.length c4) l.length (aC l)∧Below w.heap.size w w':=by
 dsimp only[cU]
 have hn2:n≤140737488355328:=by have:=hrd.length;have:=lR V gen l;omega
 obtain⟨q,hq⟩:∃q,q=w.heap.size:=⟨_,rfl⟩
 have hB0:Below w.heap.size w ((w.alloc (cL #[X Y 3,X Y V,G A n c] 284)).alloc (cL #[X Y 0,X Z 0,X Z 0,X Y 0,X Y 0,X Y 0,X Y 0,X Y 0,X Y 0,X Y 0,G none 0 0,X Y 0,X Y 0,X Y 0] 119)):=((bR w.heap.size w).alloc (nR _) _).alloc (by simp) _
 have hsz:((w.alloc (cL #[X Y 3,X Y V,G A n c] 284)).alloc (cL #[X Y 0,X Z 0,X Z 0,X Y 0,X Y 0,X Y 0,X Y 0,X Y 0,X Y 0,X Y 0,G none 0 0,X Y 0,X Y 0,X Y 0] 119)).heap.size=q + 2:=by rw[hq];simp
 have hr0:=hrd.below (hB0.mono hB)
 have hq1:ab ((w.alloc (cL #[X Y 3,X Y V,G A n c] 284)).alloc (cL #[X Y 0,X Z 0,X Z 0,X Y 0,X Y 0,X Y 0,X Y 0,X Y 0,X Y 0,X Y 0,G none 0 0,X Y 0,X Y 0,X Y 0] 119)) q 284 #[X Y 3,X Y V,G A n c]:=(hq▸ab.new w 284 #[X Y 3,X Y V,G A n c]).alloc _
 have hq2:ab ((w.alloc (cL #[X Y 3,X Y V,G A n c] 284)).alloc (cL #[X Y 0,X Z 0,X Z 0,X Y 0,X Y 0,X Y 0,X Y 0,X Y 0,X Y 0,X Y 0,G none 0 0,X Y 0,X Y 0,X Y 0] 119)) (q + 1) 119 #[X Y 0,X Z 0,X Z 0,X Y 0,X Y 0,X Y 0,X Y 0,X Y 0,X Y 0,X Y 0,G none 0 0,X Y 0,X Y 0,X Y 0]:=by
  have:=ab.new (w.alloc (cL #[X Y 3,X Y V,G A n c] 284)) 119 #[X Y 0,X Z 0,X Z 0,X Y 0,X Y 0,X Y 0,X Y 0,X Y 0,X Y 0,X Y 0,G none 0 0,X Y 0,X Y 0,X Y 0]
  rw[show (w.alloc (cL #[X Y 3,X Y V,G A n c] 284)).heap.size=q + 1 by rw[hq];simp] at this
  exact this
 have CN:=jH (ja A n c B _ ((w.alloc (cL #[X Y 3,X Y V,G A n c] 284)).alloc (cL #[X Y 0,X Z 0,X Z 0,X Y 0,X Y 0,X Y 0,X Y 0,X Y 0,X Y 0,X Y 0,G none 0 0,X Y 0,X Y 0,X Y 0] 119)) hr0 (by rw[hsz];omega) hn2 bI)
 have CV:=jH (ke V v1 v3)
 obtain⟨x0,x1,x2⟩:=hq1.c3
 have H1:=jH (aI hB0 (aI hq1 (aI hq2 hsz)))
 clear hrd hr0 hB0 hq1 hq2 hsz
 go_enter func198,ntmps198
 go_wp2_with fail
 rw[←hq]
 have HE:=jH hq
 clear hq
 generalize ((w.alloc (cL #[X Y 3,X Y V,G A n c] 284)).alloc (cL #[X Y 0,X Z 0,X Z 0,X Y 0,X Y 0,X Y 0,X Y 0,X Y 0,X Y 0,X Y 0,G none 0 0,X Y 0,X Y 0,X Y 0] 119))=w1 at *
 refine(CV.out w1).mono ?_
 rintro e w' ⟨rfl,rfl⟩
 go_wp2_with fail
 refine CN.out.mono ?_
 rintro e w2 ⟨p,rfl,hp,hrb,af⟩
 rw[H1.out.2.2.2] at hp
 have k1:=H1.out.2.1.below af (by rw[H1.out.2.2.2];omega)
 have k2:=H1.out.2.2.1.below af (by rw[H1.out.2.2.2];omega)
 have H2:Hid (aD w2 p (cZ V gen l++[])∧Below q w w2∧ab w2 q 284 #[X Y 3,X Y V,G A n c]∧ab w2 (q + 1) 119 #[X Y 0,X Z 0,X Z 0,X Y 0,X Y 0,X Y 0,X Y 0,X Y 0,X Y 0,X Y 0,G none 0 0,X Y 0,X Y 0,X Y 0]∧q + 2≤p∧w.heap.size≤w2.heap.size):=⟨by rw[List.append_nil];exact hrb,HE.out▸H1.out.1.trans (af.mono H1.out.1.size),k1,k2,hp,nT H1.out.1.size af.size⟩
 clear x0 x1 x2
 obtain⟨x0,x1⟩:=k1.c2
 clear hrb af CN CV H1 k1 k2 hp
 go_wp2_with fail
 refine(xA V p gen l hg hn hok had hin [] w2 (by simp) gj H2.out.1).mono ?_
 rintro e w4 ⟨A4,c4,rfl,hown,hr⟩
 dsimp only[cU]
 obtain⟨q5,hq5⟩:∃q5,q5=w4.heap.size:=⟨_,rfl⟩
 have hz5:w.heap.size≤w4.heap.size:=nT H2.out.2.2.2.2.2 hr.2.size
 have H3:(fun Vv:World=>Hid (aD Vv p []∧Below q w Vv∧ab Vv (q + 1) 119 #[X Y 0,X Z 0,X Z 0,X Y 0,X Y 0,X Y 0,X Y 0,X Y 0,X Y 0,X Y 0,G none 0 0,X Y 0,X Y 0,X Y 0]∧ab Vv q5 119 #[X Y 3,X Z 0,X Z 0,X Y 0,X Y 0,X Y 0,X Y 0,X Y 0,X Y 0,X Y gen,G A4 l.length c4,X Y 0,X Y 0,X Y 0]∧Vv.ownsRow w.heap.size 34 3 (G A4 l.length c4) l.length (aC l)∧w.heap.size≤Vv.heap.size)) (w4.alloc (cL #[X Y 3,X Z 0,X Z 0,X Y 0,X Y 0,X Y 0,X Y 0,X Y 0,X Y 0,X Y gen,G A4 l.length c4,X Y 0,X Y 0,X Y 0] 119)):=by
  obtain⟨-,g2,-,g4,g5,g6⟩:=H2.out
  have g7:Below q w2 w4:=(bR q w2).grown hr.2 (by have:=HE.out;omega) (fun k hk=>by injection hk with hk;omega)
  exact⟨hr.1.below ((bR _ _).alloc (nR _) _),(g2.trans g7).alloc (by have:=HE.out;omega) _,(g4.grown hr.2 (by simp;omega)).alloc _,hq5▸ab.new w4 _ _,cO (aJ hown ((bR _ _).alloc (nR _) _)) g6,by rw[World.size_alloc];omega⟩
 clear hr H2 x0 x1 hown
 have g5:=H3.out.2.2.2.1
 obtain⟨c_0,c_1,c_2,c_3,c_4,c_5,c_6,c_7,c_8,c_9,c_10,c_11,c_12,c_13⟩:=g5.c14
 clear g5 hz5
 go_wp2_with fail
 rw[←hq5]
 clear hq5
 generalize (w4.alloc (cL #[X Y 3,X Z 0,X Z 0,X Y 0,X Y 0,X Y 0,X Y 0,X Y 0,X Y 0,X Y gen,G A4 l.length c4,X Y 0,X Y 0,X Y 0] 119))=w5 at *
 refine(nr p w5 H3.out.1).mono ?_
 rintro e w' ⟨rfl,rfl⟩
 go_wp2_with fail
 refine(lu gen hg A4 l.length c4 w5.heap.size l w5 (Reads.of_own H3.out.2.2.2.2.1) (nR _) hn hok).mono ?_
 rintro e w6 ⟨rfl,hb6⟩
 have H4:Hid (ab w6 q5 119 #[X Y 3,X Z 0,X Z 0,X Y 0,X Y 0,X Y 0,X Y 0,X Y 0,X Y 0,X Y gen,G A4 l.length c4,X Y 0,X Y 0,X Y 0]∧ab w6 (q + 1) 119 #[X Y 0,X Z 0,X Z 0,X Y 0,X Y 0,X Y 0,X Y 0,X Y 0,X Y 0,X Y 0,G none 0 0,X Y 0,X Y 0,X Y 0]∧Below q w w6∧w6.ownsRow w.heap.size 34 3 (G A4 l.length c4) l.length (aC l)):=by
  obtain⟨-,g2,g3,g4,g6,g5⟩:=H3.out
  have:=HE.out
  exact⟨g4.below hb6 g4.lt,g3.below hb6 g3.lt,g2.trans (hb6.mono (by omega)),aJ g6 hb6⟩
 clear hb6 H3 c_0 c_1 c_2 c_3 c_4 c_5 c_6 c_7 c_8 c_9 c_10 c_11 c_12 c_13
 go_upto_region 7 with fail
 apply wp_region_lit
 refine wpList_load_row rfl _ _ rfl q5 rfl 119 #[X Y 3,X Z 0,X Z 0,X Y 0,X Y 0,X Y 0,X Y 0,X Y 0,X Y 0,X Y gen,G A4 l.length c4,X Y 0,X Y 0,X Y 0] (0,0) _ H4.out.1 underlying119 rfl dF ?_
 refine wpList_store_row rfl _ _ _ rfl (q + 1) #[X Y 3,X Z 0,X Z 0,X Y 0,X Y 0,X Y 0,X Y 0,X Y 0,X Y 0,X Y gen,G A4 l.length c4,X Y 0,X Y 0,X Y 0] rfl rfl 119 #[X Y 0,X Z 0,X Z 0,X Y 0,X Y 0,X Y 0,X Y 0,X Y 0,X Y 0,X Y 0,G none 0 0,X Y 0,X Y 0,X Y 0] H4.out.2.1 dF rfl (by simp[Value.oneCell']) ?_
 refine Go.Great.wpList_readTo rfl (some 3) rfl (X Y 0) rfl ?_
 apply wpList_nil
 have cz:=setRow_heap w6 (q + 1) _ #[X Y 3,X Z 0,X Z 0,X Y 0,X Y 0,X Y 0,X Y 0,X Y 0,X Y 0,X Y gen,G A4 l.length c4,X Y 0,X Y 0,X Y 0] _ _ H4.out.2.1
 have hlow:Below q w (w6.setRow (q + 1) #[X Y 3,X Z 0,X Z 0,X Y 0,X Y 0,X Y 0,X Y 0,X Y 0,X Y 0,X Y gen,G A4 l.length c4,X Y 0,X Y 0,X Y 0]):=below_setRow H4.out.2.2.1 (by omega) _
 simp only[Exit.inBlock,Exit.then]
 go_wp2_with fail
 refine bodyPost_ret (fU rfl _ _ (q + 1) 119 #[X Y 3,X Z 0,X Z 0,X Y 0,X Y 0,X Y 0,X Y 0,X Y 0,X Y 0,X Y gen,G A4 l.length c4,X Y 0,X Y 0,X Y 0] (0,0) _ rfl cz underlying119 rfl dF) rfl ?_
 exact⟨A4,c4,rfl,jB H4.out.2.2.2 H4.out.2.1 (by decide) _,HE.out▸hlow⟩
end
section
open Go.RowKit Go.Maps
theorem xF (aa sp sd sf gen:Nat)(bl:List Be)(fm:List (Tu×Fl))(V:Nat)(v1:1≤V)(v3:V≤3)(f:Fl)(hf:cI f)(hin:aT V f=f)(ax:fm.length < 256)(A:Option Addr)(n c B:Nat)(w:World)(hst:bP w aa sp sd sf gen bl fm)(hrd:Reads w B 1 A n (bv (cX V f)))(hB:B≤w.heap.size)(bI:A=none→c=0):
  Calls Pg 99 #[aG #[PT (some ⟨sp,0,none⟩)],aG #[X Y 1,X Y V,G A n c]] w fun e w'=>e=rT (X Y 0)∧bP w' aa sp sd sf gen bl (aw fm f.k f)∧Fr [] [sf] aa w w':=by
 have CA:=jH (fun W hW=>po aa sp sd sf gen bl fm f hf W hW ax)
 have CD:=jH (fun W hW hBW=>ye V v1 v3 f hf hin A n c B W hW hBW bI)
 generalize aw fm f.k f=FM at *
 obtain⟨⟨src,dst,pr,sp_,dp⟩,be,gn,seen⟩:=f
 dsimp only[recC] at CA CD
 have HST:=jH hst.hi
 obtain⟨q,hq⟩:∃q,q=w.heap.size:=⟨_,rfl⟩
 have hB0:Below w.heap.size w ((w.alloc (cL #[PT (some ⟨sp,0,none⟩)] 188)).alloc (cL #[X Y 1,X Y V,G A n c] 284)):=((bR w.heap.size w).alloc (nR _) _).alloc (by simp) _
 have hsz:((w.alloc (cL #[PT (some ⟨sp,0,none⟩)] 188)).alloc (cL #[X Y 1,X Y V,G A n c] 284)).heap.size=q + 2:=by rw[hq];simp
 have hr0:=hrd.below (hB0.mono hB)
 have hq1:ab ((w.alloc (cL #[PT (some ⟨sp,0,none⟩)] 188)).alloc (cL #[X Y 1,X Y V,G A n c] 284)) q 188 #[PT (some ⟨sp,0,none⟩)]:=(hq▸ab.new w 188 #[PT (some ⟨sp,0,none⟩)]).alloc _
 have hq2:ab ((w.alloc (cL #[PT (some ⟨sp,0,none⟩)] 188)).alloc (cL #[X Y 1,X Y V,G A n c] 284)) (q + 1) 284 #[X Y 1,X Y V,G A n c]:=by
  have:=ab.new (w.alloc (cL #[PT (some ⟨sp,0,none⟩)] 188)) 284 #[X Y 1,X Y V,G A n c]
  rw[show (w.alloc (cL #[PT (some ⟨sp,0,none⟩)] 188)).heap.size=q + 1 by rw[hq];simp] at this
  exact this
 obtain⟨x0,x1,x2⟩:=hq2.c3
 have H1:=jH (aI hB0 (aI hq1 (aI hsz (aI hr0 (hst.made hB0)))))
 clear hrd hr0 hB0 hq1 hq2 hsz hst
 go_enter func99,ntmps99
 go_wp2_with fail
 rw[←hq]
 have HE:=jH hq
 clear hq
 generalize ((w.alloc (cL #[PT (some ⟨sp,0,none⟩)] 188)).alloc (cL #[X Y 1,X Y V,G A n c] 284))=w1 at *
 refine(CD.out w1 H1.out.2.2.2.1 (by have:=HE.out;have:=H1.out.2.2.1;omega)).mono ?_
 rintro e w4 ⟨rfl,aq⟩
 obtain⟨q5,hq5⟩:∃q5,q5=w4.heap.size:=⟨_,rfl⟩
 have H3:(fun Vv:World=>Hid (ab Vv q 188 #[PT (some ⟨sp,0,none⟩)]∧ab Vv q5 119 #[X Y 1,X Z src,X Z dst,X Y pr,X Y sp_,X Y dp,X Y be,X Y gn,X Y seen,X Y 0,G none 0 0,X Y 0,X Y 0,X Y 0]∧bP Vv aa sp sd sf gen bl fm∧Below w.heap.size w Vv)) (w4.alloc (cL #[X Y 1,X Z src,X Z dst,X Y pr,X Y sp_,X Y dp,X Y be,X Y gn,X Y seen,X Y 0,G none 0 0,X Y 0,X Y 0,X Y 0] 119)):=by
  obtain⟨g1,g2,g3,g4,g5⟩:=H1.out
  have hs1:=g1.size
  have hs4:=aq.size
  have e1:=(bR w4.heap.size w4).alloc (nR _) (cL #[X Y 1,X Z src,X Z dst,X Y pr,X Y sp_,X Y dp,X Y be,X Y gn,X Y seen,X Y 0,G none 0 0,X Y 0,X Y 0,X Y 0] 119)
  exact⟨(g2.below aq (by omega)).alloc _,hq5▸ab.new w4 _ _,(g5.made aq).made e1,(g1.trans (aq.mono hs1)).trans (e1.mono (by omega))⟩
 clear aq H1 x0 x1 x2
 have g1:=H3.out.1
 have g5:=H3.out.2.1
 have d0:=g1.c1
 obtain⟨c_0,c_1,c_2,c_3,c_4,c_5,c_6,c_7,c_8,c_9,c_10,c_11,c_12,c_13⟩:=g5.c14
 clear g1 g5
 go_wp2_with fail
 rw[←hq5]
 clear hq5
 generalize (w4.alloc (cL #[X Y 1,X Z src,X Z dst,X Y pr,X Y sp_,X Y dp,X Y be,X Y gn,X Y seen,X Y 0,G none 0 0,X Y 0,X Y 0,X Y 0] 119))=w5 at *
 refine(CA.out w5 H3.out.2.2.1).mono ?_
 rintro e w6 ⟨rfl,hs6,hf6⟩
 have H6:Hid (bP w6 aa sp sd sf gen bl FM∧Fr [] [sf] aa w w6):=⟨hs6,(Fr.of_below _ _ H3.out.2.2.2 HST.out).trans hf6⟩
 clear hs6 hf6 H3
 go_wp2_with fail
 go_ret
 exact⟨rfl,H6.out⟩
theorem xG (aa sp sd sf gen:Nat)(bl:List Be)(fm:List (Tu×Fl))(V:Nat)(v1:1≤V)(v3:V≤3)(gn:Nat)(l:List Be)(hin:∀b∈l,aX V b=b)(hg:gn≤1000000)(hbes:dD l)(bu:dz l.length l)(A:Option Addr)(n c B:Nat)(w:World)(hst:bP w aa sp sd sf gen bl fm)(hrd:Reads w B 1 A n (bv (cZ V gn l)))(hB:B≤w.heap.size)(bI:A=none→c=0):
  Calls Pg 99 #[aG #[PT (some ⟨sp,0,none⟩)],aG #[X Y 3,X Y V,G A n c]] w fun e w'=>e=rT (X Y 0)∧bP w' aa sp sd sf gn l fm∧Fr [192] [] aa w w':=by
 have hok:=mg rfl bu
 have CA:=jH (fun W A4 c4 (hr4:W.ownsRow w.heap.size 34 3 (G A4 l.length c4) l.length (aC l)) hW=>pq aa sp sd sf gen bl fm gn hg A4 l.length c4 W.heap.size l W (Reads.of_own hr4) (nR _) hbes bu (dN hr4).1 (fun e=>lE hr4 e) hW)
 have CD:=jH (fun W hW hBW=>yf V v1 v3 gn l hg bu.1 hok (fun b hb=>(hbes b hb).2.1) hin A n c B W hW hBW bI)
 dsimp only[cU] at CA CD
 have HST:=jH hst.hi
 obtain⟨q,hq⟩:∃q,q=w.heap.size:=⟨_,rfl⟩
 have hB0:Below w.heap.size w ((w.alloc (cL #[PT (some ⟨sp,0,none⟩)] 188)).alloc (cL #[X Y 3,X Y V,G A n c] 284)):=((bR w.heap.size w).alloc (nR _) _).alloc (by simp) _
 have hsz:((w.alloc (cL #[PT (some ⟨sp,0,none⟩)] 188)).alloc (cL #[X Y 3,X Y V,G A n c] 284)).heap.size=q + 2:=by rw[hq];simp
 have hr0:=hrd.below (hB0.mono hB)
 have hq1:ab ((w.alloc (cL #[PT (some ⟨sp,0,none⟩)] 188)).alloc (cL #[X Y 3,X Y V,G A n c] 284)) q 188 #[PT (some ⟨sp,0,none⟩)]:=(hq▸ab.new w 188 #[PT (some ⟨sp,0,none⟩)]).alloc _
 have hq2:ab ((w.alloc (cL #[PT (some ⟨sp,0,none⟩)] 188)).alloc (cL #[X Y 3,X Y V,G A n c] 284)) (q + 1) 284 #[X Y 3,X Y V,G A n c]:=by
  have:=ab.new (w.alloc (cL #[PT (some ⟨sp,0,none⟩)] 188)) 284 #[X Y 3,X Y V,G A n c]
  rw[show (w.alloc (cL #[PT (some ⟨sp,0,none⟩)] 188)).heap.size=q + 1 by rw[hq];simp] at this
  exact this
 obtain⟨x0,x1,x2⟩:=hq2.c3
 have H1:=jH (aI hB0 (aI hq1 (aI hsz (aI hr0 (hst.made hB0)))))
 clear hrd hr0 hB0 hq1 hq2 hsz hst
 go_enter func99,ntmps99
 go_wp2_with fail
 rw[←hq]
 have HE:=jH hq
 clear hq
 generalize ((w.alloc (cL #[PT (some ⟨sp,0,none⟩)] 188)).alloc (cL #[X Y 3,X Y V,G A n c] 284))=w1 at *
 refine(CD.out w1 H1.out.2.2.2.1 (by have:=HE.out;have:=H1.out.2.2.1;omega)).mono ?_
 rintro e w4 ⟨A4,c4,rfl,hown,aq⟩
 obtain⟨q5,hq5⟩:∃q5,q5=w4.heap.size:=⟨_,rfl⟩
 have H3:(fun Vv:World=>Hid (ab Vv q 188 #[PT (some ⟨sp,0,none⟩)]∧ab Vv q5 119 #[X Y 3,X Z 0,X Z 0,X Y 0,X Y 0,X Y 0,X Y 0,X Y 0,X Y 0,X Y gn,G A4 l.length c4,X Y 0,X Y 0,X Y 0]∧bP Vv aa sp sd sf gen bl fm∧Below w.heap.size w Vv∧Vv.ownsRow w.heap.size 34 3 (G A4 l.length c4) l.length (aC l))) (w4.alloc (cL #[X Y 3,X Z 0,X Z 0,X Y 0,X Y 0,X Y 0,X Y 0,X Y 0,X Y 0,X Y gn,G A4 l.length c4,X Y 0,X Y 0,X Y 0] 119)):=by
  obtain⟨g1,g2,g3,g4,g5⟩:=H1.out
  have hs1:=g1.size
  have hs4:=aq.size
  have e1:=(bR w4.heap.size w4).alloc (nR _) (cL #[X Y 3,X Z 0,X Z 0,X Y 0,X Y 0,X Y 0,X Y 0,X Y 0,X Y 0,X Y gn,G A4 l.length c4,X Y 0,X Y 0,X Y 0] 119)
  exact⟨(g2.below aq (by omega)).alloc _,hq5▸ab.new w4 _ _,(g5.made aq).made e1,(g1.trans (aq.mono hs1)).trans (e1.mono (by omega)),cO (aJ hown e1) hs1⟩
 clear aq H1 x0 x1 x2 hown
 have g1:=H3.out.1
 have g5:=H3.out.2.1
 have d0:=g1.c1
 obtain⟨c_0,c_1,c_2,c_3,c_4,c_5,c_6,c_7,c_8,c_9,c_10,c_11,c_12,c_13⟩:=g5.c14
 clear g1 g5
 go_wp2_with fail
 rw[←hq5]
 clear hq5
 generalize (w4.alloc (cL #[X Y 3,X Z 0,X Z 0,X Y 0,X Y 0,X Y 0,X Y 0,X Y 0,X Y 0,X Y gn,G A4 l.length c4,X Y 0,X Y 0,X Y 0] 119))=w5 at *
 refine(CA.out w5 A4 c4 H3.out.2.2.2.2 H3.out.2.2.1).mono ?_
 rintro e w6 ⟨rfl,hs6,hf6⟩
 have H6:Hid (bP w6 aa sp sd sf gn l fm∧Fr [192] [] aa w w6):=⟨hs6,(Fr.of_below _ _ H3.out.2.2.2.1 HST.out).trans hf6⟩
 clear hs6 hf6 H3
 go_wp2_with fail
 go_ret
 exact⟨rfl,H6.out⟩
end
section
open Go.RowKit
theorem ot:(Pg.info? 259).map (·.size)=some 3:=by kernel_rfl
theorem Reads.grown_ {w w':World}{B n m size s2 aa:Nat}{e t:TypeId}{A:Option Addr}{v:Value}{xs ys:List Value}(h:Reads w B size A n xs)(hg:w.grownBy w' v.ownBlock)(ho:w.ownsRow aa t s2 v m ys)(hB:B≤aa)(hb:aa≤w.heap.size):Reads w' B size A n xs:=
 h.below ((bR B w).grown hg (by omega) (fun k hk=>by have:=(ho.lt k hk).1;omega))
theorem rV (V nx:Nat)(l:List Nat)(A:Option Addr)(n c B:Nat)(w:World)(ho:gQ V nx l)(hr:Reads w B 1 A n (bv (ck V nx l)))(hB:B≤w.heap.size)(hnc:n≤c):
  Calls Pg 190 #[G A n c] w fun e w'=>∃A4 c4,e=rT (tU #[aG #[X Y V,X Y nx,G A4 l.length c4],X Y 0])∧w'.ownsRow w.heap.size 3 1 (G A4 l.length c4) l.length (nv l)∧Below w.heap.size w w':=by
 obtain⟨v1,v3,l1,l64,n1,n2,inc⟩:=id ho
 have hln:n=16 + (6 + l.length * 4):=by have:=hr.length;unfold ck at this;rw[fO,ir] at this;omega
 obtain⟨q,hq⟩:∃q,q=w.heap.size:=⟨_,rfl⟩
 have hB0:Below w.heap.size w (w.alloc (cL #[X Y 0,X Y 0,G none 0 0] 259)):=(bR w.heap.size w).alloc (nR _) _
 have hq1:ab (w.alloc (cL #[X Y 0,X Y 0,G none 0 0] 259)) q 259 #[X Y 0,X Y 0,G none 0 0]:=hq▸ab.new w _ _
 have hsz:(w.alloc (cL #[X Y 0,X Y 0,G none 0 0] 259)).heap.size=q + 1:=by rw[hq];simp
 have hr1:Reads (w.alloc (cL #[X Y 0,X Y 0,G none 0 0] 259)) B 1 A n (bv (df 100 V (fX nx l)++[])):=by
  rw[List.append_nil]
  exact hr.below (hB0.mono hB)
 have CT:=jH (qx 100 V (fX nx l) [] A n c B _ (by omega) (by omega) (by rw[ir];omega) (by rw[ir];omega) (oa _ _) gj hr1 (by rw[hsz];omega) hnc (by omega))
 rw[ir] at CT
 have H1:=jH (aI hB0 (aI hq1 hsz))
 clear hr hr1 hB0 hq1 hsz
 obtain⟨mb,hmb⟩:∃mb,mb=6 + l.length * 4:=⟨_,rfl⟩
 rw[←hmb] at CT hln
 have HLN:=jH hln
 have HMB:=jH hmb
 have e1:decide ((16:Int) + (mb:Int) < (n:Int))=false:=decide_eq_false (by omega)
 have e2:decide ((V:Int) < 1)=false:=decide_eq_false (by omega)
 have e3:decide ((3:Int) < (V:Int))=false:=decide_eq_false (by omega)
 rw[Int.natCast_add] at CT
 clear hln hmb
 go_enter func190,ntmps190
 go_wp2_with fail
 refine CT.out.mono ?_
 rintro e w2 ⟨A2,c2,rfl,hown,af⟩
 rw[←hq]
 have HE:=jH hq
 clear hq CT
 generalize (w.alloc (cL #[X Y 0,X Y 0,G none 0 0] 259))=w1 at *
 obtain⟨q4,hq4⟩:∃q4,q4=w2.heap.size:=⟨_,rfl⟩
 have H2:(fun Vv:World=>Hid (Below q w Vv∧ab Vv q 259 #[X Y 0,X Y 0,G none 0 0]∧ab Vv q4 284 #[X Y 100,X Y V,G A2 mb c2]∧Vv.ownsRow w.heap.size 5 1 (G A2 mb c2) mb (bv (fX nx l))∧q < q4)) (w2.alloc (cL #[X Y 100,X Y V,G A2 mb c2] 284)):=by
  obtain⟨g1,g2,g3⟩:=H1.out
  have:=HE.out
  have hs1:=g1.size
  have hs2:=af.size
  have f1:=(bR w2.heap.size w2).alloc (nR _) (cL #[X Y 100,X Y V,G A2 mb c2] 284)
  exact⟨HE.out▸(g1.trans (af.mono hs1)).trans (f1.mono (by omega)),(g2.below af g2.lt).alloc _,hq4▸ab.new w2 _ _,cO (aJ hown f1) hs1,by omega⟩
 clear hown af H1
 have x3:=H2.out.2.2.1
 obtain⟨c_0,c_1,c_2⟩:=x3.c3
 clear x3
 go_wp2_with fail
 rw[←hq4]
 clear hq4
 generalize (w2.alloc (cL #[X Y 100,X Y V,G A2 mb c2] 284))=w3 at *
 refine(ja A2 mb c2 w3.heap.size (fX nx l) w3 (Reads.of_own H2.out.2.2.2.1) (nR _) (by have:=HMB.out;omega) (fun e=>lE H2.out.2.2.2.1 e)).mono ?_
 rintro e w4 ⟨p,rfl,hp,hrb,aq⟩
 have H4:Hid (Below q w w4∧ab w4 q 259 #[X Y 0,X Y 0,G none 0 0]∧ab w4 q4 284 #[X Y 100,X Y V,G A2 mb c2]∧aD w4 p (be nx 4++(be l.length 2++(dx l++[])))∧q < q4∧q4 < p∧q < w3.heap.size):=by
  obtain⟨g1,g2,g3,g4,g5⟩:=H2.out
  have hl3:=g3.lt
  have hl2:=g2.lt
  refine⟨g1.trans (aq.mono (by omega)),g2.below aq hl2,g3.below aq hl3,?_,g5,by omega,hl2⟩
  unfold fX at hrb
  simpa only[List.append_assoc,List.append_nil] using hrb
 clear hrb aq hp H2 c_0 c_1 c_2
 go_upto_region 9 with fail
 go_cut [8] from 9 (fun v8 wc=>∃q8,v8=PT (some ⟨q8,0,none⟩)∧Hid (Below q w wc∧ab wc q 259 #[X Y 0,X Y 0,G none 0 0]∧ab wc q8 259 #[X Y V,X Y nx,G none 0 0]∧aD wc p (be l.length 2++(dx l++[]))∧q < q8∧p < q8∧q < p))
 case first=>
  have hq9:q < w4.heap.size∧q4≠w4.heap.size∧p < w4.heap.size:=⟨H4.out.2.1.lt,Nat.ne_of_lt H4.out.2.2.1.lt,H4.out.2.2.2.1.lt⟩
  obtain⟨-,d0⟩:=H4.out.2.2.1.drew.c2
  obtain⟨-,e0⟩:=(H4.out.2.2.1.alloc (cL #[X Y 0,X Y 0,G none 0 0] 259)).drew.c2
  obtain⟨-,e1'⟩:=(H4.out.2.2.1.alloc (cL #[X Y 0,X Y 0,G none 0 0] 259)).c2
  have cvx:IntKind.i64.wrap (nx:Int)=(nx:Int):=IntWalk.i64_in _ (by omega)
  go_region_held3 (fun wS=>wS.cell? ⟨q4,1,none⟩=some (X Y V)) (first|with_reducible exact d0|with_reducible exact d1|with_reducible exact d2|with_reducible exact d3|with_reducible exact d4|with_reducible exact e0|with_reducible exact e1'|fail)
   (first
   |(go_at_call 305;(with_reducible refine(iB p nx _ w4.drew (by omega) (by simp[be_length,jx];omega) (dJ (bY (j0 _) gj)) (H4.out.2.2.2.1.below ((bR _ w4).drew))).mono ?_);rintro e w5 ⟨rfl,hr5⟩
     have b6:=H4.out.2.2.1.drew.grown hr5.2 (by have:=H4.out.2.2.2.2.2.1;simp;omega)
     have d1:=b6.cell 1
     have d2:=(b6.alloc (cL #[X Y 0,X Y 0,G none 0 0] 259)).cell 1
     have d3:=(b6.alloc (cL #[X Y V,X Y nx,G none 0 0] 259)).cell 1
     simp only[ga,gz,gN] at d1 d2 d3)
   |(go_at_call 305;(with_reducible refine(iB p nx _ (w4.alloc (cL #[X Y 0,X Y 0,G none 0 0] 259)).drew (by omega) (by simp[be_length,jx];omega) (dJ (bY (j0 _) gj)) (H4.out.2.2.2.1.below (((bR _ w4).alloc (nR _) _).drew))).mono ?_);rintro e w5 ⟨rfl,hr5⟩
     have b6:=(H4.out.2.2.1.alloc (cL #[X Y 0,X Y 0,G none 0 0] 259)).drew.grown hr5.2 (by have:=H4.out.2.2.2.2.2.1;simp;omega)
     have d1:=b6.cell 1
     have b8:=(ab.new w4 259 #[X Y 0,X Y 0,G none 0 0]).drew.grown hr5.2 (by have:=hq9;simp;omega)
     have z0:=(b8).frozen 0
     have y0:=(b8).cell 0
     have nn_0:=(b8).set_ 0 (X Y V)
     have z1:=(nn_0).frozen 1
     have y1:=(nn_0).cell 1
     have nn_1:=(nn_0).set_ 1 (X Y nx)
     have z2:=(nn_1).frozen 2
     have y2:=(nn_1).cell 2
     have nn:=(nn_1).set_ 2 (G none 0 0)
     have mm0:=nn.cell 0
     have mm1:=nn.cell 1
     have mm2:=nn.cell 2
     simp only[ga,gz,gN,Array.setIfInBounds,List.set_toArray,List.set_cons_zero,List.set_cons_succ,List.size_toArray,List.length_cons,List.length_nil] at y0 y1 y2 mm0 mm1 mm2 nn
     clear nn_0 nn_1
     have d4:=((((b6.far (p:=⟨w4.heap.size,0,none⟩) hq9.2.1 (X Y V)).far (p:=⟨w4.heap.size,1,none⟩) hq9.2.1 (X Y nx)).far (p:=⟨w4.heap.size,2,none⟩) hq9.2.1 (G none 0 0))).cell 1
     simp only[ga,gz,gN] at d1 d4))
  ·obtain⟨q8,hq8⟩:∃q8,q8=w5.heap.size:=⟨_,rfl⟩
   have H5:(fun Vv:World=>Hid (Below q w Vv∧ab Vv q 259 #[X Y 0,X Y 0,G none 0 0]∧ab Vv q8 259 #[X Y V,X Y nx,G none 0 0]∧aD Vv p (be l.length 2++(dx l++[]))∧q < q8∧p < q8∧q < p)) (w5.alloc (cL #[X Y V,X Y nx,G none 0 0] 259)):=by
    obtain⟨g1,g2,g3,g4,g5,g6,g7⟩:=H4.out
    have g3':=g2.drew.grown hr5.2 (by simp;omega)
    have:=g3'.lt
    have:=hr5.1.lt
    have:=HE.out
    have hx:Below q w4 w5:=(bR q w4).drew.trans ((bR q w4.drew).grown hr5.2 (by show q≤w4.heap.size;omega) (fun k hk=>by injection hk with hk;omega))
    exact⟨(g1.trans hx).alloc (by omega) _,g3'.alloc _,hq8▸ab.new w5 _ _,hr5.1.below ((bR _ _).alloc (nR _) _),by omega,by omega,by omega⟩
   clear d0 d1 d2 d3 e0 e1' b6 hr5 H4 hq9
   have HQ8:=jH hq8
   clear hq8
   go_wp2_with fail
   go_meet
   exact⟨q8,by rw[HQ8.out],H5⟩
  ·obtain⟨q8,hq8⟩:∃q8,q8=w4.heap.size:=⟨_,rfl⟩
   have H5:(fun Vv:World=>Hid (Below q w Vv∧ab Vv q 259 #[X Y 0,X Y 0,G none 0 0]∧ab Vv q8 259 #[X Y V,X Y nx,G none 0 0]∧aD Vv p (be l.length 2++(dx l++[]))∧q < q8∧p < q8∧q < p)) (((w5.setCell ⟨w4.heap.size,0,none⟩ (X Y V)).setCell ⟨w4.heap.size,1,none⟩ (X Y nx)).setCell ⟨w4.heap.size,2,none⟩ (G none 0 0)):=by
    obtain⟨g1,g2,g3,g4,g5,g6,g7⟩:=H4.out
    have g3':=(g2.alloc (cL #[X Y 0,X Y 0,G none 0 0] 259)).drew.grown hr5.2 (by simp;omega)
    have h9:=hq9.2.2
    have h7:q≠w4.heap.size:=Nat.ne_of_lt hq9.1
    have hqq:q≤w4.heap.size:=by omega
    have hx:Below q w4 w5:=(((bR q w4).alloc hqq _).drew).trans ((bR q (w4.alloc (cL #[X Y 0,X Y 0,G none 0 0] 259)).drew).grown hr5.2 (by show q≤(w4.alloc _).heap.size;rw[World.size_alloc];omega) (fun k hk=>by injection hk with hk;omega))
    refine⟨(((g1.trans hx).setCell (p:=⟨w4.heap.size,0,none⟩) hqq _).setCell (p:=⟨w4.heap.size,1,none⟩) hqq _).setCell (p:=⟨w4.heap.size,2,none⟩) hqq _,(((g3'.far (p:=⟨w4.heap.size,0,none⟩) h7 _).far (p:=⟨w4.heap.size,1,none⟩) h7 _).far (p:=⟨w4.heap.size,2,none⟩) h7 _),?_,(((hr5.1.far6 h9 _ _).far6 h9 _ _).far6 h9 _ _),by omega,by omega,by omega⟩
    rw[hq8]
    exact nn
   clear d0 d1 d4 e0 e1' b6 b8 nn hr5 H4 hq9 z0 y0 mm0 z1 y1 mm1 z2 y2 mm2
   have HQ8:=jH hq8
   clear hq8
   go_wp2_with fail
   go_meet
   exact⟨q8,by rw[HQ8.out],H5⟩
 case rest=>
  obtain⟨q8,rfl,H5⟩:=hcut
  clear H4
  have hmin:min ((l.length:Nat):Int) 65=((l.length:Nat):Int):=by omega
  have hle:decide (((l.length:Nat):Int) < 65)=true:=decide_eq_true (by omega)
  go_wp2_with fail
  refine(jo p l.length _ wc (by omega) (by simp[jx];omega) (bY (j0 _) gj) H5.out.2.2.2.1).mono ?_
  rintro e w6 ⟨rfl,hr⟩
  have H6:Hid (Below q w w6∧ab w6 q 259 #[X Y 0,X Y 0,G none 0 0]∧ab w6 q8 259 #[X Y V,X Y nx,G none 0 0]∧aD w6 p (dx l++[])∧q < q8∧p < q8∧q < p):=by
   obtain⟨g1,g2,g3,g4,g5,g6,g7⟩:=H5.out
   have h9:=g4.lt
   exact⟨g1.grown hr.2 (by omega) (fun k hk=>by injection hk with hk;omega),g2.grown hr.2 (by simp;omega),g3.grown hr.2 (by simp;omega),hr.1,g5,g6,g7⟩
  clear hr H5
  go_wp2_with fail
  go_loopg [53] l.length (fun gk at_ wr=>∃(j:Nat) (A5:Option Addr) (c5:Nat),at_=X Y j∧Hid (j + gk=l.length)∧Hid (Below q w wr∧ab wr q 259 #[X Y 0,X Y 0,G none 0 0]∧ab wr q8 259 #[X Y V,X Y nx,G A5 j c5]∧aD wr p (dx (l.drop j)++[])∧wr.ownsRow (p + 1) 3 1 (G A5 j c5) j (nv (l.take j))))
  case atStart=>exact⟨0,none,0,rfl,(by show _=_;omega),H6.out.1,H6.out.2.1,H6.out.2.2.1,H6.out.2.2.2.1,World.ownsRow_nil _ _ _ _⟩
  case round=>
   have HQQ:=jH H6.out.2.2.2.2
   clear H6
   obtain⟨j,A5,c5,rfl,hgk,hrel⟩:=hrel
   by_cases au:j < l.length
   ·obtain⟨x,hxj⟩:∃x,l[j]? =some x:=⟨_,List.getElem?_eq_getElem au⟩
    have hdrop:l.drop j=x::l.drop (j + 1):=by
     rw[List.drop_eq_getElem_cons au,(List.getElem?_eq_some_iff.1 hxj).2]
    have htake:l.take (j + 1)=l.take j++[x]:=by rw[List.take_add_one,hxj];rfl
    have hx32:x < 1000000:=by
     have h1:=(inc j au).2
     have h2:=(List.getElem?_eq_some_iff.1 hxj).2
     omega
    have hrb:aD wr p (be x 4++(dx (l.drop (j + 1))++[])):=by
     have h1:=hrel.out.2.2.2.1
     rw[hdrop,show dx (x::l.drop (j + 1))=be x 4++dx (l.drop (j + 1)) from rfl,List.append_assoc] at h1
     exact h1
    have HT:=jH htake
    have cvx:IntKind.i64.wrap (x:Int)=(x:Int):=IntWalk.i64_in _ (by omega)
    have CU:=jH (iB p x _ wr.drew (by omega) (by simp[jx];omega) (bY (j0 _) gj) (hrb.below (bR _ wr).drew))
    obtain⟨-,-,d0⟩:=hrel.out.2.2.1.drew.c3
    clear hdrop htake hrb hxj
    go_wp2_with fail
    go_region_law (first
     |(go_simp;go_at_call 305;(with_reducible refine CU.out.mono ?_);rintro e w5 ⟨rfl,hr5⟩;have b5:=hrel.out.2.2.1.drew.grown hr5.2 (by have:=HQQ.out;simp;omega);have d1:=b5.cell 2;have d2:=(b5.alloc (cL #[X Y x] 3)).cell 2;have o5:=hrel.out.2.2.2.2.drew.kept hr5.2 (.inr (by (obtain⟨B',A',c',k1,k2,k3⟩:=hrel.out.2.2.2.1);exact dj hrel.out.2.2.2.2 k2 (by decide)));simp only[ga,gz,gN] at d1 d2)
     |(refine qL rfl (.tmp 56) (.tmp 60) _ rfl 1 8 3 _ kB rfl (by omega) (by omega) underlying51 (p + 1) (G A5 j c5) j (nv (l.take j)) (by simp[Act.eval,Act.put]) (aJ o5 ((bR _ _).alloc (nR _) _)) (w5.heap.size + 1) (some ⟨w5.heap.size,0,none⟩) 1 1 [X Y x] (by simp[Act.eval,Act.put]) (eo _ _ _ _ 1 1 _ _ (by rfl) rfl rfl _ rfl) (by intro u hu;simp at hu;subst hu;rfl) (j + 1) rfl (by omega) (by have h1:=hr5.1.lt;rw[World.size_alloc];omega) ?_;intro A7 c7 w7 cT hb7 hg7 _;have b7:=(b5.alloc (cL #[X Y x] 3)).grown hg7 (Ne.symm (dj (aJ o5 ((bR _ _).alloc (nR _) _)) (b5.alloc (cL #[X Y x] 3)) (by decide)));have x7:=b7.cell 2;have z7:=b7.frozen 2))
    all_goals
     have H7:(fun Vv:World=>Hid (Below q w Vv∧ab Vv q 259 #[X Y 0,X Y 0,G none 0 0]∧ab Vv q8 259 #[X Y V,X Y nx,G A7 (j + 1) c7]∧aD Vv p (dx (l.drop (j + 1))++[])∧Vv.ownsRow (p + 1) 3 1 (G A7 (j + 1) c7) (j + 1) (nv (l.take (j + 1))))) (w7.setCell ⟨q8,2,none⟩ (G A7 (j + 1) c7)):=by
      obtain⟨g1,g2,g3,g4,g5⟩:=hrel.out
      obtain⟨f1,f2,f3⟩:=HQQ.out
      have hq:=HE.out
      have hs1:=g1.size
      have e6:=(bR w5.heap.size w5).alloc (nR _) (cL #[X Y x] 3)
      have hs5:=hr5.2.size
      have hsd:wr.drew.heap.size=wr.heap.size:=rfl
      have o6:=aJ o5 e6
      have a5:=g2.drew.grown hr5.2 (by simp;omega)
      have a7:=(a5.alloc (cL #[X Y x] 3)).grown hg7 (Ne.symm (dj o6 (a5.alloc _) (by decide)))
      have r6:=hr5.1.below e6
      have r7:aD w7 p (dx (l.drop (j + 1))++[]):=by
       obtain⟨B',A',c',k1,k2,k3,k4⟩:=r6
       refine⟨B',A',c',k1,k2.grown hg7 (Ne.symm (dj o6 k2 (by decide))),?_,k4⟩
       exact k3.grown_ (e:=3) hg7 o6 (by omega) (by have:=k2.lt;omega)
      exact⟨((((g1.trans (bR q wr).drew).trans ((bR q wr.drew).grown hr5.2 (by omega) (fun k hk=>by injection hk with hk;omega))).trans (e6.mono (by omega))).trans (hb7.mono (by omega))).setCell (p:=⟨q8,2,none⟩) (by show q≤q8;omega) _,a7.far (p:=⟨q8,2,none⟩) (by show q≠q8;omega) _,b7.set_ 2 _,r7.far6 f2 _ _,aB (by rw[HT.out,show nv (l.take j++[x])=nv (l.take j)++[X Y x] by simp[nv]];exact cT) b7 (by decide) 2 _⟩
     clear x7 z7 b7 hg7 hb7 cT o5 d1 d2 b5 hr5 d0 hrel CU cvx
     go_wp2_with fail
     go_roundg (gk - 1)
     case measure=>have h1:=hgk.out;omega
     case rel=>exact⟨j + 1,A7,c7,by go_num,(by show _=_;have:=hgk.out;omega),H7⟩
   ·have hj:j=l.length:=by have:=hgk.out;omega
    have H8:Hid (Below q w wr∧ab wr q 259 #[X Y 0,X Y 0,G none 0 0]∧ab wr q8 259 #[X Y V,X Y nx,G A5 l.length c5]∧aD wr p []∧wr.ownsRow (p + 1) 3 1 (G A5 l.length c5) l.length (nv l)):=by
     have h1:=hrel.out
     rw[hj,List.take_of_length_le (nR _),List.drop_length] at h1
     exact h1
    clear hrel
    have b8:=H8.out.2.2.1
    obtain⟨c_0,c_1,c_2⟩:=b8.c3
    clear b8
    have hd:decide ((j:Int) < (l.length:Int))=false:=decide_eq_false (by omega)
    clear hj
    go_wp2_with fail
    refine(nr p wr H8.out.2.2.2.1).mono ?_
    rintro e w' ⟨rfl,rfl⟩
    go_wp2_with fail
    refine(rO V nx l A5 l.length c5 wr.heap.size wr ho (Reads.of_own H8.out.2.2.2.2) (nR _)).mono ?_
    rintro e w9 ⟨rfl,hb9⟩
    have H9:Hid (ab w9 q8 259 #[X Y V,X Y nx,G A5 l.length c5]∧ab w9 q 259 #[X Y 0,X Y 0,G none 0 0]∧Below q w w9∧w9.ownsRow q 3 1 (G A5 l.length c5) l.length (nv l)):=by
     obtain⟨g1,g2,g3,g4,g5⟩:=H8.out
     have hl2:=g2.lt
     exact⟨g3.below hb9 g3.lt,g2.below hb9 hl2,g1.trans (hb9.mono (by omega)),cO (aJ g5 hb9) (by have:=HQQ.out;omega)⟩
    clear hb9 H8 c_0 c_1 c_2
    go_upto_region 16 with fail
    apply wp_region_lit
    refine wpList_load_row rfl _ _ rfl q8 rfl 259 #[X Y V,X Y nx,G A5 l.length c5] (0,0) _ H9.out.1 underlying259 rfl ot ?_
    refine wpList_store_row rfl _ _ _ rfl q #[X Y V,X Y nx,G A5 l.length c5] rfl rfl 259 #[X Y 0,X Y 0,G none 0 0] H9.out.2.1 ot rfl (by simp[Value.oneCell']) ?_
    refine Go.Great.wpList_readTo rfl (some 3) rfl (X Y 0) rfl ?_
    apply wpList_nil
    have cz:=setRow_heap w9 q _ #[X Y V,X Y nx,G A5 l.length c5] _ _ H9.out.2.1
    have hlow:Below q w (w9.setRow q #[X Y V,X Y nx,G A5 l.length c5]):=below_setRow H9.out.2.2.1 (nR _) _
    simp only[Exit.inBlock,Exit.then]
    go_wp2_with fail
    refine bodyPost_ret (fU rfl _ _ q 259 #[X Y V,X Y nx,G A5 l.length c5] (0,0) _ rfl cz underlying259 rfl ot) rfl ?_
    exact⟨A5,c5,rfl,HE.out▸jB H9.out.2.2.2 H9.out.2.1 (by decide) _,HE.out▸hlow⟩
end
section
open Go.RowKit Go.Maps
theorem yl (aa d mn ms f V nx:Nat)(l:List Nat)(D:aF)(p:bM)(w:World)(hD:ar w aa d mn ms D)(hm:av D.now (⟨#[109]⟩:ByteArray)=some f)(hp:av D.fs f=some p)(hpb:p.b=ck V nx l)(ho:gQ V nx l):
  Calls Pg 97 #[PT (some ⟨d,0,none⟩)] w fun e w'=>e=rT (tU #[X Y V,X Y 0])∧Below w.heap.size w w':=by
 have CR:=jH (kg aa d mn ms D ⟨#[109]⟩ w hD (by show (⟨#[109]⟩:ByteArray).size≤4096;decide))
 have hr:eM D ⟨#[109]⟩=some (ck V nx l):=by unfold eM;rw[hm,Option.map_some,jf hp,hpb]
 rw[hr] at CR
 clear hD
 go_enter func97,ntmps97
 go_wp2_with fail
 refine CR.out.mono ?_
 rintro e w1 ⟨⟨A,c,rfl,hown,-,-⟩,hb⟩
 have HX:=jH (aI hown hb)
 clear hown hb CR
 go_wp2_with fail
 refine(rV V nx l A _ c w1.heap.size w1 ho (Reads.of_own HX.out.1) (nR _) (dN HX.out.1).1).mono ?_
 rintro e w2 ⟨A4,c4,rfl,bH,af⟩
 obtain⟨q,hq⟩:∃q,q=w2.heap.size:=⟨_,rfl⟩
 have hk:ab (w2.alloc (cL #[X Y V,X Y nx,G A4 l.length c4] 259)) q 259 #[X Y V,X Y nx,G A4 l.length c4]:=hq▸ab.new w2 _ _
 have x0:=hk.c1
 have HY:Hid (Below w.heap.size w (w2.alloc (cL #[X Y V,X Y nx,G A4 l.length c4] 259))):=by
  have s1:=HX.out.2.size
  have s2:=af.size
  exact(HX.out.2.trans (af.mono s1)).alloc (by omega) _
 clear hk bH af HX
 rw[hq] at x0
 clear hq
 go_wp2_with fail
 go_ret2
 exact⟨rfl,HY.out⟩
theorem yS (w:World):Calls Pg 200 #[.string ⟨#[109]⟩] w fun e w'=>e=rT (tU #[X Y 0,bL false])∧w=w':=by
 go_enter func200,ntmps200
 go_wp2_with fail
 go_ret2
 exact⟨rfl,rfl⟩
theorem yR (x:Nat)(h1:1≤x)(h3:x≤3)(w:World):Calls Pg 200 #[.string (aN x)] w fun e w'=>e=rT (tU #[X Y x,bL true])∧w=w':=by
 obtain rfl|rfl|rfl:x=1∨x=2∨x=3:=by omega
 ·rw[show aN 1=⟨#[115,48,48,48,48,48,49]⟩ by decide]
  go_enter func200,ntmps200
  go_wp2_with fail
  refine wp_loop_rounds 7 ?_
  iterate 7 (rw[rounds_succ];go_wp2_with fail)
  go_ret2
  exact⟨rfl,rfl⟩
 ·rw[show aN 2=⟨#[115,48,48,48,48,48,50]⟩ by decide]
  go_enter func200,ntmps200
  go_wp2_with fail
  refine wp_loop_rounds 7 ?_
  iterate 7 (rw[rounds_succ];go_wp2_with fail)
  go_ret2
  exact⟨rfl,rfl⟩
 ·rw[show aN 3=⟨#[115,48,48,48,48,48,51]⟩ by decide]
  go_enter func200,ntmps200
  go_wp2_with fail
  refine wp_loop_rounds 7 ?_
  iterate 7 (rw[rounds_succ];go_wp2_with fail)
  go_ret2
  exact⟨rfl,rfl⟩
theorem AP (A:Option Addr)(n c B x:Nat)(l:List Nat)(w:World)(hr:Reads w B 1 A n (nv l))(hx:x∈l)(hn:n≤100):Calls Pg 313 #[G A n c,X Y x] w fun e w'=>(∃j:Nat,e=rT (X Y j))∧w=w':=by
 have hl:l.length=n:=by have:=hr.1;rw[lG] at this;omega
 have hn0:0 < n:=by rw[←hl];exact List.length_pos_of_mem hx
 obtain⟨b,off,rfl,hb,hc⟩:=hr.plain (by omega) (by omega)
 have HR:=jH (aI hc (aI hx hl))
 clear hr hc hx hl
 go_enter func313,ntmps313
 go_wp2_with fail
 go_loopg [8] n (fun gk at_ wr=>∃(j:Nat),at_=X Y j∧Hid (j + gk=n)∧Hid (∀i y,i < j→l[i]? =some y→y≠x)∧w=wr)
 case atStart=>exact⟨0,rfl,(by show _=_;omega),(fun i y h=>absurd h (Nat.not_lt_zero _)),rfl⟩
 case round=>
  obtain⟨j,rfl,hgk,hno,rfl⟩:=hrel
  by_cases au:j < n
  ·obtain⟨y,hy⟩:∃y,l[j]? =some y:=⟨_,List.getElem?_eq_getElem (by have:=HR.out.2.2;omega)⟩
   have c0:w.cell? ⟨b,off + j,none⟩=some (X Y y):=HR.out.1 j _ (by rw[nv,List.getElem?_map,hy];rfl)
   have HY:=jH hy
   clear hy
   by_cases e:x=y
   ·subst e
    go_wp2_with fail
    go_ret
    exact⟨⟨j,rfl⟩,rfl⟩
   ·have he:((x:Int)==(y:Int))=false:=by simp;omega
    have az:=jH e
    clear e
    go_wp2_with fail
    go_roundg (gk - 1)
    case measure=>have h1:=hgk.out;omega
    case rel=>
     refine⟨j + 1,by go_num,(by show _=_;have:=hgk.out;omega),(fun i z hi hz=>?_),rfl⟩
     by_cases hij:i < j
     ·exact hno.out i z hij hz
     ·obtain rfl:i=j:=by omega
      rw[HY.out] at hz
      injection hz with hz
      subst hz
      exact fun e=>az.out e.symm
  ·exfalso
   obtain⟨i,hi⟩:=List.getElem?_of_mem HR.out.2.1
   have h1:=hgk.out
   have h2:=(List.getElem?_eq_some_iff.1 hi).1
   have h3:=HR.out.2.2
   exact hno.out i x (by omega) hi rfl
theorem DA (A:Option Addr)(n c B x:Nat)(l:List Nat)(w:World)(hr:Reads w B 1 A n (nv l))(hx:x∈l)(hn:n≤100):Calls Pg 201 #[G A n c,X Y x] w fun e w'=>e=rT (bL true)∧w=w':=by
 have CI:=jH (AP A n c B x l w hr hx hn)
 clear hr hx
 go_enter func201,ntmps201
 go_wp2_with fail
 refine CI.out.mono ?_
 rintro e w' ⟨⟨j,rfl⟩,rfl⟩
 have hd:decide ((0:Int)≤(j:Int))=true:=decide_eq_true (by omega)
 go_wp2_with fail
 go_ret
 exact⟨rfl,rfl⟩
end
section
open Go.RowKit
def eG (w:World)(B pk:Nat):Prop:=∃(A:Option Addr) (n c:Nat) (l:List Nat),ab w pk 23 #[G A n c]∧Reads w B 1 A n (bv l)∧n≤c∧n≤140737488355328∧ay l
theorem Bu (w:World)(pk:Nat)(u:Value):cr pk w (w.setCell ⟨pk,0,none⟩ u):=
 ⟨rfl,rfl,rfl,by simp,fun k _ hk=>Below.heap_setCell w ⟨pk,0,none⟩ u k (fun e=>hk e)⟩
theorem rm (pk B m:Nat)(w:World)(hm:m≤1099511627776)(h:eG w B pk)(hB:B≤pk):
  Calls Pg 33 #[X Y m,PT (some ⟨pk,0,none⟩)] w fun e w'=>∃x:Nat,x≤m∧e=rT (X Y x)∧eG w' B pk∧cr pk w w':=by
 obtain⟨A,n,c,l,hb,hr,hnc,hn,ha⟩:=h
 have c0:=hb.c1
 have f0:=hb.frozen 0
 by_cases h0:n=0
 ·have HX:Hid (eG w B pk):=⟨A,n,c,l,hb,hr,hnc,hn,ha⟩
  subst h0
  clear hb hr
  go_enter func33,ntmps33
  go_wp2_with fail
  go_ret
  exact⟨0,Nat.zero_le _,rfl,HX.out,cr.of_below (bR _ _)⟩
 ·obtain⟨b,off,rfl,hbB,hcl⟩:=hr.plain (by omega) (by omega)
  have hl:l.length=n:=by have:=hr.length;omega
  obtain⟨x,hx⟩:∃x,l[0]? =some x:=⟨_,List.getElem?_eq_getElem (by omega)⟩
  have hx256:x < 256:=ha x (List.mem_of_getElem? hx)
  have cx:=hcl 0 (X .u8 x) (by simp[bv,hx])
  have hcut:=hr.cut (k:=1) (cap:=c) (by omega) hnc
  rw[Nat.add_zero] at cx
  have hn0:((n:Int)==0)=false:=by simp;omega
  have w1:IntKind.i64.wrap ((m:Int) + 1)=((m + 1:Nat):Int):=by rw[IntWalk.i64_in _ (by omega)];omega
  have HH:=jH (aI hb (aI hcut ha))
  clear hcl hr hx hcut hb
  go_enter func33,ntmps33
  go_wp2_with fail
  all_goals
   go_ret
   obtain⟨k1,k2,k3⟩:=HH.out
   have hbd:bv (l.drop 1)=(bv l).drop (1 * 1):=by simp[bv]
   have hsb:=(bR B w).setCell (p:=⟨pk,0,none⟩) (by show B≤pk;omega)
   have cQ:=Bu w pk
   refine⟨x % (m + 1),by have:=Nat.mod_lt x (show 0 < m + 1 by omega);omega,by push_cast;rfl,?_,cQ _⟩
  all_goals
   have h1:=HH.out.2.1
   first|rw[if_neg (by assumption)] at h1|rw[if_pos rfl] at h1|rw[if_pos (by assumption)] at h1
   first
    |exact⟨_,n - 1,0,l.drop 1,HH.out.1.set_ 0 _,by rw[hbd];exact h1.below (hsb _),by omega,by omega,fun y hy=>HH.out.2.2 y (List.mem_of_mem_drop hy)⟩
    |exact⟨_,n - 1,c - 1,l.drop 1,HH.out.1.set_ 0 _,by rw[hbd];exact h1.below (hsb _),by omega,by omega,fun y hy=>HH.out.2.2 y (List.mem_of_mem_drop hy)⟩
end
section
open Go.Shelf
def qR:Go.Shelf.Ren:=⟨fun|6=>36|8=>94|9=>95|11=>186|13=>188|12=>187|23=>301|24=>302|14=>292|15=>293|16=>294|17=>295|18=>296|19=>297|20=>298|21=>299|22=>300|25=>399|26=>400|27=>401|28=>402|29=>403|30=>404|31=>441|n=>n,fun|26=>9|28=>108|24=>82|0=>0|3=>3|37=>224|48=>32|50=>53|4=>4|40=>386|39=>385|45=>49|5=>5|9=>9|51=>459|55=>463|57=>494|58=>371|33=>184|n=>n,fun|n=>n⟩
theorem wU:Go.Proofs.SlLaysZ.n6 Pg qR:={
 mixed:=by kernel_rfl
 f6:=⟨Tryz.f36.name,by decide,func36.trans (congrArg some (by kernel_rfl))⟩
 f8:=⟨Tryz.f94.name,by decide,func94.trans (congrArg some (by kernel_rfl))⟩
 f11:=⟨Tryz.f186.name,by decide,func186.trans (congrArg some (by kernel_rfl))⟩
 t0:=underlying0
 a0:=Tryz.isAgg0
 z0:=Tryz.sizeOf0
 v0:=Tryz.zeroValue0
 t24:=underlying82
 a24:=Tryz.isAgg82
 z24:=Tryz.sizeOf82
 v24:=Tryz.zeroValue82
 t26:=underlying9
 a26:=Tryz.isAgg9
 z26:=Tryz.sizeOf9
 v26:=Tryz.zeroValue9
 t28:=underlying108
 a28:=Tryz.isAgg108
 z28:=Tryz.sizeOf108
 v28:=Tryz.zeroValue108
 i26:=by kernel_rfl}
def wV:Go.Shelf.Ren:=⟨fun|6=>95|8=>188|9=>187|19=>301|20=>302|21=>292|22=>293|23=>294|24=>295|25=>296|26=>297|27=>298|28=>299|29=>300|36=>399|31=>400|32=>401|37=>402|38=>403|39=>404|41=>441|n=>n,fun|27=>82|29=>9|3=>3|32=>224|26=>82|0=>0|44=>32|46=>53|4=>4|36=>386|35=>385|41=>49|5=>5|9=>9|53=>459|57=>463|63=>494|64=>371|n=>n,fun|n=>n⟩
theorem qS:Go.Proofs.SlLaysM.n6 Pg wV:={
 mixed:=by kernel_rfl
 f6:=⟨Tryz.f95.name,by decide,func95.trans (congrArg some (by kernel_rfl))⟩
 f8:=func188.trans (congrArg some (by kernel_rfl))
 f9:=⟨Tryz.f187.name,by decide,func187.trans (congrArg some (by kernel_rfl))⟩
 f19:=func301.trans (congrArg some (by kernel_rfl))
 f20:=func302.trans (congrArg some (by kernel_rfl))
 f21:=⟨Tryz.f292.name,by decide,func292.trans (congrArg some (by kernel_rfl))⟩
 f22:=⟨Tryz.f293.name,by decide,func293.trans (congrArg some (by kernel_rfl))⟩
 f23:=⟨Tryz.f294.name,by decide,func294.trans (congrArg some (by kernel_rfl))⟩
 f24:=⟨Tryz.f295.name,by decide,func295.trans (congrArg some (by kernel_rfl))⟩
 f25:=⟨Tryz.f296.name,by decide,func296.trans (congrArg some (by kernel_rfl))⟩
 f26:=⟨Tryz.f297.name,by decide,func297.trans (congrArg some (by kernel_rfl))⟩
 f27:=⟨Tryz.f298.name,by decide,func298.trans (congrArg some (by kernel_rfl))⟩
 f28:=⟨Tryz.f299.name,by decide,func299.trans (congrArg some (by kernel_rfl))⟩
 f29:=⟨Tryz.f300.name,by decide,func300.trans (congrArg some (by kernel_rfl))⟩
 f31:=func400.trans (congrArg some (by kernel_rfl))
 f32:=func401.trans (congrArg some (by kernel_rfl))
 f36:=⟨Tryz.f399.name,by decide,func399.trans (congrArg some (by kernel_rfl))⟩
 f37:=⟨Tryz.f402.name,by decide,func402.trans (congrArg some (by kernel_rfl))⟩
 f38:=⟨Tryz.f403.name,by decide,func403.trans (congrArg some (by kernel_rfl))⟩
 f39:=⟨Tryz.f404.name,by decide,func404.trans (congrArg some (by kernel_rfl))⟩
 f41:=⟨Tryz.f441.name,by decide,func441.trans (congrArg some (by kernel_rfl))⟩
 t0:=underlying0
 a0:=Tryz.isAgg0
 z0:=Tryz.sizeOf0
 v0:=Tryz.zeroValue0
 t3:=underlying3
 a3:=Tryz.isAgg3
 z3:=Tryz.sizeOf3
 v3:=Tryz.zeroValue3
 t4:=underlying4
 a4:=Tryz.isAgg4
 z4:=Tryz.sizeOf4
 v4:=Tryz.zeroValue4
 t5:=underlying5
 a5:=Tryz.isAgg5
 z5:=Tryz.sizeOf5
 v5:=Tryz.zeroValue5
 t9:=underlying9
 a9:=Tryz.isAgg9
 z9:=Tryz.sizeOf9
 v9:=Tryz.zeroValue9
 t26:=underlying82
 a26:=Tryz.isAgg82
 z26:=Tryz.sizeOf82
 v26:=Tryz.zeroValue82
 t27:=underlying82
 a27:=Tryz.isAgg82
 z27:=Tryz.sizeOf82
 v27:=Tryz.zeroValue82
 t29:=underlying9
 a29:=Tryz.isAgg9
 z29:=Tryz.sizeOf9
 v29:=Tryz.zeroValue9
 t32:=underlying224
 a32:=Tryz.isAgg224
 z32:=Tryz.sizeOf224
 v32:=Tryz.zeroValue224
 t35:=underlying385
 a35:=Tryz.isAgg385
 z35:=Tryz.sizeOf385
 v35:=Tryz.zeroValue385
 t36:=underlying386
 a36:=Tryz.isAgg386
 z36:=Tryz.sizeOf386
 v36:=Tryz.zeroValue386
 t41:=underlying49
 a41:=Tryz.isAgg49
 z41:=Tryz.sizeOf49
 v41:=Tryz.zeroValue49
 t44:=underlying32
 a44:=Tryz.isAgg32
 z44:=Tryz.sizeOf32
 v44:=Tryz.zeroValue32
 t46:=underlying53
 a46:=Tryz.isAgg53
 z46:=Tryz.sizeOf53
 v46:=Tryz.zeroValue53
 t53:=underlying459
 a53:=Tryz.isAgg459
 z53:=Tryz.sizeOf459
 v53:=Tryz.zeroValue459
 t57:=underlying463
 a57:=Tryz.isAgg463
 z57:=Tryz.sizeOf463
 v57:=Tryz.zeroValue463
 t63:=underlying494
 a63:=Tryz.isAgg494
 z63:=Tryz.sizeOf494
 v63:=Tryz.zeroValue494
 t64:=underlying371
 a64:=Tryz.isAgg371
 z64:=Tryz.sizeOf371
 v64:=Tryz.zeroValue371}
end
section
open Go.RowKit Go.Maps Go.Shelf Go.Sort
def l5 (s:ByteArray):List UInt8:=s.data.toList
theorem tj (s:ByteArray):encStr (l5 s)=.string s:=rfl
def fB (m:List (ByteArray×Nat)):List (List UInt8):=m.map fun p=>l5 p.1
theorem An (n l Bm b:Nat)(hn:1≤n)(m:List (ByteArray×Nat))(J:List (List UInt8)→World→Prop)
  (hY:∀pre x W,J pre W→pre.length < m.length→YieldAt Fence.wide (n - 1) Pg l #[encStr x] W fun e W'=>e=rT (bL true)∧J (pre++[x]) W'∧KeepsWalks W W')
  (W:World)(hJ:AbidesFrom W.heap.size J)(hm:W.cell? ⟨Bm,0,none⟩=some (.map (some b)))(hown:aL W Value.string aY aW b m)(h0:J [] W):
  CallsIn Fence.wide n Pg 96 #[.func (.yield l) #[] #[],PT (some ⟨Bm,0,none⟩)] W fun e W'=>(∃v,e=rT v)∧∃xs,xs.Perm (fB m)∧J xs W':=by
 obtain⟨w1,hrange,hit,ae,hs1⟩:=hown.range (P:=Pg) (t:=97) underlying97
 have HJ0:Hid (J [] w1):=hJ [] W w1 none h0 ⟨ae.os,ae.tape,ae.output,ae.size,fun k hk _=>ae.block k hk⟩ (fun r e=>by cases e)
 have HI:=jH hit
 clear hit ae hs1 h0
 refine callsIn_of_wp func96 rfl trivial ?_ rfl
 simp only[ntmps96,List.size_toArray,List.length_cons,List.length_nil,Nat.reduceAdd,Nat.reduceSub,Array.replicate_succ,Array.replicate_zero,List.push_toArray,List.append_toArray,List.nil_append,List.cons_append]
 gi_wp2
 gi_loopg [3] m.length (fun gk _ wr=>∃(left pre:List (ByteArray×Nat)),Hid (left.length=gk)∧Hid ((pre++left).Perm m)∧Hid (fC wr Value.string aY aW W.heap.size b m left)∧Hid (J (fB pre) wr))
 case atStart=>exact⟨m,[],rfl,(by show List.Perm _ _;simp),HI.out,HJ0.out⟩
 case round=>
  obtain⟨left,pre,hgk,hpm,hit,hJs⟩:=hrel
  rcases hit.out.next (P:=Pg) 0 with⟨bI,hrun0⟩|⟨p,left',w2,cK,hpmm,hrun0,hit2,cQ,hs2,hent⟩
  ·have hrun:∀ty,(Instr.next (PT (some ⟨W.heap.size,0,none⟩)) false ty).run Pg wr=.ok (tU #[bL false]) wr:=fun ty=>hrun0
   have HP:Hid (pre.Perm m):=by show List.Perm _ _;have:=hpm.out;rwa [bI,List.append_nil] at this
   clear hrun0 bI
   gi_wp2
   go_end0
   exact⟨⟨_,rfl⟩,fB pre,HP.out.map _,hJs.out⟩
  ·have hrun:∀ty,(Instr.next (PT (some ⟨W.heap.size,0,none⟩)) false ty).run Pg wr=.ok (tU #[bL true,.string p.1,aW p.2]) w2:=fun ty=>hrun0
   have hJ2:J (fB pre) w2:=hJ _ wr w2 (some W.heap.size) hJs.out cQ.grownBy (fun r e=>by
    cases e
    obtain⟨_,_,_,es,bG,seen,c0,since,g1,_⟩:=hit.out
    exact⟨nR _,_,g1,rfl⟩)
   have HM:=jH hm
   obtain⟨fx,bx⟩:=p
   unfold aW at hrun hent
   dsimp only at hrun hent
   have au:(fB pre).length < m.length:=by
    have h1:=hpm.out.length_eq
    have h2:=cK.length_eq
    simp[fB] at h1 h2⊢
    omega
   have ax:left'.length + 1=gk:=by rw[←hgk.out,cK.length_eq];rfl
   have HL:=jH ax
   obtain⟨fn,tmps,assign,body,hy,hR⟩:=hY (fB pre) (l5 fx) _ hJ2 au
   try rw[tj] at hy
   try rw[tj] at hR
   have HP2:Hid (((pre++[(fx,bx)])++left').Perm m):=by
    show List.Perm _ _
    refine List.Perm.trans ?_ hpm.out
    rw[List.append_assoc]
    exact cK.symm.append_left pre
   have HI2:=jH hit2
   clear hrun0 hrange au ax hJ2 cK hpmm hit2 cQ hs2
   gi_wp2
   refine hR.mono ?_
   rintro e W3 ⟨rfl,hJ3,hk3⟩
   have HE:Hid (fC W3 Value.string aY aW W.heap.size b m left'∧J (fB (pre++[(fx,bx)])) W3):=by
    refine⟨oo HI2.out hk3,?_⟩
    unfold fB
    rw[List.map_append]
    exact hJ3
   clear hJ3 hk3 hy hR
   gi_wp2
   go_roundg (gk - 1)
   case measure=>have:=HL.out;omega
   case rel=>exact⟨left',_,(by show _=_;have:=HL.out;omega),HP2,HE.out.1,HE.out.2⟩
theorem Ao (n Bm b:Nat)(hn:1≤n)(m:List (ByteArray×Nat))(w:World)(hBm:Bm < w.heap.size)(hm:w.cell? ⟨Bm,0,none⟩=some (.map (some b)))(hown:aL w Value.string aY aW b m):
  SeqGives Fence.wide n Pg 96 #[PT (some ⟨Bm,0,none⟩)] encStr (fun ss=>ss.Perm (fB m)) m.length w:=fun l J W hW hJ hY h0=>
 An n l Bm b hn m J hY W hJ ((hW.cell (p:=⟨Bm,0,none⟩) hBm).trans hm) (hown.below hW hown.lt) h0
theorem wh (m:Nat):AnyZ.SortsIn Pg qR Fence.wide m:=
 ⟨fun blk off cap ss W hH aZ hsz=>callsIn_wide.2 (AnyM.slices_Sort_string qS blk off cap ss W hH aZ hsz),
 fun p cap W=>callsIn_wide.2 (AnyM.slices_Sort_string_none qS p cap W)⟩
def ez (m:List (ByteArray×Nat)):List (List UInt8):=(fB m).mergeSort fun x y=>decide (x≤y)
theorem sorted_perm {a b:List (List UInt8)}(h:a.Perm b):a.mergeSort (fun x y=>decide (x≤y))=b.mergeSort (fun x y=>decide (x≤y)):=by
 have tr:∀x y z:List UInt8,decide (x≤y)=true→decide (y≤z)=true→decide (x≤z)=true:=fun x y z h1 h2=>decide_eq_true (List.le_trans (of_decide_eq_true h1) (of_decide_eq_true h2))
 have tot:∀x y:List UInt8,(decide (x≤y)||decide (y≤x))=true:=fun x y=>by
  rcases List.le_total x y with h|h
  ·simp[h]
  ·simp[h]
 have p1:=List.pairwise_mergeSort tr tot a
 have p2:=List.pairwise_mergeSort tr tot b
 refine List.Perm.eq_of_pairwise ?_ p1 p2 (((List.mergeSort_perm a _).trans h).trans (List.mergeSort_perm b _).symm)
 intro x y _ _ h1 h2
 exact List.le_antisymm (of_decide_eq_true h1) (of_decide_eq_true h2)
theorem qM (Bm b:Nat)(m:List (ByteArray×Nat))(ax:m.length≤100000)(w:World)(hBm:Bm < w.heap.size)(hm:w.cell? ⟨Bm,0,none⟩=some (.map (some b)))(hown:aL w Value.string aY aW b m):
  Calls Pg 36 #[.func (.func 96) #[] #[PT (some ⟨Bm,0,none⟩)]] w fun e w'=>∃v,e=rT v∧w'.ownsRow w.heap.size 9 1 v (ez m).length ((ez m).map encStr)∧Below w.heap.size w w':=by
 have cS:=AnyZ.sorted_in wU Fence.wide 6 trivial trivial trivial trivial rfl (by omega) (wh _) (enters_of func95 (by kernel_rfl) rfl) 96 #[PT (some ⟨Bm,0,none⟩)] trivial (enters_of func96 (by kernel_rfl) rfl) _ m.length (by unfold maxLen;omega) (by omega) w (Ao _ Bm b (by omega) m w hBm hm hown)
 refine((callsIn_wide (n:=6)).1 cS).mono ?_
 rintro e w' ⟨v,ss,rfl,hS,hrow,_,hb⟩
 have hl:(ez m).length=ss.length:=by rw[ez,List.length_mergeSort];exact hS.length_eq.symm
 refine⟨v,rfl,?_,hb⟩
 rw[hl,ez,←sorted_perm hS]
 exact hrow
theorem so (b:Nat)(w:World):
  Calls Pg 37 #[.map (some b)] w fun e w'=>e=rT (.func (.func 96) #[] #[PT (some ⟨w.heap.size,0,none⟩)])∧w'=w.alloc (cL #[.map (some b)] 97):=by
 go_enter func37,ntmps37
 go_wp2
 go_ret
 exact⟨rfl,rfl⟩
theorem ze (aa d mn ms:Nat)(D:aF)(ax:D.now.length≤100000)(w:World)(h:ar w aa d mn ms D):
  Calls Pg 68 #[PT (some ⟨d,0,none⟩)] w fun e w'=>∃v,e=rT v∧w'.ownsRow w.heap.size 9 1 v (ez D.now).length ((ez D.now).map encStr)∧Below w.heap.size w w':=by
 obtain⟨cv,hb,hc⟩:=h.blk
 obtain⟨-,c1⟩:=hb.c2
 have CK:=jH (so mn w)
 have ao:Below w.heap.size w (w.alloc (cL #[.map (some mn)] 97)):=(bR _ _).alloc (nR _) _
 have CS:=jH (qM w.heap.size mn D.now ax (w.alloc (cL #[.map (some mn)] 97)) (by simp) ((ab.new w 97 #[.map (some mn)]).cell 0) (h.now.below ao h.now.lt))
 have H1:=jH ao
 clear h hb hc ao
 go_enter func68,ntmps68
 go_wp2_with fail
 refine CK.out.mono ?_
 rintro e w' ⟨rfl,rfl⟩
 clear CK
 go_wp2_with fail
 refine CS.out.mono ?_
 rintro e w' ⟨v,rfl,hown,hb⟩
 have HX:=jH (aI (cO hown H1.out.size) (H1.out.trans (hb.mono H1.out.size)))
 clear hown hb CS H1
 go_wp2_with fail
 go_ret
 exact⟨v,rfl,HX.out⟩
end
section
open Go.RowKit
def gu (fs fs':List (Nat×bM)):Prop:=
 aU fs'=aU fs∧∀f p,av fs f=some p→∃p',av fs' f=some p'∧(p'=p∨∃k,p.sure≤k∧k≤p.b.length∧p'=⟨p.b.take k,k⟩)
theorem gu.refl (fs:List (Nat×bM)):gu fs fs:=⟨rfl,fun f p h=>⟨p,h,.inl rfl⟩⟩
theorem gu.step {fs fs':List (Nat×bM)}(h:gu fs fs'){f:Nat}{p:bM}(hp:av fs' f=some p){k:Nat}(h1:p.sure≤k)(h2:k≤p.b.length)(hk:aU (aw fs' f ⟨p.b.take k,k⟩)=aU fs'):gu fs (aw fs' f ⟨p.b.take k,k⟩):=by
 refine⟨hk.trans h.1,fun g q hq=>?_⟩
 obtain⟨q',hq',hc⟩:=h.2 g q hq
 by_cases e:g=f
 ·subst e
  rw[hp] at hq'
  injection hq' with hq'
  subst hq'
  refine⟨_,eP _ _ _,.inr ?_⟩
  rcases hc with rfl|⟨k0,g1,g2,rfl⟩
  ·exact⟨k,h1,h2,rfl⟩
  ·dsimp only at h1 h2
   have hl:(q.b.take k0).length=k0:=by rw[List.length_take];omega
   have:k=k0:=by omega
   subst this
   exact⟨k,g1,g2,by rw[List.take_take,Nat.min_self]⟩
 ·exact⟨q',(eQ fs' _ e).trans hq',hc⟩
theorem yw {w:World}{aa n c k:Nat}{A:Option Addr}{e:TypeId}{xs:List Value}(h:w.ownsRow aa e 1 (G A n c) n xs)(hk:k≤n):w.ownsRow aa e 1 (G A k c) k (xs.take k):=by
 have hl:=h.1
 refine⟨by rw[List.length_take];omega,?_⟩
 rcases h.2 with⟨h',h0⟩|⟨g',cap',cur,h',hb,hg,hnc,hcm,hcs,htake⟩
 ·have hk0:k=0:=by omega
  subst hk0
  injection h' with h1 h2 h3
  subst h1 h3
  exact .inl ⟨rfl,rfl⟩
 ·injection h' with h1 h2 h3
  subst h1 h3
  refine .inr ⟨g',c,cur,rfl,hb,hg,by omega,hcm,hcs,?_⟩
  rw[←htake,List.take_take,Nat.mul_one,Nat.mul_one,Nat.min_eq_left hk]
theorem tA {w:World}{aa:Nat}{fs:List (Nat×bM)}{f:Nat}{p:bM}(h:gR w aa fs)(hp:av fs f=some p):
  ∃A c,ab w f 111 #[G A p.b.length c,X Y p.sure]∧p.b.length≤c∧p.sure≤p.b.length∧p.b.length≤1048576∧aa≤f∧
   ∀(K:List TypeId) (M:List Nat) (base':Nat) (w1:World) (k:Nat),Fr K M base' w w1→111∉K→5∉K→k≤p.b.length→
    gR ((w1.setCell ⟨f,0,none⟩ (G A k c)).setCell ⟨f,1,none⟩ (X Y k)) aa (aw fs f ⟨p.b.take k,k⟩):=by
 obtain⟨R,hR,hd⟩:=h
 obtain⟨a1,a2,a3,a4,a5,a6⟩:=hR f p hp
 obtain⟨A,c,eR⟩:=cV a3
 have ew:=eR
 rw[eR] at a2 a3
 refine⟨A,c,a2,(dN a3).1,a4,a5,a1,fun K M base' w1 k hf n1 n2 hk=>?_⟩
 have b2:=hf.blk _ _ _ a2 n1
 have b3:=yw (hf.own a3 n2) hk
 have hbv:(bv p.b).take k=bv (p.b.take k):=by simp[bv]
 rw[hbv] at b3
 have hlk:(p.b.take k).length=k:=by rw[List.length_take];omega
 refine kH f (G A k c) _ (R:=R) ?_ hd a1 ((b2.set_ 0 _).set_ 1 _) ?_ (by dsimp only;omega) (by dsimp only;omega) (fun x hx=>a6 x (List.mem_of_mem_take hx)) ?_
 ·intro g q hq az
  obtain⟨c1,c2,c3,c4,c5,c6⟩:=hR g q hq
  exact⟨c1,((hf.blk _ _ _ c2 n1).far (p:=⟨f,0,none⟩) az _).far (p:=⟨f,1,none⟩) az _,aB (aB (hf.own c3 n2) b2 (by decide) 0 _) (b2.set_ 0 _) (by decide) 1 _,c4,c5,c6⟩
 ·dsimp only
  rw[hlk]
  exact aB (aB b3 b2 (by decide) 0 _) (b2.set_ 0 _) (by decide) 1 _
 ·intro g q hq az
  have:=hd g f q p hq hp az
  rw[ew] at this
  rcases this with h|h
  ·exact .inl h
  ·refine .inr ?_
   cases A<;>exact h
theorem sK {w w':World}{aa pk:Nat}{cs:Array Value}(hb:ab w pk 23 cs)(hk:cr pk w w')(h1:aa≤pk)(h2:aa≤w.heap.size):Fr [23] [] aa w w':=by
 refine⟨⟨hk.os,hk.tape,hk.output,hk.size,fun k hkb=>hk.block k (by omega) (by omega)⟩,fun g t c hg ht=>?_,fun b es c hbm _=>?_⟩
 ·have az:g≠pk:=fun e=>by
   subst e
   have h1:w.heap[g]? =some (.cells c t (0,0)):=hg
   have h2:w.heap[g]? =some (.cells cs 23 (0,0)):=hb
   rw[h1] at h2
   injection h2 with h2
   injection h2 with _ h3 _
   exact ht (by rw[h3];simp)
  exact(hk.block g hg.lt az).trans hg
 ·have az:b≠pk:=fun e=>by
   subst e
   have h2:w.heap[b]? =some (.cells cs 23 (0,0)):=hb
   rw[hbm] at h2
   cases h2
  exact(hk.block b (Array.getElem?_eq_some_iff.1 hbm).1 az).trans hbm
theorem eG.fr {w w':World}{B pk aa:Nat}{K:List TypeId}{M:List Nat}(h:eG w B pk)(hf:Fr K M aa w w')(hB:B≤aa)(h1:23∉K):eG w' B pk:=by
 obtain⟨A,n,c,l,k1,k2,k3⟩:=h
 exact⟨A,n,c,l,hf.blk _ _ _ k1 h1,k2.below (hf.below.mono hB),k3⟩
theorem zn {κ ν:Type}[DecidableEq κ](m:List (κ×ν))(x:κ)(v u:ν)(h:av m x=some u):aU (aw m x v)=aU m:=by
 unfold aw
 rw[if_pos (List.any_eq_true.2 ⟨_,gW h,by simp⟩)]
 unfold aU
 rw[List.map_map]
 refine List.map_congr_left fun p _=>?_
 by_cases e:p.1=x<;>simp[e]
end
section
open Go.RowKit Go.Maps
theorem sJ (v:Nat):∀(fs:List (Nat×List Nat)) (hs:List (Option Addr×Nat)) (j k:Nat) (l:List Nat) (h:Option Addr×Nat),fs[j]? =some (k,l)→hs[j]? =some h→
  (fZ v fs hs)[j * 3]? =some (X Y k)∧(fZ v fs hs)[j * 3 + 1]? =some (X Y v)∧(fZ v fs hs)[j * 3 + 2]? =some (G h.1 l.length h.2)
 |[],_,_,_,_,_,h,_=>by simp at h
 |_::_,[],_,_,_,_,_,h=>by simp at h
 |f::fs,g::hs,0,k,l,h,h1,h2=>by
  simp at h1 h2
  subst h1 h2
  exact⟨rfl,rfl,rfl⟩
 |f::fs,g::hs,j + 1,k,l,h,h1,h2=>by
  have ih:=sJ v fs hs j k l h (by simpa using h1) (by simpa using h2)
  have e:∀i,(fZ v (f::fs) (g::hs))[(j + 1) * 3 + i]? =(fZ v fs hs)[j * 3 + i]?:=by
   intro i
   rw[show (j + 1) * 3 + i=j * 3 + i + 1 + 1 + 1 from by omega]
   rfl
  have e0:=e 0
  simp only[Nat.add_zero] at e0
  rw[e0,e 1,e 2]
  exact ih
theorem dP.get {w:World}{aa v c:Nat}{A:Option Addr}{fs:List (Nat×List Nat)}(h:dP w aa v A c fs){j k:Nat}{l:List Nat}(hj:fs[j]? =some (k,l)):
  ∃(b off:Nat) (A1:Option Addr) (c1:Nat),A=some ⟨b,off,none⟩∧w.cell? ⟨b,off + j * 3,none⟩=some (X Y k)∧w.cell? ⟨b,off + (j * 3 + 1),none⟩=some (X Y v)∧w.cell? ⟨b,off + (j * 3 + 2),none⟩=some (G A1 l.length c1)∧w.ownsRow aa 5 1 (G A1 l.length c1) l.length (bv l):=by
 obtain⟨hs,h1,h2,h3⟩:=h
 have au:=(List.getElem?_eq_some_iff.1 hj).1
 obtain⟨x,hx⟩:∃x,hs[j]? =some x:=⟨_,List.getElem?_eq_getElem (by omega)⟩
 obtain⟨g0,g1,g2⟩:=sJ v fs hs j k l x hj hx
 obtain⟨b,off,hA,_,hc⟩:=(Reads.of_own h2).plain (by omega) (by omega)
 exact⟨b,off,x.1,x.2,hA,hc _ _ g0,hc _ _ g1,hc _ _ g2,h3 j _ x hj hx⟩
theorem dP.fr {w w':World}{aa base' v c:Nat}{A:Option Addr}{fs:List (Nat×List Nat)}{K:List TypeId}{M:List Nat}(h:dP w aa v A c fs)(hf:Fr K M base' w w')(h1:284∉K)(h2:5∉K):dP w' aa v A c fs:=by
 obtain⟨hs,g1,g2,g3⟩:=h
 exact⟨hs,g1,hf.own g2 h1,fun i f x hf2 hx=>hf.own (g3 i f x hf2 hx) h2⟩
theorem vZ (aa d mn ms f V nx sp ns i x:Nat)(segs:List Nat)(D:aF)(p:bM)(fs:List (Nat×List Nat))(t:List Nat)(A:Option Addr)(c B:Nat)(K:List TypeId)(M:List Nat)(J:Nat→World→Prop)(w:World)
  (hD:ar w aa d mn ms D)(hix:segs[i]? =some x)(hns:segs.length=ns)(hn64:ns≤64)(hx1:1≤x)(hx2:x < 1000000)(hm:av D.now (aN x)=some f)(hp:av D.fs f=some p)(hpb:p.b=aH V fs++t)(ht:t=[]∨iy V t∧i + 1=ns)(hta:ay t)(hok:jk fs)(hV:V≤255)(hr:Reads w B 1 A ns (nv segs))(hB:B≤w.heap.size)
  (k1:284∉K)(k2:5∉K)(k3:259∉K)(hJ0:J 0 w)(hJb:∀j W W',J j W→Below W.heap.size W W'→J j W')
  (dO:∀(j k:Nat) (l:List Nat) (A1:Option Addr) (c1:Nat) (W:World),fs[j]? =some (k,l)→J j W→Reads W W.heap.size 1 A1 l.length (bv l)→(A1=none→c1=0)→
   Calls Pg 99 #[aG #[PT (some ⟨sp,0,none⟩)],aG #[X Y k,X Y V,G A1 l.length c1]] W fun e W'=>e=rT (X Y 0)∧J (j + 1) W'∧Fr K M aa W W'):
  Calls Pg 191 #[PT (some ⟨d,0,none⟩),aG #[X Y V,X Y nx,G A ns c],X Y i,.func (.func 99) #[aG #[PT (some ⟨sp,0,none⟩)]] #[]] w fun e w'=>e=rT (tU #[X Y ((aH V fs).length),X Y 0])∧J fs.length w'∧Fr K M aa w w':=by
 have bI:∀W,(binOp .eql 190 (.func (.func 99) #[aG #[PT (some ⟨sp,0,none⟩)]] #[]) .nilFunc).run Pg W=.ok (bL false) W:=fun W=>by kernel_rfl
 have eg:∀args w,(callFunc 99 args).run Pg w=.ok (.enter 99 args) w:=enters_of func99 (by kernel_rfl) rfl
 have hil:=(List.getElem?_eq_some_iff.1 hix).1
 rw[hns] at hil
 obtain⟨b,off,rfl,hbB,hc⟩:=hr.plain (by omega) (by omega)
 obtain⟨q,hq⟩:∃q,q=w.heap.size:=⟨_,rfl⟩
 have ao:Below w.heap.size w (w.alloc (cL #[X Y V,X Y nx,G (some ⟨b,off,none⟩) ns c] 259)):=(bR _ _).alloc (nR _) _
 have hq1:ab (w.alloc (cL #[X Y V,X Y nx,G (some ⟨b,off,none⟩) ns c] 259)) q 259 #[X Y V,X Y nx,G (some ⟨b,off,none⟩) ns c]:=hq▸ab.new w _ _
 obtain⟨-,-,x2⟩:=hq1.c3
 have hc0:(w.alloc (cL #[X Y V,X Y nx,G (some ⟨b,off,none⟩) ns c] 259)).cell? ⟨b,off + i,none⟩=some (X Y x):=by
  have h1:=hc i (X Y x) (by rw[nv,List.getElem?_map,hix];rfl)
  exact(ao.cell (p:=⟨b,off + i,none⟩) (by show b < w.heap.size;omega)).trans h1
 have hin:(i:Int) < (ns:Int):=by omega
 have hi0:(0:Int)≤(i:Int):=by omega
 have hDh:=hD.hi
 have H1:=jH (aI (hD.made ao) (aI (hJb 0 w _ hJ0 ao) (aI ao (aI hq1 hDh))))
 clear hD hJ0 ao hq1 hr hc hbB hB hDh
 go_enter func191,ntmps191
 go_wp2_with fail
 rw[←hq]
 have HE:=jH hq
 clear hq
 generalize (w.alloc (cL #[X Y V,X Y nx,G (some ⟨b,off,none⟩) ns c] 259))=w1 at *
 refine(kl x hx1 hx2 w1).mono ?_
 rintro e w2 ⟨rfl,af⟩
 go_wp2_with fail
 have hrd:eM D (aN x)=some p.b:=by unfold eM;rw[hm,Option.map_some,jf hp]
 have CR:=jH (kg aa d mn ms D (aN x) w2 (H1.out.1.made af) (fe (fK x)))
 rw[hrd] at CR
 refine CR.out.mono ?_
 rintro e w3 ⟨⟨A3,c3,rfl,hown,h20,-⟩,al⟩
 obtain⟨m,hm0⟩:∃m,m=p.b.length:=⟨_,rfl⟩
 rw[←hm0] at hown h20⊢
 rw[hpb] at hown
 have H3:Hid (J 0 w3∧Below w.heap.size w w3∧ab w3 q 259 #[X Y V,X Y nx,G (some ⟨b,off,none⟩) ns c]∧w3.ownsRow w3.heap.size 5 1 (G none 0 0) 0 []∧aa≤w.heap.size):=by
  obtain⟨g1,g2,g3,g4,g5⟩:=H1.out
  have s1:=g3.size
  have s2:=af.size
  exact⟨hJb _ _ _ (hJb _ _ _ g2 af) al,(g3.trans (af.mono s1)).trans (al.mono (by omega)),(g4.below af g4.lt).below al (by have:=g4.lt;omega),World.ownsRow_nil _ _ _ _,g5⟩
 have CS:=jH (xe V fs t A3 m c3 w3.heap.size w3 hok (ht.imp id And.left) hta hV (Reads.of_own hown) (nR _) (dN hown).1 h20)
 have HM:=jH hm0
 clear hown af al H1 CR hrd hm0 x2 hc0
 go_wp2_with fail
 refine CS.out.mono ?_
 rintro e w4 ⟨A4,c4,rfl,hF,aq⟩
 have H4:Hid (J 0 w4∧dP w4 w3.heap.size V A4 c4 fs∧ab w4 q 259 #[X Y V,X Y nx,G (some ⟨b,off,none⟩) ns c]∧Fr K M aa w w4):=by
  obtain⟨g1,g2,g3,-,g5⟩:=H3.out
  exact⟨hJb _ _ _ g1 aq,hF,g3.below aq g3.lt,Fr.of_below K M (g2.trans (aq.mono g2.size)) g5⟩
 have HB:=jH H3.out.2.2.2.2
 obtain⟨-,-,y2⟩:=H4.out.2.2.1.c3
 have HT:=jH ht
 clear hF aq CS H3 ht
 obtain⟨lb,hlb⟩:∃lb,lb=(aH V fs).length:=⟨_,rfl⟩
 rw[←hlb]
 have HLB:=jH hlb
 clear hlb
 go_upto_region 5 with fail
 go_cut [46] from 14 (fun v46 wc=>v46=bL false∧wc=w4)
 case first=>
  by_cases ht0:t=[]
  ·have hte:iD t=0:=by unfold iD;rw[if_pos ht0]
   rw[hte]
   clear ht0 hte
   go_wp2_with fail
   go_meet
   exact⟨rfl,rfl⟩
  ·have hte:iD t=2:=by unfold iD;rw[if_neg ht0]
   have hi1:i + 1=ns:=by
    rcases HT.out with h|h
    ·exact absurd h ht0
    ·exact h.2
   have eS:IntKind.i64.wrap ((ns:Int) - 1)=(i:Int):=by rw[IntWalk.i64_in _ (by omega)];omega
   have hd:decide ((i:Int) < (i:Int))=false:=decide_eq_false (by omega)
   rw[hte]
   clear ht0 hte hi1
   go_wp2_with fail
   go_meet
   exact⟨rfl,rfl⟩
 case rest=>
 obtain⟨rfl,rfl⟩:=hcut
 go_wp2_with fail
 have hfl:fs.length≤1048576:=by have h1:=oe V fs;have h2:=HM.out;rw[hpb,List.length_append] at h2;omega
 go_loopg [49] fs.length (fun gk at_ wr=>∃(j:Nat),at_=X Y j∧Hid (j + gk=fs.length)∧Hid (J j wr∧dP wr w3.heap.size V A4 c4 fs∧ab wr q 259 #[X Y V,X Y nx,G (some ⟨b,off,none⟩) ns c]∧Fr K M aa w wr))
 case atStart=>exact⟨0,rfl,(by show _=_;omega),H4.out⟩
 case round=>
  clear H4
  obtain⟨j,rfl,hgk,hrel⟩:=hrel
  by_cases au:j < fs.length
  ·obtain⟨⟨k,l⟩,hfj⟩:∃x,fs[j]? =some x:=⟨_,List.getElem?_eq_getElem au⟩
   obtain⟨b4,o4,A1,c1,rfl,y0,y1,y2,ho⟩:=hrel.out.2.1.get hfj
   rw[←Nat.add_assoc] at y1 y2
   obtain⟨q6,hq6⟩:∃q6,q6=wr.heap.size:=⟨_,rfl⟩
   have hb6:Below wr.heap.size wr (wr.alloc (cL #[X Y k,X Y V,G A1 l.length c1] 284)):=(bR _ _).alloc (nR _) _
   have hx6:ab (wr.alloc (cL #[X Y k,X Y V,G A1 l.length c1] 284)) q6 284 #[X Y k,X Y V,G A1 l.length c1]:=hq6▸ab.new wr _ _
   have hm6:=hrel.out.2.2.1.alloc (cL #[X Y k,X Y V,G A1 l.length c1] 284)
   obtain⟨z0,z1,z2⟩:=hx6.c3
   have x0:=hm6.c1
   have H6:(fun Vv:World=>Hid (J j Vv∧dP Vv w3.heap.size V (some ⟨b4,o4,none⟩) c4 fs∧ab Vv q 259 #[X Y V,X Y nx,G (some ⟨b,off,none⟩) ns c]∧Fr K M aa w Vv∧Vv.ownsRow w3.heap.size 5 1 (G A1 l.length c1) l.length (bv l))) (wr.alloc (cL #[X Y k,X Y V,G A1 l.length c1] 284)):=by
    obtain⟨g1,g2,g3,g4⟩:=hrel.out
    exact⟨hJb _ _ _ g1 hb6,g2.below hb6,hm6,g4.made hb6 (by have:=g4.size;have:=HB.out;omega),aJ ho hb6⟩
   clear hx6 hm6 hb6 hrel ho
   rw[hq6] at z0 z1 z2
   clear hq6
   go_wp2_with fail
   refine(dO j k l A1 c1 _ hfj H6.out.1 (Reads.of_own H6.out.2.2.2.2) (fun e=>lE H6.out.2.2.2.2 e)).mono ?_
   rintro e w7 ⟨rfl,hJ7,hf7⟩
   have H7:Hid (J (j + 1) w7∧dP w7 w3.heap.size V (some ⟨b4,o4,none⟩) c4 fs∧ab w7 q 259 #[X Y V,X Y nx,G (some ⟨b,off,none⟩) ns c]∧Fr K M aa w w7):=⟨hJ7,H6.out.2.1.fr hf7 k1 k2,hf7.blk _ _ _ H6.out.2.2.1 k3,H6.out.2.2.2.1.trans hf7⟩
   clear hJ7 hf7 H6 z0 z1 z2 x0 y0 y1 y2
   go_wp2_with fail
   go_roundg (gk - 1)
   case measure=>have h1:=hgk.out;omega
   case rel=>exact⟨j + 1,by go_num,(by show _=_;have:=hgk.out;omega),H7.out⟩
  ·have hj:j=fs.length:=by have:=hgk.out;omega
   have hdL:decide ((j:Int) < (fs.length:Int))=false:=decide_eq_false (by omega)
   have HX:Hid (J fs.length wr∧Fr K M aa w wr):=by
    rw[←hj]
    exact⟨hrel.out.1,hrel.out.2.2.2⟩
   clear hj hrel
   go_wp2_with fail
   go_ret2
   exact⟨by rw[HLB.out];rfl,HX.out⟩
theorem De (aa d mn ms f n:Nat)(D:aF)(p:bM)(name:ByteArray)(w:World)(h:ar w aa d mn ms D)(aP:D.ops≤900000000000)(bo:D.fail=0)(dv:aY name)(hm:av D.now name=some f)(hp:av D.fs f=some p)(hn:n≤p.b.length):
  Calls Pg 195 #[PT (some ⟨d,0,none⟩),.string name,X Y n] w fun e w'=>e=rT (X Y 0)∧ar w' aa d mn ms {D.op with fs:=aw D.fs f ⟨p.b.take n,n⟩}∧Fr [102,111] [] aa w w':=by
 have CF:=jH (oP aa d mn ms D name w h aP dv)
 rw[oQ bo hm] at CF
 dsimp only[fc,Option.map_some] at CF
 have hp1:av D.op.fs f=some p:=hp
 have HF:Hid (({D.op with fs:=aw D.fs f ⟨p.b.take n,n⟩}:aF)={D.op with fs:=aw D.op.fs f ⟨p.b.take n,n⟩}):=rfl
 generalize ({D.op with fs:=aw D.fs f ⟨p.b.take n,n⟩}:aF)=DX at *
 generalize D.op=D1 at *
 clear hm hp aP bo dv h
 obtain⟨k,hk⟩:∃k,p.b.length=k:=⟨_,rfl⟩
 rw[hk] at hn
 have dc:decide ((n:Int) < 0)=false:=decide_eq_false (by omega)
 have hd1:decide ((k:Int) < (n:Int))=false:=decide_eq_false (by omega)
 have hi0:(0:Int)≤(n:Int):=by omega
 go_enter func195,ntmps195
 go_wp2_with fail
 refine CF.out.mono ?_
 rintro e w1 ⟨rfl,hD1,hf1⟩
 obtain⟨Af,cf,b1,b2,b3,b4,b5,b6⟩:=tA hD1.files hp1
 rw[hk] at b1 b2 b3 b4
 have c0:=b1.cell 0
 have c1:=b1.cell 1
 have z0:=b1.frozen 0
 have z1:=(b1.set_ 0 (G Af n cf)).frozen 1
 have c2:=(b1.set_ 0 (G Af n cf)).cell 1
 simp only[ga,gz,gN,Array.setIfInBounds,List.set_toArray,List.set_cons_zero,List.set_cons_succ,List.size_toArray,List.length_cons,List.length_nil,Nat.zero_add,Nat.lt_add_one,Nat.reduceAdd,Nat.reduceLT,dite_true] at c0 c1 c2
 have hnc:n≤cf:=by omega
 have HX:(fun Vv:World=>Hid (ar Vv aa d mn ms DX∧Fr [102,111] [] aa w Vv)) ((w1.setCell ⟨f,0,none⟩ (G Af n cf)).setCell ⟨f,1,none⟩ (X Y n)):=by
  have hfs:Fr [111] [] aa w1 ((w1.setCell ⟨f,0,none⟩ (G Af n cf)).setCell ⟨f,1,none⟩ (X Y n)):=((Fr.refl _ _ aa w1).set_ b1 (by decide) b5 0 _).set_ (b1.set_ 0 _) (by decide) b5 1 _
  refine⟨?_,(hf1.mono (by decide) (by simp)).trans (hfs.mono (by decide) (by simp))⟩
  rw[HF.out]
  exact ar.refile f ⟨p.b.take n,n⟩ hD1 (hfs.mono (by decide) (by simp)) (b6 [] [] aa w1 n (Fr.refl _ _ _ _) (by simp) (by simp) (by omega))
 clear hD1 hf1 b1 b6 CF
 go_wp2_with fail
 go_ret
 exact⟨rfl,HX.out⟩
def ej (D:aF)(f n:Nat)(p:bM):aF:=if n=p.b.length then D else {D.op with fs:=aw D.fs f ⟨p.b.take n,n⟩}
theorem yL (aa lg d mn ms size V nx x f a0 a1 a2 n:Nat)(segs:List Nat)(D:aF)(p:bM)(w:World)(h0:ab w a0 3 #[X Y n])(h1:ab w a1 171 #[PT (some ⟨lg,0,none⟩)])(h2:ab w a2 63 #[PT (some ⟨d,0,none⟩)])
  (hD:ar w aa d mn ms D)(hL:bQ w aa lg d size V nx segs false)(hs:segs.length≤64)(hx:segs.getLast? =some x)(x1:1≤x)(x2:x < 1000000)(bo:D.fail=0)(aP:D.ops≤900000000000)(hm:av D.now (aN x)=some f)(hp:av D.fs f=some p)(hn:n≤p.b.length)(hpl:p.b.length≤1048576):
  Calls Pg 192 #[PT (some ⟨a0,0,none⟩),PT (some ⟨a1,0,none⟩),PT (some ⟨a2,0,none⟩)] w fun e w'=>e=rT (X Y 0)∧ar w' aa d mn ms (ej D f n p)∧Fr KS [] aa w w':=by
 have c0:w.drew.cell? ⟨a0,0,none⟩=some (X Y n)∧w.drew.cell? ⟨a1,0,none⟩=some (PT (some ⟨lg,0,none⟩)):=⟨by have:=h0.cell 0;simpa using this,by have:=h1.cell 0;simpa using this⟩
 have hB:a0 < w.heap.size∧a1 < w.heap.size:=⟨h0.lt,h1.lt⟩
 have hLd:=hL.made (bR w.heap.size w).drew
 have C1:=jH (jd aa lg d size V nx segs false x w.drew hLd hs hx x1 x2)
 have H:=jH (aI hD (aI h0 (aI h1 (aI h2 hL))))
 have HB:=jH (fun W (hb:Below w.heap.size w W)=>si aa lg d mn ms size V nx f segs false D p (aN x) W (hL.made hb) (hD.made hb) (fe (fK x)) hm hp)
 have HCL:=jH (fun W (hb:Below w.heap.size w W)=>jd aa lg d size V nx segs false x W (hL.made hb) hs hx x1 x2)
 have HCC:=jH (fun W (hb:Below w.heap.size w W)=>De aa d mn ms f n D p (aN x) W (hD.made hb) aP bo (fe (fK x)) hm hp hn)
 have HP:Hid (ej D f n p=if n=p.b.length then D else {D.op with fs:=aw D.fs f ⟨p.b.take n,n⟩}):=rfl
 generalize ej D f n p=DX at *
 generalize ({D.op with fs:=aw D.fs f ⟨p.b.take n,n⟩}:aF)=DY at *
 generalize p.b.length=m at *
 generalize aN x=nm at *
 clear h0 h1 h2 hD hL hLd hm hp hx
 go_enter func192,ntmps192
 go_wp2_with fail
 go_region_held3 (fun wS=>wS.cell? ⟨a0,0,none⟩=some (X Y n)∧wS.cell? ⟨a1,0,none⟩=some (PT (some ⟨lg,0,none⟩))) (first|with_reducible exact c0|with_reducible exact e0|with_reducible exact g0|fail)
  (first
   |(go_at_call 194;(with_reducible refine C1.out.mono ?_);rintro e w1 ⟨rfl,ae⟩;have bf:=(bR w.heap.size w).drew.trans ae;have e0:w1.cell? ⟨a0,0,none⟩=some (X Y n)∧w1.cell? ⟨a1,0,none⟩=some (PT (some ⟨lg,0,none⟩)):=⟨(ae.cell hB.1).trans c0.1,(ae.cell hB.2).trans c0.2⟩;have C2:=HB.out w1 bf)
   |(go_at_call 193;(with_reducible refine C2.mono ?_);rintro e w2 ⟨rfl,af⟩;have hb02:=bf.trans (af.mono bf.size);have g0:w2.cell? ⟨a0,0,none⟩=some (X Y n)∧w2.cell? ⟨a1,0,none⟩=some (PT (some ⟨lg,0,none⟩)):=⟨(af.cell (Nat.lt_of_lt_of_le hB.1 ae.size)).trans e0.1,(af.cell (Nat.lt_of_lt_of_le hB.2 ae.size)).trans e0.2⟩))
 all_goals
  have HE:=jH hb02
  clear C2 ae af bf hb02 C1 c0 e0 g0
  by_cases hnm:n=m
  ·subst hnm
   have HX:Hid (DX=D):=by show _=_;rw[HP.out,if_pos rfl]
   have hee:((n:Int)==(n:Int))=true:=by simp
   go_wp2_with fail
   go_ret
   rw[HX.out]
   exact⟨rfl,H.out.1.made HE.out,Fr.of_below _ _ HE.out H.out.1.hi⟩
  ·have HX:Hid (DX=DY):=by show _=_;rw[HP.out,if_neg hnm]
   have hee:((n:Int)==(m:Int))=false:=by simp;omega
   have al:=HE.out.drew
   have CL:=jH (HCL.out w2.drew al)
   have s0:w2.drew.cell? ⟨a0,0,none⟩=some (X Y n)∧w2.drew.cell? ⟨a1,0,none⟩=some (PT (some ⟨lg,0,none⟩))∧w2.drew.cell? ⟨a2,0,none⟩=some (PT (some ⟨d,0,none⟩)):=⟨(H.out.2.1.below al hB.1).cell 0,(H.out.2.2.1.below al hB.2).cell 0,(H.out.2.2.2.1.below al H.out.2.2.2.1.lt).cell 0⟩
   go_wp2_with fail
   go_region_held3 (fun wS=>wS.cell? ⟨a0,0,none⟩=some (X Y n)∧wS.cell? ⟨a1,0,none⟩=some (PT (some ⟨lg,0,none⟩))∧wS.cell? ⟨a2,0,none⟩=some (PT (some ⟨d,0,none⟩))) (first|with_reducible exact s0|with_reducible exact s1|with_reducible exact s2|fail)
    (first
     |(go_at_call 194;(with_reducible refine CL.out.mono ?_);rintro e w3 ⟨rfl,aq⟩;have aK:=al.trans (aq.mono al.size);have s1:w3.cell? ⟨a0,0,none⟩=some (X Y n)∧w3.cell? ⟨a1,0,none⟩=some (PT (some ⟨lg,0,none⟩))∧w3.cell? ⟨a2,0,none⟩=some (PT (some ⟨d,0,none⟩)):=⟨(H.out.2.1.below aK hB.1).cell 0,(H.out.2.2.1.below aK hB.2).cell 0,(H.out.2.2.2.1.below aK H.out.2.2.2.1.lt).cell 0⟩;have CX:=HCC.out w3 aK)
     |(go_at_call 195;(with_reducible refine CX.mono ?_);rintro e w4 ⟨rfl,hD4,hf4⟩;have s2:w4.cell? ⟨a0,0,none⟩=some (X Y n)∧w4.cell? ⟨a1,0,none⟩=some (PT (some ⟨lg,0,none⟩))∧w4.cell? ⟨a2,0,none⟩=some (PT (some ⟨d,0,none⟩)):=⟨(hf4.blk _ _ _ (H.out.2.1.below aK hB.1) (by decide)).cell 0,(hf4.blk _ _ _ (H.out.2.2.1.below aK hB.2) (by decide)).cell 0,(hf4.blk _ _ _ (H.out.2.2.2.1.below aK H.out.2.2.2.1.lt) (by decide)).cell 0⟩))
   all_goals
    have HZ:=jH (aI hD4 ((Fr.of_below KS [] aK H.out.1.hi).trans (hf4.mono (by decide) (by simp))))
    clear CX aq aK hD4 hf4 CL s0 s1 s2
    go_wp2_with fail
    go_ret
    rw[HX.out]
    exact⟨rfl,HZ.out⟩
theorem yK (aa lg d mn ms size V nx x f bd bl:Nat)(segs:List Nat)(D:aF)(p:bM)(w:World)(hd:ab w bd 63 #[PT (some ⟨d,0,none⟩)])(hl:ab w bl 171 #[PT (some ⟨lg,0,none⟩)])
  (hD:ar w aa d mn ms D)(hL:bQ w aa lg d size V nx segs false)(hs:segs.length≤64)(hx:segs.getLast? =some x)(x1:1≤x)(x2:x < 1000000)(bo:D.fail=0)(aP:D.ops≤900000000000)(hm:av D.now (aN x)=some f)(hp:av D.fs f=some p):
  Calls Pg 196 #[PT (some ⟨bd,0,none⟩),PT (some ⟨bl,0,none⟩)] w fun e w'=>e=rT (X Y 0)∧ar w' aa d mn ms (br D f p)∧Fr KS [] aa w w':=by
 have c0:w.drew.cell? ⟨bl,0,none⟩=some (PT (some ⟨lg,0,none⟩))∧w.drew.cell? ⟨bd,0,none⟩=some (PT (some ⟨d,0,none⟩)):=⟨by have:=hl.cell 0;simpa using this,by have:=hd.cell 0;simpa using this⟩
 have hB:bl < w.heap.size∧bd < w.heap.size:=⟨hl.lt,hd.lt⟩
 have hLd:=hL.made (bR w.heap.size w).drew
 have C1:=jH (jd aa lg d size V nx segs false x w.drew hLd hs hx x1 x2)
 have HAP:=jH (fun W (hW:ar W aa d mn ms D)=>jt aa d mn ms D (aN x) W hW aP (fe (fK x)))
 rw[ju bo hm hp] at HAP
 dsimp only at HAP
 have H:=jH (aI hD (aI hl hd))
 generalize br D f p=D2 at *
 generalize aN x=nm at *
 clear hl hD hL hLd hd hm hp hx
 go_enter func196,ntmps196
 go_wp2_with fail
 go_region_held3 (fun wS=>wS.cell? ⟨bl,0,none⟩=some (PT (some ⟨lg,0,none⟩))∧wS.cell? ⟨bd,0,none⟩=some (PT (some ⟨d,0,none⟩))) (first|with_reducible exact c0|with_reducible exact e0|with_reducible exact g0|fail)
  (first
   |(go_at_call 194;(with_reducible refine C1.out.mono ?_);rintro e w1 ⟨rfl,ae⟩;have bf:=(bR w.heap.size w).drew.trans ae;have e0:w1.cell? ⟨bl,0,none⟩=some (PT (some ⟨lg,0,none⟩))∧w1.cell? ⟨bd,0,none⟩=some (PT (some ⟨d,0,none⟩)):=⟨(ae.cell hB.1).trans c0.1,(ae.cell hB.2).trans c0.2⟩;have C2:=HAP.out w1 (H.out.1.made bf))
   |(go_at_call 172;(with_reducible refine C2.mono ?_);rintro e w2 ⟨rfl,hD2,hf2⟩;have g0:w2.cell? ⟨bl,0,none⟩=some (PT (some ⟨lg,0,none⟩))∧w2.cell? ⟨bd,0,none⟩=some (PT (some ⟨d,0,none⟩)):=⟨by {have:=(hf2.blk _ _ _ (H.out.2.1.below bf hB.1) (by decide)).cell 0;simpa using this},by {have:=(hf2.blk _ _ _ (H.out.2.2.below bf hB.2) (by decide)).cell 0;simpa using this}⟩))
 all_goals
  have HE:=jH (aI hD2 ((Fr.of_below KS [] bf H.out.1.hi).trans (hf2.mono (by decide) (by simp))))
  clear C2 ae bf hD2 hf2
  go_wp2_with fail
  go_ret
  exact⟨rfl,HE.out.1,HE.out.2⟩
end
end Go.Proofs.YtgjnoccflmjheaaGreatDoor
