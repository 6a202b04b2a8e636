import Derived.Test.YtgjnoccflmjheaaGreatDoorR03
namespace Go.Proofs.YtgjnoccflmjheaaGreatDoor
set_option linter.unusedVariables false
set_option linter.unusedSimpArgs false
set_option maxHeartbeats 8000000
set_option maxRecDepth 100000
open Value renaming int→X,slice→G,pointer→PT,bool→bL,agg→aG,tuple→tU
open Obj renaming cells→cL
open Ending renaming returned→rT
open Go.Proofs.Tryz
open Go.Proofs.Tryz renaming prog→Pg
open RowKit.Below renaming refl→bR
open IntKind renaming i64→Y,u32→Z
open List renaming getElem?_toArray→ga,getElem?_cons_zero→gz,getElem?_cons_succ→gN
open Lib renaming hid→jH
open Nat renaming le_refl→nR,le_trans→nT,le_succ→nS
open And renaming intro→aI
section
open Go.RowKit Go.Maps
structure eX (w W:World)(q:Nat)(cv:Array Value)(t1:Nat)(tv:Array Value):Prop where
 cfg:ab W q 61 cv
 plan:ab W (q + 1) 116 #[X Y 0,X Y 0,X Y 0,G none 0 0,G none 0 0]
 tu:ab W t1 39 tv
 low:Below w.heap.size w W
theorem eX.made {w W W':World}{q t1:Nat}{cv tv:Array Value}(h:eX w W q cv t1 tv)(hb:Below W.heap.size W W'):eX w W' q cv t1 tv:=
 ⟨h.cfg.below hb h.cfg.lt,h.plan.below hb h.plan.lt,h.tu.below hb h.tu.lt,h.low.trans (hb.mono h.low.size)⟩
theorem lA {w:World}{t1 t2 t4 t5 s2 d2 bid gen now:Nat}{p2 sp2 dp2:Int}{A9:Option Addr}{n9 c9:Nat}(h1:ab w t1 39 #[X Z s2,X Z d2,X Y p2,X Y sp2,X Y dp2])(h2:ab w t2 47 #[X Z 0,X Z 0,X Y 0,X Y 0,X Y 0,X Y 0,X Y 0,X Y 0])(h4:ab w t4 28 #[X Y 2,X Y 0,X Y bid,G A9 n9 c9])(h5:ab w t5 47 #[X Z s2,X Z d2,X Y p2,X Y sp2,X Y dp2,X Y bid,X Y gen,X Y now]):w.cell? ⟨t1,0,none⟩=some (X Z s2)∧w.cell? ⟨t1,1,none⟩=some (X Z d2)∧w.cell? ⟨t1,2,none⟩=some (X Y p2)∧w.cell? ⟨t1,3,none⟩=some (X Y sp2)∧w.cell? ⟨t1,4,none⟩=some (X Y dp2)∧w.cell? ⟨t4,0,none⟩=some (X Y 2)∧w.cell? ⟨t4,1,none⟩=some (X Y 0)∧w.cell? ⟨t4,2,none⟩=some (X Y bid)∧w.cell? ⟨t4,3,none⟩=some (G A9 n9 c9)∧w.cell? ⟨t5,0,none⟩=some (X Z s2)∧w.cell? ⟨t5,1,none⟩=some (X Z d2)∧w.cell? ⟨t5,2,none⟩=some (X Y p2)∧w.cell? ⟨t5,3,none⟩=some (X Y sp2)∧w.cell? ⟨t5,4,none⟩=some (X Y dp2)∧w.cell? ⟨t5,5,none⟩=some (X Y bid)∧w.cell? ⟨t5,6,none⟩=some (X Y gen)∧w.cell? ⟨t5,7,none⟩=some (X Y now)∧w.cell? ⟨t2,5,none⟩=some (X Y 0):=
 ⟨h1.cell 0,h1.cell 1,h1.cell 2,h1.cell 3,h1.cell 4,h4.cell 0,h4.cell 1,h4.cell 2,h4.cell 3,h5.cell 0,h5.cell 1,h5.cell 2,h5.cell 3,h5.cell 4,h5.cell 5,h5.cell 6,h5.cell 7,h2.cell 5⟩
theorem bC.set_new {qp:Nat}{K:List TypeId}{M:List Nat}{aa:Nat}{a w:World}(h:bC qp K M aa a w){g:Nat}(hg:a.heap.size≤g)(hb:aa≤a.heap.size)(i:Nat)(u:Value):bC qp K M aa a (w.setCell ⟨g,i,none⟩ u):=by
 refine⟨⟨h.toFr.below.setCell (p:=⟨g,i,none⟩) (nT hb hg) u,fun g' t cs h0 h1=>(h.toFr.blk g' t cs h0 h1).far (fun e=>?_) u,fun b es c h0 h1=>?_⟩,fun g' cs h0 h1=>(h.que g' cs h0 h1).far (fun e=>?_) u⟩
 ·have h2:g' < a.heap.size:=h0.lt
  have h3:g'=g:=e
  omega
 ·have h2:b < a.heap.size:=(Array.getElem?_eq_some_iff.1 h0).1
  rw[Below.heap_setCell _ _ _ _ (fun e=>by have h3:b=g:=e;omega)]
  exact h.toFr.map b es c h0 h1
 ·have h2:g' < a.heap.size:=h0.lt
  have h3:g'=g:=e
  omega
theorem lP:(Pg.info? 116).map (·.size)=some 5:=by kernel_rfl
theorem BA:jG none=tU #[aG #[X Z 0,X Z 0,X Y 0,X Y 0,X Y 0,X Y 0,X Y 0,X Y 0],bL false]:=rfl
theorem pj (b:Be):b.cells.toArray=#[X Y b.id,X Z b.addr,X Y b.weight]:=rfl
theorem yo (aa tp tm tk qp qm most ah chp ag aj quota V cfl gen now:Nat)(fm:List (Tu×Fl))(il:List It)(bl:List Be)(t:List Int)(made:Int)(A:Option Addr)(n c B:Nat)(l:List Nat)(k:Tu)(b:Be)(bid:Nat)(w:World)
  (hr:Reads w B 1 A n (bv l))(hB:B≤w.heap.size)(hn:n≤100000)(hnc:n≤c)(ha:ay l)(hwhy:cB l=0)(hk:dW l=k)(hkt:bT k)(hend:ft k l=false)
  (hF:cg w aa tp tm tk qp qm most ah fm il)(hC:Ch w chp ag bl t made)(hm:dd ag=true)(an:aa≤w.heap.size)(hg:av fm k=none)(au:fm.length < most)(hpick:iX bl t ag k=(b,true))(hbid:b.id=(bid:Int))(hok:cI ⟨k,bid,gen,now⟩)(aV:now≤1099511627776)
  (CW:∀W,Below w.heap.size w W→Calls Pg 107 #[G A n c,X Z 168364297,X Z b.addr,X Y 1500] W fun e w'=>(∃A' n' c',e=rT (tU #[G A' n' c',X Y 0]))∧Below W.heap.size W w'):
  Calls Pg 41 #[aG #[X Z 168364297,X Y ag,X Y cfl,X Y ah,X Y 1500,X Y aj,X Y quota,X Y V],PT (some ⟨tp,0,none⟩),PT (some ⟨chp,0,none⟩),X Y gen,X Y now,G A n c] w fun e w'=>
   (∃A' n' c' g,e=rT (aG #[X Y 2,X Y 0,X Y bid,G A' n' c',G (some ⟨g,0,none⟩) 1 1])∧w.heap.size≤g∧ab w' g 119 (recC 1 ⟨k,bid,gen,now⟩ 0 (G none 0 0)))∧(∃l',dK il (bD k) now l'∧cg w' aa tp tm tk qp qm most ah (aw fm k ⟨k,bid,gen,now⟩) l')∧bC qp KF [tm,tk,qm] aa w w':=by
 have d1:decide ((now:Int) < 0)=false:=decide_eq_false (by omega)
 have d2:decide ((1099511627776:Int) < (now:Int))=false:=decide_eq_false (by omega)
 have d3:decide ((now:Int) > 1099511627776)=false:=decide_eq_false (by omega)
 obtain⟨q,hq⟩:∃q,q=w.heap.size:=⟨_,rfl⟩
 have hx0:=(ab.new w 61 #[X Z 168364297,X Y ag,X Y cfl,X Y ah,X Y 1500,X Y aj,X Y quota,X Y V]).alloc (cL #[X Y 0,X Y 0,X Y 0,G none 0 0,G none 0 0] 116)
 have hp0:=ab.new (w.alloc (cL #[X Z 168364297,X Y ag,X Y cfl,X Y ah,X Y 1500,X Y aj,X Y quota,X Y V] 61)) 116 #[X Y 0,X Y 0,X Y 0,G none 0 0,G none 0 0]
 have ao:=((bR w.heap.size w).alloc (nR _) (cL #[X Z 168364297,X Y ag,X Y cfl,X Y ah,X Y 1500,X Y aj,X Y quota,X Y V] 61)).alloc (by simp) (cL #[X Y 0,X Y 0,X Y 0,G none 0 0,G none 0 0] 116)
 rw[show (w.alloc (cL #[X Z 168364297,X Y ag,X Y cfl,X Y ah,X Y 1500,X Y aj,X Y quota,X Y V] 61)).heap.size=q + 1 by rw[hq];simp] at hp0
 have HQ:=jH hq
 rw[←hq] at hx0
 have CP:=jH (nw A n c B l ((w.alloc (cL #[X Z 168364297,X Y ag,X Y cfl,X Y ah,X Y 1500,X Y aj,X Y quota,X Y V] 61)).alloc (cL #[X Y 0,X Y 0,X Y 0,G none 0 0,G none 0 0] 116)) (hr.below (ao.mono hB)) (nT hB ao.size) (by omega) hnc ha)
 obtain⟨y0,y1,y2,y3,y4,y5,y6,y7,y8,y9,y10,hv,-,-⟩:=oG l
 rw[hv,hwhy,hk] at CP
 obtain⟨s2,d2,p2,sp2,dp2⟩:=k
 unfold Tu.vals at CP
 dsimp only at CP
 have H:=jH (aI hr (aI hF (aI hC (aI hx0 (aI hp0 ao)))))
 clear hr hF hC hx0 hp0 ao hv
 subst hq
 go_enter func41,ntmps41
 go_wp2_with fail
 refine CP.out.mono ?_
 rintro e w1 ⟨rfl,ae⟩
 clear CP
 have K2:Hid (eX w ((w1.alloc (cL #[X Z s2,X Z d2,X Y p2,X Y sp2,X Y dp2] 39)).alloc (cL #[X Y y0,X Y y1,X Y y2,X Y y3,X Y y4,X Y y5,X Y y6,X Y y7,X Y y8,X Z y9,X Z y10] 132)) w.heap.size #[X Z 168364297,X Y ag,X Y cfl,X Y ah,X Y 1500,X Y aj,X Y quota,X Y V] w1.heap.size #[X Z s2,X Z d2,X Y p2,X Y sp2,X Y dp2]):=by
  obtain⟨g1,g2,g3,g4,g5,g6⟩:=H.out
  have af:Below w1.heap.size w1 ((w1.alloc (cL #[X Z s2,X Z d2,X Y p2,X Y sp2,X Y dp2] 39)).alloc (cL #[X Y y0,X Y y1,X Y y2,X Y y3,X Y y4,X Y y5,X Y y6,X Y y7,X Y y8,X Z y9,X Z y10] 132)):=((bR w1.heap.size w1).alloc (nR _) _).alloc (by simp) _
  have hl:=(g6.trans (ae.mono g6.size))
  exact⟨(g4.below ae g4.lt).below af (g4.below ae g4.lt).lt,(g5.below ae g5.lt).below af (g5.below ae g5.lt).lt,(ab.new w1 _ _).alloc _,hl.trans (af.mono hl.size)⟩
 clear ae
 go_wp2_with fail
 generalize ((w1.alloc (cL #[X Z s2,X Z d2,X Y p2,X Y sp2,X Y dp2] 39)).alloc (cL #[X Y y0,X Y y1,X Y y2,X Y y3,X Y y4,X Y y5,X Y y6,X Y y7,X Y y8,X Z y9,X Z y10] 132))=w2 at K2⊢
 generalize w1.heap.size=t1 at K2⊢
 have CG:=jH (oN aa tp tm tk qp most ah fm ⟨s2,d2,p2,sp2,dp2⟩ hkt w2 (H.out.2.1.tab.made K2.out.low))
 rw[hg,BA] at CG
 unfold bS Tu.vals at CG
 dsimp only at CG
 refine CG.out.mono ?_
 rintro e w3 ⟨rfl,al⟩
 have hb34:=al.trans ((bR w3.heap.size w3).alloc (nR _) (cL #[X Z 0,X Z 0,X Y 0,X Y 0,X Y 0,X Y 0,X Y 0,X Y 0] 47) |>.mono al.size)
 have K4:(fun Vv:World=>Hid (eX w Vv w.heap.size #[X Z 168364297,X Y ag,X Y cfl,X Y ah,X Y 1500,X Y aj,X Y quota,X Y V] t1 #[X Z s2,X Z d2,X Y p2,X Y sp2,X Y dp2]∧ab Vv w3.heap.size 47 #[X Z 0,X Z 0,X Y 0,X Y 0,X Y 0,X Y 0,X Y 0,X Y 0])) (w3.alloc (cL #[X Z 0,X Z 0,X Y 0,X Y 0,X Y 0,X Y 0,X Y 0,X Y 0] 47)):=⟨K2.out.made hb34,ab.new w3 _ _⟩
 clear al hb34 CG K2
 go_wp2_with fail
 generalize (w3.alloc (cL #[X Z 0,X Z 0,X Y 0,X Y 0,X Y 0,X Y 0,X Y 0,X Y 0] 47))=w4 at K4⊢
 generalize w3.heap.size=t2 at K4⊢
 have CF:=jH (oW chp ag bl t made 0 w4 (H.out.2.2.1.below K4.out.1.low))
 rw[pj] at CF
 generalize dT bl 0=fb at CF
 obtain⟨fb,fo⟩:=fb
 dsimp only at CF
 refine CF.out.mono ?_
 rintro e w5 ⟨rfl,aK⟩
 have hb6:=aK.trans ((bR w5.heap.size w5).alloc (nR _) (cL #[X Y fb.id,X Z fb.addr,X Y fb.weight] 34) |>.mono aK.size)
 have K6:(fun Vv:World=>Hid (eX w Vv w.heap.size #[X Z 168364297,X Y ag,X Y cfl,X Y ah,X Y 1500,X Y aj,X Y quota,X Y V] t1 #[X Z s2,X Z d2,X Y p2,X Y sp2,X Y dp2]∧ab Vv t2 47 #[X Z 0,X Z 0,X Y 0,X Y 0,X Y 0,X Y 0,X Y 0,X Y 0]∧ab Vv w5.heap.size 34 #[X Y fb.id,X Z fb.addr,X Y fb.weight]∧w.heap.size≤w5.heap.size)) (w5.alloc (cL #[X Y fb.id,X Z fb.addr,X Y fb.weight] 34)):=⟨K4.out.1.made hb6,K4.out.2.below hb6 K4.out.2.lt,ab.new w5 _ _,nT K4.out.1.low.size aK.size⟩
 clear aK hb6 CF K4
 obtain⟨u0,u1,u2,u3,u4⟩:=K6.out.1.tu.c5
 go_wp2_with fail
 clear u0 u1 u2 u3 u4
 generalize (w5.alloc (cL #[X Y fb.id,X Z fb.addr,X Y fb.weight] 34))=w6 at K6⊢
 generalize w5.heap.size=t3 at K6⊢
 have CK:=jH (D3 chp ag bl t made ⟨s2,d2,p2,sp2,dp2⟩ hkt w6 (H.out.2.2.1.below K6.out.1.low) hm)
 rw[hpick,pj] at CK
 unfold Tu.vals at CK
 dsimp only at CK
 refine CK.out.mono ?_
 rintro e w7 ⟨rfl,hb7⟩
 have K7:Hid (eX w w7 w.heap.size #[X Z 168364297,X Y ag,X Y cfl,X Y ah,X Y 1500,X Y aj,X Y quota,X Y V] t1 #[X Z s2,X Z d2,X Y p2,X Y sp2,X Y dp2]∧ab w7 t2 47 #[X Z 0,X Z 0,X Y 0,X Y 0,X Y 0,X Y 0,X Y 0,X Y 0]∧ab w7 t3 34 #[X Y fb.id,X Z fb.addr,X Y fb.weight]∧w.heap.size≤t3):=⟨K6.out.1.made hb7,K6.out.2.1.below hb7 K6.out.2.1.lt,K6.out.2.2.1.below hb7 K6.out.2.2.1.lt,K6.out.2.2.2⟩
 clear hb7 CK K6
 obtain⟨e0,e1,e2⟩:=K7.out.2.2.1.c3
 obtain⟨z0,z1,z2⟩:=K7.out.2.2.1.f3
 obtain⟨p0,-,-,-,p4⟩:=K7.out.1.cfg.c5
 have hn1:w.heap.size≠t3:=K7.out.1.cfg.ne_ K7.out.2.2.1 (by decide)
 have hn2:t3≠w.heap.size:=fun e=>hn1 e.symm
 go_wp2_with fail
 have K8:(fun Vv:World=>Hid (eX w Vv w.heap.size #[X Z 168364297,X Y ag,X Y cfl,X Y ah,X Y 1500,X Y aj,X Y quota,X Y V] t1 #[X Z s2,X Z d2,X Y p2,X Y sp2,X Y dp2]∧ab Vv t2 47 #[X Z 0,X Z 0,X Y 0,X Y 0,X Y 0,X Y 0,X Y 0,X Y 0]∧ab Vv t3 34 #[X Y bid,X Z b.addr,X Y b.weight])) (((w7.setCell ⟨t3,0,none⟩ (X Y bid)).setCell ⟨t3,1,none⟩ (X Z b.addr)).setCell ⟨t3,2,none⟩ (X Y b.weight)):=by
  obtain⟨⟨g1,gp,gt,gl⟩,g2,g3,g4⟩:=K7.out
  exact⟨⟨((((g1).far (p:=⟨t3,0,none⟩) (g1.ne_ g3 (by decide)) _).far (p:=⟨t3,1,none⟩) (g1.ne_ g3 (by decide)) _).far (p:=⟨t3,2,none⟩) (g1.ne_ g3 (by decide)) _),((((gp).far (p:=⟨t3,0,none⟩) (gp.ne_ g3 (by decide)) _).far (p:=⟨t3,1,none⟩) (gp.ne_ g3 (by decide)) _).far (p:=⟨t3,2,none⟩) (gp.ne_ g3 (by decide)) _),((((gt).far (p:=⟨t3,0,none⟩) (gt.ne_ g3 (by decide)) _).far (p:=⟨t3,1,none⟩) (gt.ne_ g3 (by decide)) _).far (p:=⟨t3,2,none⟩) (gt.ne_ g3 (by decide)) _),((gl.setCell (p:=⟨t3,0,none⟩) g4 _).setCell (p:=⟨t3,1,none⟩) g4 _).setCell (p:=⟨t3,2,none⟩) g4 _⟩,((((g2).far (p:=⟨t3,0,none⟩) (g2.ne_ g3 (by decide)) _).far (p:=⟨t3,1,none⟩) (g2.ne_ g3 (by decide)) _).far (p:=⟨t3,2,none⟩) (g2.ne_ g3 (by decide)) _),((g3.set_ 0 _).set_ 1 _).set_ 2 _⟩
 generalize (((w7.setCell ⟨t3,0,none⟩ (X Y bid)).setCell ⟨t3,1,none⟩ (X Z b.addr)).setCell ⟨t3,2,none⟩ (X Y b.weight))=w8 at K8⊢
 clear e0 e1 e2 z0 z1 z2 p0 p4 K7 hn1 hn2
 refine(CW w8 K8.out.1.low).mono ?_
 rintro e w9 ⟨⟨A9,n9,c9,rfl⟩,hb9⟩
 have K9:Hid (eX w w9 w.heap.size #[X Z 168364297,X Y ag,X Y cfl,X Y ah,X Y 1500,X Y aj,X Y quota,X Y V] t1 #[X Z s2,X Z d2,X Y p2,X Y sp2,X Y dp2]∧ab w9 t2 47 #[X Z 0,X Z 0,X Y 0,X Y 0,X Y 0,X Y 0,X Y 0,X Y 0]∧ab w9 t3 34 #[X Y bid,X Z b.addr,X Y b.weight]):=⟨K8.out.1.made hb9,K8.out.2.1.below hb9 K8.out.2.1.lt,K8.out.2.2.below hb9 K8.out.2.2.lt⟩
 clear hb9 K8
 have e0:=K9.out.2.2.c1
 obtain⟨u0,u1,u2,u3,u4⟩:=K9.out.1.tu.c5
 have OV:=K9.out.2.2.alloc (cL #[X Y 2,X Y 0,X Y bid,G A9 n9 c9] 28)
 have v0:=OV.c1
 have UV:=K9.out.1.tu.alloc (cL #[X Y 2,X Y 0,X Y bid,G A9 n9 c9] 28)
 obtain⟨x0,x1,x2,x3,x4⟩:=UV.c5
 clear OV UV
 go_wp2_with fail
 have K10:(fun Vv:World=>Hid (eX w Vv w.heap.size #[X Z 168364297,X Y ag,X Y cfl,X Y ah,X Y 1500,X Y aj,X Y quota,X Y V] t1 #[X Z s2,X Z d2,X Y p2,X Y sp2,X Y dp2]∧ab Vv t2 47 #[X Z 0,X Z 0,X Y 0,X Y 0,X Y 0,X Y 0,X Y 0,X Y 0]∧ab Vv w9.heap.size 28 #[X Y 2,X Y 0,X Y bid,G A9 n9 c9]∧ab Vv (w9.heap.size + 1) 47 #[X Z s2,X Z d2,X Y p2,X Y sp2,X Y dp2,X Y bid,X Y gen,X Y now])) ((w9.alloc (cL #[X Y 2,X Y 0,X Y bid,G A9 n9 c9] 28)).alloc (cL #[X Z s2,X Z d2,X Y p2,X Y sp2,X Y dp2,X Y bid,X Y gen,X Y now] 47)):=by
  have hb:Below w9.heap.size w9 ((w9.alloc (cL #[X Y 2,X Y 0,X Y bid,G A9 n9 c9] 28)).alloc (cL #[X Z s2,X Z d2,X Y p2,X Y sp2,X Y dp2,X Y bid,X Y gen,X Y now] 47)):=((bR w9.heap.size w9).alloc (nR _) _).alloc (by simp) _
  exact⟨K9.out.1.made hb,K9.out.2.1.below hb K9.out.2.1.lt,(ab.new w9 _ _).alloc _,ab.new_ (by simp)⟩
 generalize ((w9.alloc (cL #[X Y 2,X Y 0,X Y bid,G A9 n9 c9] 28)).alloc (cL #[X Z s2,X Z d2,X Y p2,X Y sp2,X Y dp2,X Y bid,X Y gen,X Y now] 47))=w10 at K10⊢
 generalize w9.heap.size=t4 at K10⊢
 clear e0 u0 u1 u2 u3 u4 v0 x0 x1 x2 x3 x4 K9
 obtain⟨t5,ht5⟩:∃t5,t5=t4 + 1:=⟨_,rfl⟩
 rw[←ht5] at K10⊢
 clear ht5
 have CE:=th ⟨s2,d2,p2,sp2,dp2⟩ A n c B l w10.drew ((H.out.1.below (K10.out.1.low.mono hB)).drew) (nT hB K10.out.1.low.size) (by omega) hnc ha
 rw[hend] at CE
 unfold Tu.vals at CE
 dsimp only at CE
 have HE:=jH CE
 have CK:=jH (fun W hW=>Au aa tp tm tk qp qm most ah fm il ⟨⟨s2,d2,p2,sp2,dp2⟩,bid,gen,now⟩ 0 hok W (H.out.2.1.fr (Fr.of_below [] [] hW an) (by simp) (by simp) (by simp) (by simp) (by simp) (by simp) (by simp)) hg au (nT an hW.size))
 unfold bj Fl.vals at CK
 dsimp only at CK
 clear CE
 have d0:=lA K10.out.1.tu.drew K10.out.2.1.drew K10.out.2.2.1.drew K10.out.2.2.2.drew
 go_region_held3 (fun wS=>wS.cell? ⟨t1,0,none⟩=some (X Z s2)∧wS.cell? ⟨t1,1,none⟩=some (X Z d2)∧wS.cell? ⟨t1,2,none⟩=some (X Y p2)∧wS.cell? ⟨t1,3,none⟩=some (X Y sp2)∧wS.cell? ⟨t1,4,none⟩=some (X Y dp2)∧wS.cell? ⟨t4,0,none⟩=some (X Y 2)∧wS.cell? ⟨t4,1,none⟩=some (X Y 0)∧wS.cell? ⟨t4,2,none⟩=some (X Y bid)∧wS.cell? ⟨t4,3,none⟩=some (G A9 n9 c9)∧wS.cell? ⟨t5,0,none⟩=some (X Z s2)∧wS.cell? ⟨t5,1,none⟩=some (X Z d2)∧wS.cell? ⟨t5,2,none⟩=some (X Y p2)∧wS.cell? ⟨t5,3,none⟩=some (X Y sp2)∧wS.cell? ⟨t5,4,none⟩=some (X Y dp2)∧wS.cell? ⟨t5,5,none⟩=some (X Y bid)∧wS.cell? ⟨t5,6,none⟩=some (X Y gen)∧wS.cell? ⟨t5,7,none⟩=some (X Y now)∧wS.cell? ⟨t2,5,none⟩=some (X Y 0)) (first|with_reducible exact d0|with_reducible exact e0|with_reducible exact g0|with_reducible exact h1 _ _ _ _ _|fail)
  (first
   |(go_at_call 109;(with_reducible refine HE.out.mono ?_);rintro e w11 ⟨rfl,hb11⟩;have k1:=K10.out.1.tu.drew.below hb11 K10.out.1.tu.lt;have k2:=K10.out.2.1.drew.below hb11 K10.out.2.1.lt;have k4:=K10.out.2.2.1.drew.below hb11 K10.out.2.2.1.lt;have k5:=K10.out.2.2.2.drew.below hb11 K10.out.2.2.2.lt;have e0:=lA k1 k2 k4 k5;have hl11:=K10.out.1.low.drew.trans (hb11.mono K10.out.1.low.size);have C2:=CK.out w11 hl11)
   |(go_at_call 108;(with_reducible refine C2.mono ?_);rintro e w12 ⟨⟨rb,rfl,hrb,hrec⟩,hfl,hf12⟩;have kp:=hf12.blk _ _ _ (K10.out.1.plan.drew.below hb11 K10.out.1.plan.lt) (by decide);have m1:=hf12.blk _ _ _ k1 (by decide);have m2:=hf12.blk _ _ _ k2 (by decide);have m4:=hf12.blk _ _ _ k4 (by decide);have m5:=hf12.blk _ _ _ k5 (by decide);have g0:=lA m1 m2 m4 m5;have s0:=kp.cell 0;have s1:=kp.cell 1;have s2':=kp.cell 2;have s3:=kp.cell 3;have s4:=kp.cell 4;have z0:=kp.frozen 0;have z1:=kp.frozen 1;have z2:=kp.frozen 2;have z3:=kp.frozen 3;have z4:=kp.frozen 4;(simp only[ga,gz,gN] at s0 s1 s2' s3 s4);have h1:=fun v0 v1 v2 v3 v4=>lA (((((m1.far (p:=⟨w.heap.size + 1,0,none⟩) (m1.ne_ kp (by decide)) v0).far (p:=⟨w.heap.size + 1,1,none⟩) (m1.ne_ kp (by decide)) v1).far (p:=⟨w.heap.size + 1,2,none⟩) (m1.ne_ kp (by decide)) v2).far (p:=⟨w.heap.size + 1,3,none⟩) (m1.ne_ kp (by decide)) v3).far (p:=⟨w.heap.size + 1,4,none⟩) (m1.ne_ kp (by decide)) v4) (((((m2.far (p:=⟨w.heap.size + 1,0,none⟩) (m2.ne_ kp (by decide)) v0).far (p:=⟨w.heap.size + 1,1,none⟩) (m2.ne_ kp (by decide)) v1).far (p:=⟨w.heap.size + 1,2,none⟩) (m2.ne_ kp (by decide)) v2).far (p:=⟨w.heap.size + 1,3,none⟩) (m2.ne_ kp (by decide)) v3).far (p:=⟨w.heap.size + 1,4,none⟩) (m2.ne_ kp (by decide)) v4) (((((m4.far (p:=⟨w.heap.size + 1,0,none⟩) (m4.ne_ kp (by decide)) v0).far (p:=⟨w.heap.size + 1,1,none⟩) (m4.ne_ kp (by decide)) v1).far (p:=⟨w.heap.size + 1,2,none⟩) (m4.ne_ kp (by decide)) v2).far (p:=⟨w.heap.size + 1,3,none⟩) (m4.ne_ kp (by decide)) v3).far (p:=⟨w.heap.size + 1,4,none⟩) (m4.ne_ kp (by decide)) v4) (((((m5.far (p:=⟨w.heap.size + 1,0,none⟩) (m5.ne_ kp (by decide)) v0).far (p:=⟨w.heap.size + 1,1,none⟩) (m5.ne_ kp (by decide)) v1).far (p:=⟨w.heap.size + 1,2,none⟩) (m5.ne_ kp (by decide)) v2).far (p:=⟨w.heap.size + 1,3,none⟩) (m5.ne_ kp (by decide)) v3).far (p:=⟨w.heap.size + 1,4,none⟩) (m5.ne_ kp (by decide)) v4)))
 have hq0:bC qp KF [tm,tk,qm] aa w w12:=(((Fr.of_below [] [] hl11 an).q qp (by simp)).mono (by simp) (by simp)).trans hf12
 have hq1:=(((((hq0.set_new (nS _) an 0 (X Y 2)).set_new (nS _) an 1 (X Y 0)).set_new (nS _) an 2 (X Y bid)).set_new (nS _) an 3 (G A9 n9 c9)).set_new (nS _) an 4 (G (some ⟨rb,0,none⟩) 1 1))
 have hpl:=(((((kp.set_ 0 (X Y 2)).set_ 1 (X Y 0)).set_ 2 (X Y bid)).set_ 3 (G A9 n9 c9)).set_ 4 (G (some ⟨rb,0,none⟩) 1 1))
 have hrc:=(((((hrec.far (p:=⟨w.heap.size + 1,0,none⟩) (hrec.ne_ kp (by decide)) (X Y 2)).far (p:=⟨w.heap.size + 1,1,none⟩) (hrec.ne_ kp (by decide)) (X Y 0)).far (p:=⟨w.heap.size + 1,2,none⟩) (hrec.ne_ kp (by decide)) (X Y bid)).far (p:=⟨w.heap.size + 1,3,none⟩) (hrec.ne_ kp (by decide)) (G A9 n9 c9)).far (p:=⟨w.heap.size + 1,4,none⟩) (hrec.ne_ kp (by decide)) (G (some ⟨rb,0,none⟩) 1 1))
 have hfr:=((((((Fr.refl [116] [] aa w12).set_ kp (by simp) (nT an (nS _)) 0 (X Y 2)).set_ (kp.set_ 0 (X Y 2)) (by simp) (nT an (nS _)) 1 (X Y 0)).set_ ((kp.set_ 0 (X Y 2)).set_ 1 (X Y 0)) (by simp) (nT an (nS _)) 2 (X Y bid)).set_ (((kp.set_ 0 (X Y 2)).set_ 1 (X Y 0)).set_ 2 (X Y bid)) (by simp) (nT an (nS _)) 3 (G A9 n9 c9)).set_ ((((kp.set_ 0 (X Y 2)).set_ 1 (X Y 0)).set_ 2 (X Y bid)).set_ 3 (G A9 n9 c9)) (by simp) (nT an (nS _)) 4 (G (some ⟨rb,0,none⟩) 1 1))
 have HF:Hid (_∧_∧_∧_):=⟨hpl,hrc,(match hfl with|⟨l',ha,hb⟩=>(⟨l',ha,hb.fr hfr (by decide) (by decide) (by decide) (by decide) (by simp) (by simp) (by simp)⟩:∃l',dK il (bD ⟨s2,d2,p2,sp2,dp2⟩) now l'∧cg _ aa tp tm tk qp qm most ah (aw fm ⟨s2,d2,p2,sp2,dp2⟩ ⟨⟨s2,d2,p2,sp2,dp2⟩,bid,gen,now⟩) l')),hq1⟩
 have hle:w.heap.size≤rb:=nT hl11.size hrb
 clear hq0 hq1 hpl hrc hfr hfl hf12 hrec kp m1 m2 m4 m5 g0 s0 s1 s2' s3 s4 z0 z1 z2 z3 z4 h1 C2 e0 k1 k2 k4 k5 hb11 hl11 d0 HE CK K10
 go_wp2_with fail
 refine bodyPost_ret (results_cell_row rfl _ _ (w.heap.size + 1) 116 #[X Y 2,X Y 0,X Y bid,G A9 n9 c9,G (some ⟨rb,0,none⟩) 1 1] (0,0) _ rfl HF.out.1 underlying116 rfl lP) rfl ?_
 exact⟨⟨A9,n9,c9,rb,rfl,hle,HF.out.2.1⟩,HF.out.2.2.1,HF.out.2.2.2⟩
theorem lB {w:World}{t1 t2 t4 t5 s2 d2 fbe fgen fseen gen now:Nat}{p2 sp2 dp2:Int}{A9:Option Addr}{n9 c9:Nat}(h1:ab w t1 39 #[X Z s2,X Z d2,X Y p2,X Y sp2,X Y dp2])(h2:ab w t2 47 #[X Z s2,X Z d2,X Y p2,X Y sp2,X Y dp2,X Y fbe,X Y fgen,X Y fseen])(h4:ab w t4 28 #[X Y 2,X Y 0,X Y fbe,G A9 n9 c9])(h5:ab w t5 47 #[X Z s2,X Z d2,X Y p2,X Y sp2,X Y dp2,X Y fbe,X Y gen,X Y now]):w.cell? ⟨t1,0,none⟩=some (X Z s2)∧w.cell? ⟨t1,1,none⟩=some (X Z d2)∧w.cell? ⟨t1,2,none⟩=some (X Y p2)∧w.cell? ⟨t1,3,none⟩=some (X Y sp2)∧w.cell? ⟨t1,4,none⟩=some (X Y dp2)∧w.cell? ⟨t4,0,none⟩=some (X Y 2)∧w.cell? ⟨t4,1,none⟩=some (X Y 0)∧w.cell? ⟨t4,2,none⟩=some (X Y fbe)∧w.cell? ⟨t4,3,none⟩=some (G A9 n9 c9)∧w.cell? ⟨t5,0,none⟩=some (X Z s2)∧w.cell? ⟨t5,1,none⟩=some (X Z d2)∧w.cell? ⟨t5,2,none⟩=some (X Y p2)∧w.cell? ⟨t5,3,none⟩=some (X Y sp2)∧w.cell? ⟨t5,4,none⟩=some (X Y dp2)∧w.cell? ⟨t5,5,none⟩=some (X Y fbe)∧w.cell? ⟨t5,6,none⟩=some (X Y gen)∧w.cell? ⟨t5,7,none⟩=some (X Y now)∧w.cell? ⟨t2,5,none⟩=some (X Y fbe):=
 ⟨h1.cell 0,h1.cell 1,h1.cell 2,h1.cell 3,h1.cell 4,h4.cell 0,h4.cell 1,h4.cell 2,h4.cell 3,h5.cell 0,h5.cell 1,h5.cell 2,h5.cell 3,h5.cell 4,h5.cell 5,h5.cell 6,h5.cell 7,h2.cell 5⟩
theorem yp (aa tp tm tk qp qm most ah chp ag aj quota V cfl gen now:Nat)(fm:List (Tu×Fl))(il:List It)(bl:List Be)(t:List Int)(made:Int)(A:Option Addr)(n c B:Nat)(l:List Nat)(k:Tu)(b:Be)(f:Fl)(w:World)
  (hr:Reads w B 1 A n (bv l))(hB:B≤w.heap.size)(hn:n≤100000)(hnc:n≤c)(ha:ay l)(hwhy:cB l=0)(hk:dW l=k)(hkt:bT k)(hend:ft k l=false)
  (hF:cg w aa tp tm tk qp qm most ah fm il)(hC:Ch w chp ag bl t made)(hm:dd ag=true)(an:aa≤w.heap.size)(hg:av fm k=some f)(hfk:f.k=k)(hfind:dT bl (f.be:Int)=(b,true))(hbid:b.id=(f.be:Int))(hle:f.seen≤now)(aV:now≤1099511627776)
  (CW:∀W,Below w.heap.size w W→Calls Pg 107 #[G A n c,X Z 168364297,X Z b.addr,X Y 1500] W fun e w'=>(∃A' n' c',e=rT (tU #[G A' n' c',X Y 0]))∧Below W.heap.size W w'):
  Calls Pg 41 #[aG #[X Z 168364297,X Y ag,X Y cfl,X Y ah,X Y 1500,X Y aj,X Y quota,X Y V],PT (some ⟨tp,0,none⟩),PT (some ⟨chp,0,none⟩),X Y gen,X Y now,G A n c] w fun e w'=>
   (∃A' n' c',e=rT (aG #[X Y 2,X Y 0,X Y f.be,G A' n' c',G none 0 0]))∧(∃l',dK il (bD k) now l'∧cg w' aa tp tm tk qp qm most ah (aw fm k {f with seen:=now}) l')∧bC qp KF [tm,tk,qm] aa w w':=by
 have d1:decide ((now:Int) < 0)=false:=decide_eq_false (by omega)
 have d2:decide ((1099511627776:Int) < (now:Int))=false:=decide_eq_false (by omega)
 have d3:decide ((now:Int) > 1099511627776)=false:=decide_eq_false (by omega)
 obtain⟨fk,fbe,fgen,fseen⟩:=f
 dsimp only at hfk hfind hbid hle⊢
 subst hfk
 obtain⟨q,hq⟩:∃q,q=w.heap.size:=⟨_,rfl⟩
 have hx0:=(ab.new w 61 #[X Z 168364297,X Y ag,X Y cfl,X Y ah,X Y 1500,X Y aj,X Y quota,X Y V]).alloc (cL #[X Y 0,X Y 0,X Y 0,G none 0 0,G none 0 0] 116)
 have hp0:=ab.new (w.alloc (cL #[X Z 168364297,X Y ag,X Y cfl,X Y ah,X Y 1500,X Y aj,X Y quota,X Y V] 61)) 116 #[X Y 0,X Y 0,X Y 0,G none 0 0,G none 0 0]
 have ao:=((bR w.heap.size w).alloc (nR _) (cL #[X Z 168364297,X Y ag,X Y cfl,X Y ah,X Y 1500,X Y aj,X Y quota,X Y V] 61)).alloc (by simp) (cL #[X Y 0,X Y 0,X Y 0,G none 0 0,G none 0 0] 116)
 rw[show (w.alloc (cL #[X Z 168364297,X Y ag,X Y cfl,X Y ah,X Y 1500,X Y aj,X Y quota,X Y V] 61)).heap.size=q + 1 by rw[hq];simp] at hp0
 have HQ:=jH hq
 rw[←hq] at hx0
 have CP:=jH (nw A n c B l ((w.alloc (cL #[X Z 168364297,X Y ag,X Y cfl,X Y ah,X Y 1500,X Y aj,X Y quota,X Y V] 61)).alloc (cL #[X Y 0,X Y 0,X Y 0,G none 0 0,G none 0 0] 116)) (hr.below (ao.mono hB)) (nT hB ao.size) (by omega) hnc ha)
 obtain⟨y0,y1,y2,y3,y4,y5,y6,y7,y8,y9,y10,hv,-,-⟩:=oG l
 rw[hv,hwhy,hk] at CP
 obtain⟨s2,d2,p2,sp2,dp2⟩:=fk
 unfold Tu.vals at CP
 dsimp only at CP
 have H:=jH (aI hr (aI hF (aI hC (aI hx0 (aI hp0 ao)))))
 clear hr hF hC hx0 hp0 ao hv
 subst hq
 go_enter func41,ntmps41
 go_wp2_with fail
 refine CP.out.mono ?_
 rintro e w1 ⟨rfl,ae⟩
 clear CP
 have K2:Hid (eX w ((w1.alloc (cL #[X Z s2,X Z d2,X Y p2,X Y sp2,X Y dp2] 39)).alloc (cL #[X Y y0,X Y y1,X Y y2,X Y y3,X Y y4,X Y y5,X Y y6,X Y y7,X Y y8,X Z y9,X Z y10] 132)) w.heap.size #[X Z 168364297,X Y ag,X Y cfl,X Y ah,X Y 1500,X Y aj,X Y quota,X Y V] w1.heap.size #[X Z s2,X Z d2,X Y p2,X Y sp2,X Y dp2]):=by
  obtain⟨g1,g2,g3,g4,g5,g6⟩:=H.out
  have af:Below w1.heap.size w1 ((w1.alloc (cL #[X Z s2,X Z d2,X Y p2,X Y sp2,X Y dp2] 39)).alloc (cL #[X Y y0,X Y y1,X Y y2,X Y y3,X Y y4,X Y y5,X Y y6,X Y y7,X Y y8,X Z y9,X Z y10] 132)):=((bR w1.heap.size w1).alloc (nR _) _).alloc (by simp) _
  have hl:=(g6.trans (ae.mono g6.size))
  exact⟨(g4.below ae g4.lt).below af (g4.below ae g4.lt).lt,(g5.below ae g5.lt).below af (g5.below ae g5.lt).lt,(ab.new w1 _ _).alloc _,hl.trans (af.mono hl.size)⟩
 clear ae
 go_wp2_with fail
 generalize ((w1.alloc (cL #[X Z s2,X Z d2,X Y p2,X Y sp2,X Y dp2] 39)).alloc (cL #[X Y y0,X Y y1,X Y y2,X Y y3,X Y y4,X Y y5,X Y y6,X Y y7,X Y y8,X Z y9,X Z y10] 132))=w2 at K2⊢
 generalize w1.heap.size=t1 at K2⊢
 have CG:=jH (oN aa tp tm tk qp most ah fm ⟨s2,d2,p2,sp2,dp2⟩ hkt w2 (H.out.2.1.tab.made K2.out.low))
 rw[hg] at CG
 unfold jG bj Fl.vals at CG
 unfold bS Tu.vals at CG
 dsimp only at CG
 refine CG.out.mono ?_
 rintro e w3 ⟨rfl,al⟩
 have hb34:=al.trans ((bR w3.heap.size w3).alloc (nR _) (cL #[X Z s2,X Z d2,X Y p2,X Y sp2,X Y dp2,X Y fbe,X Y fgen,X Y fseen] 47) |>.mono al.size)
 have K4:(fun Vv:World=>Hid (eX w Vv w.heap.size #[X Z 168364297,X Y ag,X Y cfl,X Y ah,X Y 1500,X Y aj,X Y quota,X Y V] t1 #[X Z s2,X Z d2,X Y p2,X Y sp2,X Y dp2]∧ab Vv w3.heap.size 47 #[X Z s2,X Z d2,X Y p2,X Y sp2,X Y dp2,X Y fbe,X Y fgen,X Y fseen])) (w3.alloc (cL #[X Z s2,X Z d2,X Y p2,X Y sp2,X Y dp2,X Y fbe,X Y fgen,X Y fseen] 47)):=⟨K2.out.made hb34,ab.new w3 _ _⟩
 clear al hb34 CG K2
 go_wp2_with fail
 generalize (w3.alloc (cL #[X Z s2,X Z d2,X Y p2,X Y sp2,X Y dp2,X Y fbe,X Y fgen,X Y fseen] 47))=w4 at K4⊢
 generalize w3.heap.size=t2 at K4⊢
 have CF:=jH (oW chp ag bl t made (fbe:Int) w4 (H.out.2.2.1.below K4.out.1.low))
 rw[hfind,pj] at CF
 dsimp only at CF
 rw[hbid] at CF
 refine CF.out.mono ?_
 rintro e w5 ⟨rfl,aK⟩
 have hb6:=aK.trans ((bR w5.heap.size w5).alloc (nR _) (cL #[X Y fbe,X Z b.addr,X Y b.weight] 34) |>.mono aK.size)
 have K6:(fun Vv:World=>Hid (eX w Vv w.heap.size #[X Z 168364297,X Y ag,X Y cfl,X Y ah,X Y 1500,X Y aj,X Y quota,X Y V] t1 #[X Z s2,X Z d2,X Y p2,X Y sp2,X Y dp2]∧ab Vv t2 47 #[X Z s2,X Z d2,X Y p2,X Y sp2,X Y dp2,X Y fbe,X Y fgen,X Y fseen]∧ab Vv w5.heap.size 34 #[X Y fbe,X Z b.addr,X Y b.weight]∧w.heap.size≤w5.heap.size)) (w5.alloc (cL #[X Y fbe,X Z b.addr,X Y b.weight] 34)):=⟨K4.out.1.made hb6,K4.out.2.below hb6 K4.out.2.lt,ab.new w5 _ _,nT K4.out.1.low.size aK.size⟩
 clear aK hb6 CF K4
 obtain⟨p0,-,-,-,p4⟩:=K6.out.1.cfg.c5
 obtain⟨-,e1⟩:=K6.out.2.2.1.c2
 go_wp2_with fail
 clear p0 p4 e1
 have K8:(fun Vv:World=>Hid (eX w Vv w.heap.size #[X Z 168364297,X Y ag,X Y cfl,X Y ah,X Y 1500,X Y aj,X Y quota,X Y V] t1 #[X Z s2,X Z d2,X Y p2,X Y sp2,X Y dp2]∧ab Vv t2 47 #[X Z s2,X Z d2,X Y p2,X Y sp2,X Y dp2,X Y fbe,X Y fgen,X Y fseen]∧ab Vv w5.heap.size 34 #[X Y fbe,X Z b.addr,X Y b.weight])) (w5.alloc (cL #[X Y fbe,X Z b.addr,X Y b.weight] 34)):=⟨K6.out.1,K6.out.2.1,K6.out.2.2.1⟩
 generalize (w5.alloc (cL #[X Y fbe,X Z b.addr,X Y b.weight] 34))=w8 at K8⊢
 generalize w5.heap.size=t3 at K8⊢
 clear K6
 refine(CW w8 K8.out.1.low).mono ?_
 rintro e w9 ⟨⟨A9,n9,c9,rfl⟩,hb9⟩
 have K9:Hid (eX w w9 w.heap.size #[X Z 168364297,X Y ag,X Y cfl,X Y ah,X Y 1500,X Y aj,X Y quota,X Y V] t1 #[X Z s2,X Z d2,X Y p2,X Y sp2,X Y dp2]∧ab w9 t2 47 #[X Z s2,X Z d2,X Y p2,X Y sp2,X Y dp2,X Y fbe,X Y fgen,X Y fseen]∧ab w9 t3 34 #[X Y fbe,X Z b.addr,X Y b.weight]):=⟨K8.out.1.made hb9,K8.out.2.1.below hb9 K8.out.2.1.lt,K8.out.2.2.below hb9 K8.out.2.2.lt⟩
 clear hb9 K8
 have e0:=K9.out.2.2.c1
 obtain⟨u0,u1,u2,u3,u4⟩:=K9.out.1.tu.c5
 have OV:=K9.out.2.2.alloc (cL #[X Y 2,X Y 0,X Y fbe,G A9 n9 c9] 28)
 have v0:=OV.c1
 have UV:=K9.out.1.tu.alloc (cL #[X Y 2,X Y 0,X Y fbe,G A9 n9 c9] 28)
 obtain⟨x0,x1,x2,x3,x4⟩:=UV.c5
 clear OV UV
 go_wp2_with fail
 have K10:(fun Vv:World=>Hid (eX w Vv w.heap.size #[X Z 168364297,X Y ag,X Y cfl,X Y ah,X Y 1500,X Y aj,X Y quota,X Y V] t1 #[X Z s2,X Z d2,X Y p2,X Y sp2,X Y dp2]∧ab Vv t2 47 #[X Z s2,X Z d2,X Y p2,X Y sp2,X Y dp2,X Y fbe,X Y fgen,X Y fseen]∧ab Vv w9.heap.size 28 #[X Y 2,X Y 0,X Y fbe,G A9 n9 c9]∧ab Vv (w9.heap.size + 1) 47 #[X Z s2,X Z d2,X Y p2,X Y sp2,X Y dp2,X Y fbe,X Y gen,X Y now])) ((w9.alloc (cL #[X Y 2,X Y 0,X Y fbe,G A9 n9 c9] 28)).alloc (cL #[X Z s2,X Z d2,X Y p2,X Y sp2,X Y dp2,X Y fbe,X Y gen,X Y now] 47)):=by
  have hb:Below w9.heap.size w9 ((w9.alloc (cL #[X Y 2,X Y 0,X Y fbe,G A9 n9 c9] 28)).alloc (cL #[X Z s2,X Z d2,X Y p2,X Y sp2,X Y dp2,X Y fbe,X Y gen,X Y now] 47)):=((bR w9.heap.size w9).alloc (nR _) _).alloc (by simp) _
  exact⟨K9.out.1.made hb,K9.out.2.1.below hb K9.out.2.1.lt,(ab.new w9 _ _).alloc _,ab.new_ (by simp)⟩
 generalize ((w9.alloc (cL #[X Y 2,X Y 0,X Y fbe,G A9 n9 c9] 28)).alloc (cL #[X Z s2,X Z d2,X Y p2,X Y sp2,X Y dp2,X Y fbe,X Y gen,X Y now] 47))=w10 at K10⊢
 generalize w9.heap.size=t4 at K10⊢
 clear e0 u0 u1 u2 u3 u4 v0 x0 x1 x2 x3 x4 K9
 obtain⟨t5,ht5⟩:∃t5,t5=t4 + 1:=⟨_,rfl⟩
 rw[←ht5] at K10⊢
 clear ht5
 have CE:=th ⟨s2,d2,p2,sp2,dp2⟩ A n c B l w10.drew ((H.out.1.below (K10.out.1.low.mono hB)).drew) (nT hB K10.out.1.low.size) (by omega) hnc ha
 rw[hend] at CE
 unfold Tu.vals at CE
 dsimp only at CE
 have HE:=jH CE
 have CK:=jH (fun W hW=>As aa tp tm tk qp qm most ah now fm il ⟨⟨s2,d2,p2,sp2,dp2⟩,fbe,fgen,fseen⟩ ⟨⟨s2,d2,p2,sp2,dp2⟩,fbe,gen,now⟩ rfl rfl rfl aV hle W (H.out.2.1.fr (Fr.of_below [] [] hW an) (by simp) (by simp) (by simp) (by simp) (by simp) (by simp) (by simp)) hg (nT an hW.size))
 unfold bj Fl.vals at CK
 dsimp only at CK
 clear CE
 have d0:=lB K10.out.1.tu.drew K10.out.2.1.drew K10.out.2.2.1.drew K10.out.2.2.2.drew
 go_region_held3 (fun wS=>wS.cell? ⟨t1,0,none⟩=some (X Z s2)∧wS.cell? ⟨t1,1,none⟩=some (X Z d2)∧wS.cell? ⟨t1,2,none⟩=some (X Y p2)∧wS.cell? ⟨t1,3,none⟩=some (X Y sp2)∧wS.cell? ⟨t1,4,none⟩=some (X Y dp2)∧wS.cell? ⟨t4,0,none⟩=some (X Y 2)∧wS.cell? ⟨t4,1,none⟩=some (X Y 0)∧wS.cell? ⟨t4,2,none⟩=some (X Y fbe)∧wS.cell? ⟨t4,3,none⟩=some (G A9 n9 c9)∧wS.cell? ⟨t5,0,none⟩=some (X Z s2)∧wS.cell? ⟨t5,1,none⟩=some (X Z d2)∧wS.cell? ⟨t5,2,none⟩=some (X Y p2)∧wS.cell? ⟨t5,3,none⟩=some (X Y sp2)∧wS.cell? ⟨t5,4,none⟩=some (X Y dp2)∧wS.cell? ⟨t5,5,none⟩=some (X Y fbe)∧wS.cell? ⟨t5,6,none⟩=some (X Y gen)∧wS.cell? ⟨t5,7,none⟩=some (X Y now)∧wS.cell? ⟨t2,5,none⟩=some (X Y fbe)) (first|with_reducible exact d0|with_reducible exact e0|with_reducible exact g0|with_reducible exact h1 _ _ _ _ _|fail)
  (first
   |(go_at_call 109;(with_reducible refine HE.out.mono ?_);rintro e w11 ⟨rfl,hb11⟩;have k1:=K10.out.1.tu.drew.below hb11 K10.out.1.tu.lt;have k2:=K10.out.2.1.drew.below hb11 K10.out.2.1.lt;have k4:=K10.out.2.2.1.drew.below hb11 K10.out.2.2.1.lt;have k5:=K10.out.2.2.2.drew.below hb11 K10.out.2.2.2.lt;have e0:=lB k1 k2 k4 k5;have hl11:=K10.out.1.low.drew.trans (hb11.mono K10.out.1.low.size);have C2:=CK.out w11 hl11)
   |(go_at_call 108;(with_reducible refine C2.mono ?_);rintro e w12 ⟨rfl,hfl,hf12⟩;have kp:=hf12.blk _ _ _ (K10.out.1.plan.drew.below hb11 K10.out.1.plan.lt) (by decide);have m1:=hf12.blk _ _ _ k1 (by decide);have m2:=hf12.blk _ _ _ k2 (by decide);have m4:=hf12.blk _ _ _ k4 (by decide);have m5:=hf12.blk _ _ _ k5 (by decide);have g0:=lB m1 m2 m4 m5;have s0:=kp.cell 0;have s1:=kp.cell 1;have s2':=kp.cell 2;have s3:=kp.cell 3;have s4:=kp.cell 4;have z0:=kp.frozen 0;have z1:=kp.frozen 1;have z2:=kp.frozen 2;have z3:=kp.frozen 3;have z4:=kp.frozen 4;(simp only[ga,gz,gN] at s0 s1 s2' s3 s4);have h1:=fun v0 v1 v2 v3 v4=>lB (((((m1.far (p:=⟨w.heap.size + 1,0,none⟩) (m1.ne_ kp (by decide)) v0).far (p:=⟨w.heap.size + 1,1,none⟩) (m1.ne_ kp (by decide)) v1).far (p:=⟨w.heap.size + 1,2,none⟩) (m1.ne_ kp (by decide)) v2).far (p:=⟨w.heap.size + 1,3,none⟩) (m1.ne_ kp (by decide)) v3).far (p:=⟨w.heap.size + 1,4,none⟩) (m1.ne_ kp (by decide)) v4) (((((m2.far (p:=⟨w.heap.size + 1,0,none⟩) (m2.ne_ kp (by decide)) v0).far (p:=⟨w.heap.size + 1,1,none⟩) (m2.ne_ kp (by decide)) v1).far (p:=⟨w.heap.size + 1,2,none⟩) (m2.ne_ kp (by decide)) v2).far (p:=⟨w.heap.size + 1,3,none⟩) (m2.ne_ kp (by decide)) v3).far (p:=⟨w.heap.size + 1,4,none⟩) (m2.ne_ kp (by decide)) v4) (((((m4.far (p:=⟨w.heap.size + 1,0,none⟩) (m4.ne_ kp (by decide)) v0).far (p:=⟨w.heap.size + 1,1,none⟩) (m4.ne_ kp (by decide)) v1).far (p:=⟨w.heap.size + 1,2,none⟩) (m4.ne_ kp (by decide)) v2).far (p:=⟨w.heap.size + 1,3,none⟩) (m4.ne_ kp (by decide)) v3).far (p:=⟨w.heap.size + 1,4,none⟩) (m4.ne_ kp (by decide)) v4) (((((m5.far (p:=⟨w.heap.size + 1,0,none⟩) (m5.ne_ kp (by decide)) v0).far (p:=⟨w.heap.size + 1,1,none⟩) (m5.ne_ kp (by decide)) v1).far (p:=⟨w.heap.size + 1,2,none⟩) (m5.ne_ kp (by decide)) v2).far (p:=⟨w.heap.size + 1,3,none⟩) (m5.ne_ kp (by decide)) v3).far (p:=⟨w.heap.size + 1,4,none⟩) (m5.ne_ kp (by decide)) v4)))
 have hq0:bC qp KF [tm,tk,qm] aa w w12:=(((Fr.of_below [] [] hl11 an).q qp (by simp)).mono (by simp) (by simp)).trans hf12
 have hq1:=(((((hq0.set_new (nS _) an 0 (X Y 2)).set_new (nS _) an 1 (X Y 0)).set_new (nS _) an 2 (X Y fbe)).set_new (nS _) an 3 (G A9 n9 c9)).set_new (nS _) an 4 (G none 0 0))
 have hpl:=(((((kp.set_ 0 (X Y 2)).set_ 1 (X Y 0)).set_ 2 (X Y fbe)).set_ 3 (G A9 n9 c9)).set_ 4 (G none 0 0))
 have hfr:=((((((Fr.refl [116] [] aa w12).set_ kp (by simp) (nT an (nS _)) 0 (X Y 2)).set_ (kp.set_ 0 (X Y 2)) (by simp) (nT an (nS _)) 1 (X Y 0)).set_ ((kp.set_ 0 (X Y 2)).set_ 1 (X Y 0)) (by simp) (nT an (nS _)) 2 (X Y fbe)).set_ (((kp.set_ 0 (X Y 2)).set_ 1 (X Y 0)).set_ 2 (X Y fbe)) (by simp) (nT an (nS _)) 3 (G A9 n9 c9)).set_ ((((kp.set_ 0 (X Y 2)).set_ 1 (X Y 0)).set_ 2 (X Y fbe)).set_ 3 (G A9 n9 c9)) (by simp) (nT an (nS _)) 4 (G none 0 0))
 have HF:Hid (_∧_∧_):=⟨hpl,(match hfl with|⟨l',ha,hb⟩=>(⟨l',ha,hb.fr hfr (by decide) (by decide) (by decide) (by decide) (by simp) (by simp) (by simp)⟩:∃l',dK il (bD ⟨s2,d2,p2,sp2,dp2⟩) now l'∧cg _ aa tp tm tk qp qm most ah (aw fm ⟨s2,d2,p2,sp2,dp2⟩ ⟨⟨s2,d2,p2,sp2,dp2⟩,fbe,fgen,now⟩) l')),hq1⟩
 clear hq0 hq1 hpl hfr hfl hf12 kp m1 m2 m4 m5 g0 s0 s1 s2' s3 s4 z0 z1 z2 z3 z4 h1 C2 e0 k1 k2 k4 k5 hb11 hl11 d0 HE CK K10
 go_wp2_with fail
 refine bodyPost_ret (results_cell_row rfl _ _ (w.heap.size + 1) 116 #[X Y 2,X Y 0,X Y fbe,G A9 n9 c9,G none 0 0] (0,0) _ rfl HF.out.1 underlying116 rfl lP) rfl ?_
 exact⟨⟨A9,n9,c9,rfl⟩,HF.out.2.1,HF.out.2.2⟩
def iS (b:Be):Value:=aG #[X Y b.id,X Z b.addr,X Y b.weight]
theorem DQ (x y:Be)(w:World):Calls Pg 223 #[iS x,iS y] w fun e w'=>e=rT (X Y (cG x.id y.id))∧Below w.heap.size w w':=by
 have af:=((bR w.heap.size w).alloc (nR _) (cL #[X Y x.id,X Z x.addr,X Y x.weight] 34)).alloc (by simp) (cL #[X Y y.id,X Z y.addr,X Y y.weight] 34)
 obtain⟨i1,a1,w1⟩:=x
 obtain⟨i2,a2,w2⟩:=y
 unfold iS
 dsimp only at *
 go_enter func223,ntmps223
 go_wp2_with fail
 refine(lX i1 i2 _).mono ?_
 rintro e w3 ⟨rfl,rfl⟩
 go_wp2
 go_ret
 exact⟨rfl,af⟩
theorem Cm (x y:Be)(w:World):Calls Pg 225 #[iS x,iS y] w fun e w'=>e=rT (bL (x.id==y.id))∧Below w.heap.size w w':=by
 have af:=((bR w.heap.size w).alloc (nR _) (cL #[X Y x.id,X Z x.addr,X Y x.weight] 34)).alloc (by simp) (cL #[X Y y.id,X Z y.addr,X Y y.weight] 34)
 obtain⟨i1,a1,w1⟩:=x
 obtain⟨i2,a2,w2⟩:=y
 unfold iS
 dsimp only at *
 go_enter func225,ntmps225
 go_wp2
 go_ret
 exact⟨rfl,af⟩
def dh (w:World)(aa g c:Nat)(x y:Be):Prop:=w.ownsRow aa 34 3 (G (some ⟨g,0,none⟩) 2 c) 2 (aC [x,y])
theorem dh.cells {w:World}{aa g c:Nat}{x y:Be}(h:dh w aa g c x y):w.cell? ⟨g,0,none⟩=some (X Y x.id)∧w.cell? ⟨g,1,none⟩=some (X Z x.addr)∧w.cell? ⟨g,2,none⟩=some (X Y x.weight)∧w.cell? ⟨g,3,none⟩=some (X Y y.id)∧w.cell? ⟨g,4,none⟩=some (X Z y.addr)∧w.cell? ⟨g,5,none⟩=some (X Y y.weight):=
 ⟨h.cellAt 0 (by omega),h.cellAt 1 (by omega),h.cellAt 2 (by omega),h.cellAt 3 (by omega),h.cellAt 4 (by omega),h.cellAt 5 (by omega)⟩
theorem dh.swap {w:World}{aa g c:Nat}{x y:Be}(h:dh w aa g c x y):dh ((((((w.setCell ⟨g,0,none⟩ (X Y y.id)).setCell ⟨g,1,none⟩ (X Z y.addr)).setCell ⟨g,2,none⟩ (X Y y.weight)).setCell ⟨g,3,none⟩ (X Y x.id)).setCell ⟨g,4,none⟩ (X Z x.addr)).setCell ⟨g,5,none⟩ (X Y x.weight)) aa g c y x:=
 ki (ki h 0 y) 1 x
theorem dh.swap' {w:World}{aa g c:Nat}{x y:Be}(h:dh w aa g c x y):dh ((((((w.setCell ⟨g,3,none⟩ (X Y x.id)).setCell ⟨g,4,none⟩ (X Z x.addr)).setCell ⟨g,5,none⟩ (X Y x.weight)).setCell ⟨g,0,none⟩ (X Y y.id)).setCell ⟨g,1,none⟩ (X Z y.addr)).setCell ⟨g,2,none⟩ (X Y y.weight)) aa g c y x:=
 ki (ki h 1 x) 0 y
theorem dh.lo {w:World}{aa g c:Nat}{x y:Be}(h:dh w aa g c x y):aa≤g:=by
 rcases h.2 with⟨h',_⟩|⟨g',cap',cur,h',hb,_⟩
 ·injection h' with h1;cases h1
 ·injection h' with h1;injection h1 with h1;injection h1 with h1;subst h1;exact hb
theorem xI (aa g c:Nat)(x y:Be)(w:World)(h:dh w aa g c x y):
  Calls Pg 221 #[G (some ⟨g,0,none⟩) 2 c] w fun e w'=>e=rT (tU #[])∧dh w' aa g c y x∧Below aa w w':=by
 obtain⟨c0,c1,c2,c3,c4,c5⟩:=h.cells
 have f0:=h.frozenAt 0
 have f1:=h.frozenAt 1
 have f2:=h.frozenAt 2
 have f3:=h.frozenAt 3
 have f4:=h.frozenAt 4
 have f5:=h.frozenAt 5
 have H:=jH (aI h h.lo)
 clear h
 go_enter func221,ntmps221
 go_wp2
 refine wp_loop_rounds 2 ?_
 rw[rounds_succ]
 go_wp2_with fail
 go_region
 have HR:Hid (dh ((((((w.setCell ⟨g,0,none⟩ (X Y y.id)).setCell ⟨g,1,none⟩ (X Z y.addr)).setCell ⟨g,2,none⟩ (X Y y.weight)).setCell ⟨g,3,none⟩ (X Y x.id)).setCell ⟨g,4,none⟩ (X Z x.addr)).setCell ⟨g,5,none⟩ (X Y x.weight)).drew aa g c y x∧Below aa w ((((((w.setCell ⟨g,0,none⟩ (X Y y.id)).setCell ⟨g,1,none⟩ (X Z y.addr)).setCell ⟨g,2,none⟩ (X Y y.weight)).setCell ⟨g,3,none⟩ (X Y x.id)).setCell ⟨g,4,none⟩ (X Z x.addr)).setCell ⟨g,5,none⟩ (X Y x.weight)).drew):=
  ⟨(dh.swap H.out.1).drew,(((((((bR aa w).setCell (p:=⟨g,0,none⟩) H.out.2 _).setCell (p:=⟨g,1,none⟩) H.out.2 _).setCell (p:=⟨g,2,none⟩) H.out.2 _).setCell (p:=⟨g,3,none⟩) H.out.2 _).setCell (p:=⟨g,4,none⟩) H.out.2 _).setCell (p:=⟨g,5,none⟩) H.out.2 _).drew⟩
 generalize (World.drew ((((((w.setCell ⟨g,0,none⟩ (X Y y.id)).setCell ⟨g,1,none⟩ (X Z y.addr)).setCell ⟨g,2,none⟩ (X Y y.weight)).setCell ⟨g,3,none⟩ (X Y x.id)).setCell ⟨g,4,none⟩ (X Z x.addr)).setCell ⟨g,5,none⟩ (X Y x.weight)))=w2 at HR⊢
 clear c0 c1 c2 c3 c4 c5 f0 f1 f2 f3 f4 f5
 go_wp2
 rw[rounds_succ]
 go_wp2
 go_end0
 exact⟨rfl,HR.out⟩
theorem CQ {w:World}{aa n size:Nat}{e:TypeId}{v:Value}{xs:List Value}(h:w.ownsRow aa e size v n xs)(k:Nat):(w.drewN k).ownsRow aa e size v n xs:=h
theorem xJ (A:Option Addr)(c:Nat)(w:World):
  Calls Pg 221 #[G A 1 c] w fun e w'=>e=rT (tU #[])∧w'=w:=by
 go_enter func221,ntmps221
 go_wp2
 refine wp_loop_rounds 1 ?_
 rw[rounds_succ]
 go_wp2
 go_end0
 exact⟨rfl,rfl⟩
theorem AH (A:Option Addr)(c:Nat)(fv:Value)(w:World):
  Calls Pg 419 #[G A 1 c,X Y 0,X Y 1,fv] w fun e w'=>e=rT (tU #[])∧w'=w:=by
 go_enter func419,ntmps419
 go_wp2
 refine wp_loop_rounds 1 ?_
 rw[rounds_succ]
 go_wp2
 go_end0
 exact⟨rfl,rfl⟩
theorem vW (A:Option Addr)(c:Nat)(fv:Value)(w:World):
  Calls Pg 337 #[G A 1 c,X Y 1,fv] w fun e w'=>e=rT (tU #[])∧w'=w:=by
 go_enter func337,ntmps337
 go_wp2
 refine wp_loop_rounds 1 ?_
 rw[rounds_succ]
 go_wp2_with (go_at_call 419;refine(AH _ _ _ _).mono ?_;rintro e w' ⟨rfl,rfl⟩)
 refine wp_loop_rounds 1 ?_
 rw[rounds_succ]
 go_wp2
 go_end0
 exact⟨rfl,rfl⟩
theorem vY (A:Option Addr)(c:Nat)(fv:Value)(w:World):
  Calls Pg 222 #[G A 1 c,fv] w fun e w'=>e=rT (tU #[])∧w'=w:=by
 go_enter func222,ntmps222
 go_wp2_with (go_at_call 337;refine(vW _ _ _ _).mono ?_;rintro e w' ⟨rfl,rfl⟩)
 go_end0
 exact⟨rfl,rfl⟩
theorem DE (A:Option Addr)(c:Nat)(fv:Value)(w:World):
  Calls Pg 224 #[G A 1 c,fv] w fun e w'=>e=rT (G A 1 c)∧w'=w:=by
 go_enter func224,ntmps224
 go_wp2
 go_ret
 exact⟨rfl,rfl⟩
theorem AG (aa g c:Nat)(x y:Be)(au:x.id < y.id)(w:World)(h:dh w aa g c y x)(an:aa≤w.heap.size):
  Calls Pg 419 #[G (some ⟨g,0,none⟩) 2 c,X Y 0,X Y 2,.func (.func 223) #[] #[]] w fun e w'=>e=rT (tU #[])∧dh w' aa g c x y∧Below aa w w':=by
 have CC:=jH (fun W=>(DQ x y W))
 have hz:cG x.id y.id=-1:=by unfold cG;rw[if_pos au]
 rw[hz] at CC
 have hd:dh w.drew aa g c y x:=h.drew
 have d0:=hd.cells
 obtain⟨c0,c1,c2,c3,c4,c5⟩:=h.cells
 have f0:=h.frozenAt 0
 have hw1:IntKind.i64.wrap ((1:Int) - 1)=0:=by decide
 have hw0:IntKind.i64.wrap (0:Int)=0:=by decide
 have hi0:(0:Int)≤0:=by decide
 have hi2:(0:Int) < 2:=by decide
 have hi1:(1:Int) < 2:=by decide
 have H:=jH (aI h h.lo)
 unfold iS at CC
 clear h hz au
 go_enter func419,ntmps419
 go_wp2
 refine wp_loop_rounds 2 ?_
 rw[rounds_succ]
 go_wp2_with fail
 refine wp_loop_rounds 2 ?_
 rw[rounds_succ]
 go_wp2_with fail
 go_region_held3 (fun wS=>wS.cell? ⟨g,0,none⟩=some (X Y y.id)∧wS.cell? ⟨g,1,none⟩=some (X Z y.addr)∧wS.cell? ⟨g,2,none⟩=some (X Y y.weight)∧wS.cell? ⟨g,3,none⟩=some (X Y x.id)∧wS.cell? ⟨g,4,none⟩=some (X Z x.addr)∧wS.cell? ⟨g,5,none⟩=some (X Y x.weight)) (first|with_reducible exact d0|with_reducible exact e0|fail)
  (first
   |(go_at_call 223;(with_reducible refine(CC.out _).mono ?_);rintro e w3 ⟨rfl,al⟩;have R3:dh w3 aa g c y x:=aJ (World.ownsRow.drew H.out.1) al;have e0:=R3.cells))
 obtain⟨z0,z1,z2,z3,z4,z5⟩:=e0
 have f0:=R3.frozenAt 0
 have f1:=R3.frozenAt 1
 have f2:=R3.frozenAt 2
 have f3:=R3.frozenAt 3
 have f4:=R3.frozenAt 4
 have f5:=R3.frozenAt 5
 have HB3:Hid (dh w3 aa g c y x∧Below aa w w3):=⟨R3,((bR aa w).drew).trans (al.mono an)⟩
 clear al R3 d0 hd c0 c1 c2 c3 c4 c5 CC
 go_wp2_with fail
 go_region
 have HR:(fun Vv:World=>Hid (dh Vv aa g c x y∧Below aa w Vv)) (World.drew ((((((w3.setCell ⟨g,3,none⟩ (X Y y.id)).setCell ⟨g,4,none⟩ (X Z y.addr)).setCell ⟨g,5,none⟩ (X Y y.weight)).setCell ⟨g,0,none⟩ (X Y x.id)).setCell ⟨g,1,none⟩ (X Z x.addr)).setCell ⟨g,2,none⟩ (X Y x.weight))):=
  ⟨(dh.swap' HB3.out.1).drew,(((((((HB3.out.2).setCell (p:=⟨g,3,none⟩) H.out.2 _).setCell (p:=⟨g,4,none⟩) H.out.2 _).setCell (p:=⟨g,5,none⟩) H.out.2 _).setCell (p:=⟨g,0,none⟩) H.out.2 _).setCell (p:=⟨g,1,none⟩) H.out.2 _).setCell (p:=⟨g,2,none⟩) H.out.2 _).drew⟩
 generalize (World.drew ((((((w3.setCell ⟨g,3,none⟩ (X Y y.id)).setCell ⟨g,4,none⟩ (X Z y.addr)).setCell ⟨g,5,none⟩ (X Y y.weight)).setCell ⟨g,0,none⟩ (X Y x.id)).setCell ⟨g,1,none⟩ (X Z x.addr)).setCell ⟨g,2,none⟩ (X Y x.weight)))=w4 at HR⊢
 clear z0 z1 z2 z3 z4 z5 f0 f1 f2 f3 f4 f5
 go_wp2
 rw[rounds_succ]
 go_wp2_with fail
 go_quiet (fail)
 go_wp2_with fail
 rw[rounds_succ]
 go_wp2
 go_end0
 exact⟨rfl,CQ HR.out.1 _,HR.out.2.trans ⟨rfl,rfl,rfl,nR _,fun _ _=>rfl⟩⟩
theorem vV (aa g c:Nat)(x y:Be)(au:x.id < y.id)(w:World)(h:dh w aa g c y x)(an:aa≤w.heap.size):
  Calls Pg 337 #[G (some ⟨g,0,none⟩) 2 c,X Y 2,.func (.func 223) #[] #[]] w fun e w'=>e=rT (tU #[])∧dh w' aa g c x y∧Below aa w w':=by
 have CI:=jH (AG aa g c x y au w h an)
 clear h au
 go_enter func337,ntmps337
 go_wp2
 refine wp_loop_rounds 1 ?_
 rw[rounds_succ]
 go_wp2_with fail
 refine CI.out.mono ?_
 rintro e w1 ⟨rfl,h1,h2⟩
 have HR:=jH (aI h1 h2)
 clear h1 h2
 go_wp2
 refine wp_loop_rounds 1 ?_
 rw[rounds_succ]
 go_wp2
 go_end0
 exact⟨rfl,HR.out⟩
theorem vX (aa g c:Nat)(x y:Be)(au:x.id < y.id)(w:World)(h:dh w aa g c y x)(an:aa≤w.heap.size):
  Calls Pg 222 #[G (some ⟨g,0,none⟩) 2 c,.func (.func 223) #[] #[]] w fun e w'=>e=rT (tU #[])∧dh w' aa g c x y∧Below aa w w':=by
 have CI:=jH (vV aa g c x y au w h an)
 clear h au
 go_enter func222,ntmps222
 go_wp2_with fail
 refine CI.out.mono ?_
 rintro e w1 ⟨rfl,h1,h2⟩
 have HR:=jH (aI h1 h2)
 clear h1 h2
 go_wp2
 go_end0
 exact⟨rfl,HR.out⟩
theorem DD (aa g c:Nat)(x y:Be)(au:x.id < y.id)(w:World)(h:dh w aa g c x y)(an:aa≤w.heap.size):
  Calls Pg 224 #[G (some ⟨g,0,none⟩) 2 c,.func (.func 225) #[] #[]] w fun e w'=>e=rT (G (some ⟨g,0,none⟩) 2 c)∧dh w' aa g c x y∧Below aa w w':=by
 have CC:=jH (fun W=>(Cm y x W))
 have hz:(y.id==x.id)=false:=by rw[beq_eq_false_iff_ne];omega
 rw[hz] at CC
 have hd:dh w.drew aa g c x y:=h.drew
 have d0:=hd.cells
 obtain⟨c0,c1,c2,c3,c4,c5⟩:=h.cells
 have hw1:IntKind.i64.wrap ((1:Int) - 1)=0:=by decide
 have hw0:IntKind.i64.wrap (0:Int)=0:=by decide
 have hi0:(0:Int)≤0:=by decide
 have hi2:(0:Int) < 2:=by decide
 have hi1:(1:Int) < 2:=by decide
 have H:=jH (aI h h.lo)
 unfold iS at CC
 clear h hz au
 go_enter func224,ntmps224
 go_wp2
 refine wp_loop_rounds 2 ?_
 rw[rounds_succ]
 go_wp2_with fail
 go_region_held3 (fun wS=>wS.cell? ⟨g,0,none⟩=some (X Y x.id)∧wS.cell? ⟨g,1,none⟩=some (X Z x.addr)∧wS.cell? ⟨g,2,none⟩=some (X Y x.weight)∧wS.cell? ⟨g,3,none⟩=some (X Y y.id)∧wS.cell? ⟨g,4,none⟩=some (X Z y.addr)∧wS.cell? ⟨g,5,none⟩=some (X Y y.weight)) (first|with_reducible exact d0|with_reducible exact e0|fail)
  (first
   |(go_at_call 225;(with_reducible refine(CC.out _).mono ?_);rintro e w3 ⟨rfl,al⟩;have R3:dh w3 aa g c x y:=aJ (World.ownsRow.drew H.out.1) al;have e0:=R3.cells))
 have HB3:Hid (dh w3 aa g c x y∧Below aa w w3):=⟨R3,((bR aa w).drew).trans (al.mono an)⟩
 clear al R3 d0 hd c0 c1 c2 c3 c4 c5 CC e0
 go_wp2_with fail
 rw[rounds_succ]
 go_wp2
 go_ret
 exact⟨rfl,HB3.out⟩
theorem Bs (A:Option Addr)(c B:Nat)(x y:Be)(au:x.id < y.id)(w:World)(hr:Reads w B 3 A 2 (aC [x,y]))(hB:B≤w.heap.size)(hc:2≤c)(bI:A=none→c=0):
  Calls Pg 118 #[G A 2 c] w fun e w'=>∃A' c',e=rT (G A' 2 c')∧w'.ownsRow w.heap.size 34 3 (G A' 2 c') 2 (aC [x,y])∧Below w.heap.size w w':=by
 have CC:=jH (gH A 2 c B [x,y] w hr hB (by omega) bI)
 have hi:(2:Int)≤(c:Int):=by omega
 clear hr
 go_enter func118,ntmps118
 go_wp2_with fail
 refine CC.out.mono ?_
 rintro e w1 ⟨A1,c1,rfl,aQ,ae⟩
 obtain⟨g,rfl⟩:∃g,A1=some ⟨g,0,none⟩:=by
  rcases aQ.2 with⟨h',h0⟩|⟨g',cap',cur,h',_⟩
  ·exact absurd h0 (by omega)
  ·injection h' with h1
   exact⟨g',h1⟩
 have C2:=jH (xI w.heap.size g c1 x y w1 aQ)
 have HB:=jH ae
 have hs1:=ae.size
 clear aQ ae CC
 go_wp2_with fail
 refine C2.out.mono ?_
 rintro e w2 ⟨rfl,hr2,af⟩
 have hs2:=af.size
 have C3:=jH (vX w.heap.size g c1 x y au w2 hr2 (by omega))
 have HB2:Hid (Below w.heap.size w w2):=HB.out.trans af
 clear hr2 af C2 HB
 go_wp2_with fail
 refine C3.out.mono ?_
 rintro e w3 ⟨rfl,hr3,al⟩
 have hs3:=al.size
 have C4:=jH (DD w.heap.size g c1 x y au w3 hr3 (by omega))
 have HB3:Hid (Below w.heap.size w w3):=HB2.out.trans al
 clear hr3 al C3 HB2
 go_wp2_with fail
 refine C4.out.mono ?_
 rintro e w4 ⟨rfl,hr4,aq⟩
 have HB4:Hid (w4.ownsRow w.heap.size 34 3 (G (some ⟨g,0,none⟩) 2 c1) 2 (aC [x,y])∧Below w.heap.size w w4):=⟨hr4,HB3.out.trans aq⟩
 clear hr4 aq C4 HB3
 go_wp2
 go_ret
 exact⟨_,_,rfl,HB4.out⟩
theorem Bt (A:Option Addr)(c B:Nat)(x:Be)(w:World)(hr:Reads w B 3 A 1 (aC [x]))(hB:B≤w.heap.size)(hc:1≤c)(bI:A=none→c=0):
  Calls Pg 118 #[G A 1 c] w fun e w'=>∃A' c',e=rT (G A' 1 c')∧w'.ownsRow w.heap.size 34 3 (G A' 1 c') 1 (aC [x])∧Below w.heap.size w w':=by
 have CC:=jH (gH A 1 c B [x] w hr hB (by omega) bI)
 have hi:(1:Int)≤(c:Int):=by omega
 clear hr
 go_enter func118,ntmps118
 go_wp2_with fail
 refine CC.out.mono ?_
 rintro e w1 ⟨A1,c1,rfl,aQ,ae⟩
 have HB:=jH (aI aQ ae)
 clear aQ ae CC
 go_wp2_with (first
  |(go_at_call 221;refine(xJ _ _ _).mono ?_;rintro e w' ⟨rfl,rfl⟩)
  |(go_at_call 222;refine(vY _ _ _ _).mono ?_;rintro e w' ⟨rfl,rfl⟩)
  |(go_at_call 224;refine(DE _ _ _ _).mono ?_;rintro e w' ⟨rfl,rfl⟩))
 go_ret
 exact⟨_,_,rfl,HB.out⟩
structure BP where
 bp:Nat
 d:Nat
 ss:Nat
 tp:Nat
 chp:Nat
 dp:Nat
 lg:Nat
 sp:Nat
 sd:Nat
 sf:Nat
 mn:Nat
 tm:Nat
 tk:Nat
 qp:Nat
 qm:Nat
 dm:Nat
 qp2:Nat
 qm2:Nat
def BP.maps (p:BP):List Nat:=[p.mn,p.sd,p.sf,p.tm,p.tk,p.qm,p.dm,p.qm2]
def KB:List TypeId:=KW++(KF++[])++[69,269]
structure aM (w:World)(aa:Nat)(p:BP)(ag fl ah aj quota V gen now ops:Nat)(rs:List aE)(n0:Nat)(bl:List Be)(fm:List (Tu×Fl))(il:List It)(made:Int):Prop where
 lob:aa≤p.bp
 loc:aa≤p.chp
 hi:aa≤w.heap.size
 blk:∃A c,ab w p.bp 69 (bc ag fl ah aj quota V p.d p.ss p.tp p.chp p.dp gen (G A bl.length c) now)∧w.ownsRow aa 34 3 (G A bl.length c) bl.length (aC bl)
 sto:dw w aa p.ss p.lg p.sp p.sd p.sf p.d p.mn aj quota V ops rs n0 p.maps
 few:(aS rs).2.1.length≤16
 fl:cg w aa p.tp p.tm p.tk p.qp p.qm fl ah fm il
 ch:Ch w p.chp ag bl (tableF bl ag) made
 dr:dU w aa p.dp p.dm p.qp2 p.qm2
 qne:p.qp≠p.qp2
 maps:p.maps.Nodup
 may:dz bl.length bl
 ok:dD bl
 mayn:dd ag=true
theorem aM.made {w w':World}{aa:Nat}{p:BP}{ag fl ah aj quota V gen now ops n0:Nat}{rs:List aE}{bl:List Be}{fm:List (Tu×Fl)}{il:List It}{made:Int}(h:aM w aa p ag fl ah aj quota V gen now ops rs n0 bl fm il made)(hb:Below w.heap.size w w'):aM w' aa p ag fl ah aj quota V gen now ops rs n0 bl fm il made:=by
 obtain⟨A,c,k1,k2⟩:=h.blk
 exact{h with hi:=nT h.hi hb.size,blk:=⟨A,c,k1.below hb k1.lt,aJ k2 hb⟩,sto:=h.sto.made hb,fl:=h.fl.fr (Fr.of_below [] [] hb h.hi) (by simp) (by simp) (by simp) (by simp) (by simp) (by simp) (by simp),ch:=h.ch.below hb,dr:=h.dr.made hb}
end
section
open Go.RowKit Go.Maps
variable {w w':World}{aa:Nat}{p:BP}{ag fl ah aj quota V gen now ops n0:Nat}{rs:List aE}{bl:List Be}{fm:List (Tu×Fl)}{il:List It}{made:Int}
theorem BP.apart {p:BP}(h:p.maps.Nodup):p.tm∉[p.mn,p.sf]∧p.tk∉[p.mn,p.sf]∧p.qm∉[p.mn,p.sf]∧p.dm∉[p.mn,p.sf]∧p.qm2∉[p.mn,p.sf]∧p.sd∉[p.tm,p.tk,p.qm]∧p.sf∉[p.tm,p.tk,p.qm]∧p.mn∉[p.tm,p.tk,p.qm]∧p.dm∉[p.tm,p.tk,p.qm]∧p.qm2∉[p.tm,p.tk,p.qm]:=by
 simp only[BP.maps,List.nodup_cons,List.mem_cons,List.not_mem_nil,or_false,not_or] at h⊢
 obtain⟨⟨a1,a2,a3,a4,a5,a6,a7⟩,⟨b1,b2,b3,b4,b5,b6⟩,⟨c1,c2,c3,c4,c5⟩,⟨d1,d2,d3,d4⟩,⟨e1,e2,e3⟩,⟨g1,g2⟩,i1,-⟩:=h
 repeat' apply aI
 all_goals first
  |assumption
  |(refine fun e=>?_;have e:=e.symm;contradiction)
theorem BP.in2 {p:BP}:∀b∈[p.mn,p.sf],b∈p.maps:=fun b hb=>by simp[BP.maps] at hb⊢;rcases hb with rfl|rfl<;>simp
theorem BP.in3 {p:BP}:∀b∈[p.tm,p.tk,p.qm],b∈p.maps:=fun b hb=>by simp[BP.maps] at hb⊢;rcases hb with rfl|rfl|rfl<;>simp
theorem aM.stored {ops' n':Nat}{rs':List aE}(h:aM w aa p ag fl ah aj quota V gen now ops rs n0 bl fm il made)(hs:dw w' aa p.ss p.lg p.sp p.sd p.sf p.d p.mn aj quota V ops' rs' n' p.maps)(hbl:(aS rs').2.1.length≤16)(hf:Fr KW [p.mn,p.sf] aa w w'):aM w' aa p ag fl ah aj quota V gen now ops' rs' n' bl fm il made:=by
 obtain⟨A,c,k1,k2⟩:=h.blk
 obtain⟨m1,m2,m3,m4,m5,-⟩:=BP.apart h.maps
 exact{h with hi:=nT h.hi hf.size,blk:=⟨A,c,hf.blk _ _ _ k1 (by decide),hf.own k2 (by decide)⟩,sto:=hs,few:=hbl,fl:=h.fl.fr hf (by decide) (by decide) (by decide) (by decide) m3 m1 m2,ch:=h.ch.fr hf (by decide) (by decide) (by decide),dr:=h.dr.fr hf (by decide) (by decide) m5 m4}
theorem aM.flowed {fm':List (Tu×Fl)}{il':List It}(h:aM w aa p ag fl ah aj quota V gen now ops rs n0 bl fm il made)(hs:cg w' aa p.tp p.tm p.tk p.qp p.qm fl ah fm' il')(hf:bC p.qp KI [p.tm,p.tk,p.qm] aa w w'):aM w' aa p ag fl ah aj quota V gen now ops rs n0 bl fm' il' made:=by
 obtain⟨A,c,k1,k2⟩:=h.blk
 obtain⟨-,-,-,-,-,m1,m2,m3,m5,m6⟩:=BP.apart h.maps
 exact{h with hi:=nT h.hi hf.size,blk:=⟨A,c,hf.blk _ _ _ k1 (by decide),hf.own k2 (by decide)⟩,sto:=h.sto.fr hf.toFr (by decide) (by decide) (by decide) (by decide) m1 m2 m3 BP.in3,fl:=hs,ch:=h.ch.fr hf.toFr (by decide) (by decide) (by decide),dr:=h.dr.frq hf (fun e=>h.qne e.symm) (by decide) m6 m5}
end
section
open Go.RowKit Go.Maps
variable {w:World}{aa:Nat}{p:BP}{ag fl ah aj quota V gen now ops n0:Nat}{rs:List aE}{bl:List Be}{fm:List (Tu×Fl)}{il:List It}{made:Int}
theorem xZ (rs:List aE)(f:Fl):(aS (rs++[.put f])).2.1=(aS rs).2.1:=by rw[kf];rfl
theorem yb (rs:List aE)(g:Nat)(l:List Be):(aS (rs++[.gen g l])).2.1=l:=by rw[kf];rfl
theorem ud (h:aM w aa p ag fl ah aj quota V gen now ops rs n0 bl fm il made)(f:Fl)(hf:cI f)(aP:ops≤600000000000)(hcap:rs.length < 3 * (aj / 43))(hr200:rs.length < 200):
  Calls Pg 42 #[PT (some ⟨p.bp,0,none⟩),.agg (recC 1 f 0 (G none 0 0))] w fun e w'=>e=rT (tU #[])∧aM w' aa p ag fl ah aj quota V gen now (ops + 9) (rs++[.put (aT V f)]) n0 bl fm il made∧Fr KW [p.mn,p.sf] aa w w':=by
 obtain⟨A,c,k1,k2⟩:=h.blk
 refine(tK aa p.bp ag fl ah aj quota V p.d p.ss p.tp p.chp p.dp gen now (G A bl.length c) [p.mn,p.sf] (fun _ w'=>dw w' aa p.ss p.lg p.sp p.sd p.sf p.d p.mn aj quota V (ops + 9) (rs++[aE.put (aT V f)]) n0 p.maps) _ _ _ _ _ _ _ _ _ _ _ _ _ _ w k1 h.hi (fun W hW=>vN aa p.ss p.lg p.sp p.sd p.sf p.d p.mn aj quota V ops n0 rs p.maps W (h.sto.made hW) f hf aP (by have:=h.few;omega) hcap hr200)).mono ?_
 rintro e w' ⟨rfl,⟨W,hW,hQ'⟩,hF⟩
 exact⟨rfl,h.stored hQ' (by rw[xZ];exact h.few) hF,hF⟩
end
section
open Go.RowKit Go.Maps
theorem Eg (aa b0 bp ag fl ah aj quota V d ss tp chp dp gen now:Nat)(A:Option Addr)(c:Nat)(bl:List Be)(dm qp2 qm2 tm tk qp most:Nat)(fm:List (Tu×Fl))(w:World)
  (hb:ab w bp 69 (bc ag fl ah aj quota V d ss tp chp dp gen (G A bl.length c) now))(ho:w.ownsRow b0 34 3 (G A bl.length c) bl.length (aC bl))(hd:dU w aa dp dm qp2 qm2)(hx:ab w tp 150 #[X Y most,X Y ah,.map (some tm),.map (some tk),PT (some ⟨qp,0,none⟩)])(hmf:aL w bS bT bj tm fm)(hbl:bl.length≤1000)(hfm:fm.length≤1000000):
  Calls Pg 9 #[PT (some ⟨bp,0,none⟩)] w fun e w'=>∃(A':Option Addr) (c':Nat) (v:Value) (fs:List Fl),e=rT (aG #[X Y gen,G A' bl.length c',G none 0 0,v])∧w'.ownsRow w.heap.size 34 3 (G A' bl.length c') bl.length (aC bl)∧fs.Perm (fm.map (·.2))∧w'.ownsRow w.heap.size 47 8 v fs.length (bE fs)∧Below w.heap.size w w':=by
 have ae:=(bR w.heap.size w).alloc (nR _) (cL #[X Y 0,G none 0 0,G none 0 0,G none 0 0] 44)
 have hr:=ab.new w 44 #[X Y 0,G none 0 0,G none 0 0,G none 0 0]
 have hz:(w.alloc (cL #[X Y 0,G none 0 0,G none 0 0,G none 0 0] 44)).heap.size=w.heap.size + 1:=by simp
 have hbb:=hb.below ae hb.lt
 have ho1:=aJ ho ae
 have hd1:=hd.made ae
 have hx1:=hx.below ae hx.lt
 have hm1:=hmf.below ae hmf.lt
 have f18:=hb.cell 18
 simp only[bc,ga,gz,gN] at f18
 have g18:=hbb.cell 18
 simp only[bc,ga,gz,gN] at g18
 obtain⟨r,hrr⟩:∃r,r=w.heap.size:=⟨_,rfl⟩
 have HRR:=jH hrr
 rw[←hrr] at hr hz ae
 clear hb ho hd hx hmf
 go_enter func9,ntmps9
 go_wp2_with fail
 rw[←hrr]
 generalize w.alloc (cL #[X Y 0,G none 0 0,G none 0 0,G none 0 0] 44)=w1 at *
 clear hrr
 have C1:=jH (gH A bl.length c w1.drew.heap.size bl w1.drew (Reads.of_own ho1).drew (nR _) (by omega) (fun e=>gA ho1 e))
 have c0:w1.drew.cell? ⟨bp,10,none⟩=some (PT (some ⟨tp,0,none⟩))∧w1.drew.cell? ⟨bp,12,none⟩=some (PT (some ⟨dp,0,none⟩))∧w1.drew.cell? ⟨bp,13,none⟩=some (X Y gen)∧w1.drew.cell? ⟨bp,14,none⟩=some (G A bl.length c):=⟨by {have:=hbb.drew.cell 10;simpa [bc] using this},by {have:=hbb.drew.cell 12;simpa [bc] using this},by {have:=hbb.drew.cell 13;simpa [bc] using this},by {have:=hbb.drew.cell 14;simpa [bc] using this}⟩
 have H:=jH (aI hbb (aI hr (aI ae (aI hz (aI hd1 (aI hx1 hm1))))))
 clear hbb hr ae hz ho1 hd1 hx1 hm1 f18
 go_wp2_with fail
 go_region_held3 (fun wS=>wS.cell? ⟨bp,10,none⟩=some (PT (some ⟨tp,0,none⟩))∧wS.cell? ⟨bp,12,none⟩=some (PT (some ⟨dp,0,none⟩))∧wS.cell? ⟨bp,13,none⟩=some (X Y gen)∧wS.cell? ⟨bp,14,none⟩=some (G A bl.length c)) (first|with_reducible exact c0|with_reducible exact e0|with_reducible exact g0|with_reducible exact h0|with_reducible exact h1 _ _ _ _|fail)
  (first
   |(go_at_call 21;(with_reducible refine C1.out.mono ?_);rintro e w2 ⟨A1,c1,rfl,aQ,af⟩;have k2:=H.out.1.drew.below af H.out.1.lt;have e0:w2.cell? ⟨bp,10,none⟩=some (PT (some ⟨tp,0,none⟩))∧w2.cell? ⟨bp,12,none⟩=some (PT (some ⟨dp,0,none⟩))∧w2.cell? ⟨bp,13,none⟩=some (X Y gen)∧w2.cell? ⟨bp,14,none⟩=some (G A bl.length c):=⟨by {have:=k2.cell 10;simpa [bc] using this},by {have:=k2.cell 12;simpa [bc] using this},by {have:=k2.cell 13;simpa [bc] using this},by {have:=k2.cell 14;simpa [bc] using this}⟩;have hd2:=H.out.2.2.2.2.1.made ((bR w1.heap.size w1).drew.trans af);have C2:=tw aa dp dm qp2 qm2 w2 hd2)
   |(go_at_call 22;(with_reducible refine C2.mono ?_);rintro e w3 ⟨rfl,al⟩;have k3:=k2.below al k2.lt;have g0:w3.cell? ⟨bp,10,none⟩=some (PT (some ⟨tp,0,none⟩))∧w3.cell? ⟨bp,12,none⟩=some (PT (some ⟨dp,0,none⟩))∧w3.cell? ⟨bp,13,none⟩=some (X Y gen)∧w3.cell? ⟨bp,14,none⟩=some (G A bl.length c):=⟨by {have:=k3.cell 10;simpa [bc] using this},by {have:=k3.cell 12;simpa [bc] using this},by {have:=k3.cell 13;simpa [bc] using this},by {have:=k3.cell 14;simpa [bc] using this}⟩;have hb13:=((bR w1.heap.size w1).drew.trans af).trans (al.mono af.size);have C3:=Ca tp tm most ah tk qp fm hfm w3 (H.out.2.2.2.2.2.1.below hb13 H.out.2.2.2.2.2.1.lt) (H.out.2.2.2.2.2.2.below hb13 H.out.2.2.2.2.2.2.lt))
   |(go_at_call 23;(with_reducible refine C3.mono ?_);rintro e w4 ⟨v,fs,rfl,hp4,bF,aq⟩;obtain⟨A9,k9,rfl⟩:=cV bF;have k4:=k3.below aq k3.lt;have h0:w4.cell? ⟨bp,10,none⟩=some (PT (some ⟨tp,0,none⟩))∧w4.cell? ⟨bp,12,none⟩=some (PT (some ⟨dp,0,none⟩))∧w4.cell? ⟨bp,13,none⟩=some (X Y gen)∧w4.cell? ⟨bp,14,none⟩=some (G A bl.length c):=⟨by {have:=k4.cell 10;simpa [bc] using this},by {have:=k4.cell 12;simpa [bc] using this},by {have:=k4.cell 13;simpa [bc] using this},by {have:=k4.cell 14;simpa [bc] using this}⟩;have hb14:=hb13.trans (aq.mono hb13.size);have n2:=H.out.2.1.below hb14 H.out.2.1.lt;have s0:w4.cell? ⟨r,0,none⟩=some (X Y 0):=by {have:=n2.cell 0;simpa using this};have s1:w4.cell? ⟨r,1,none⟩=some (G none 0 0):=by {have:=n2.cell 1;simpa using this};have s2:w4.cell? ⟨r,2,none⟩=some (G none 0 0):=by {have:=n2.cell 2;simpa using this};have s3:w4.cell? ⟨r,3,none⟩=some (G none 0 0):=by {have:=n2.cell 3;simpa using this};have z0:=n2.frozen 0;have z1:=n2.frozen 1;have z2:=n2.frozen 2;have z3:=n2.frozen 3;have hn:=k4.ne_ n2 (by decide);have h1:∀v0 v1 v2 v3,((((w4.setCell ⟨r,0,none⟩ v0).setCell ⟨r,1,none⟩ v1).setCell ⟨r,2,none⟩ v2).setCell ⟨r,3,none⟩ v3).cell? ⟨bp,10,none⟩=some (PT (some ⟨tp,0,none⟩))∧((((w4.setCell ⟨r,0,none⟩ v0).setCell ⟨r,1,none⟩ v1).setCell ⟨r,2,none⟩ v2).setCell ⟨r,3,none⟩ v3).cell? ⟨bp,12,none⟩=some (PT (some ⟨dp,0,none⟩))∧((((w4.setCell ⟨r,0,none⟩ v0).setCell ⟨r,1,none⟩ v1).setCell ⟨r,2,none⟩ v2).setCell ⟨r,3,none⟩ v3).cell? ⟨bp,13,none⟩=some (X Y gen)∧((((w4.setCell ⟨r,0,none⟩ v0).setCell ⟨r,1,none⟩ v1).setCell ⟨r,2,none⟩ v2).setCell ⟨r,3,none⟩ v3).cell? ⟨bp,14,none⟩=some (G A bl.length c):=fun v0 v1 v2 v3=>⟨by {have:=((((k4.far (p:=⟨r,0,none⟩) hn v0).far (p:=⟨r,1,none⟩) hn v1).far (p:=⟨r,2,none⟩) hn v2).far (p:=⟨r,3,none⟩) hn v3).cell 10;simpa [bc] using this},by {have:=((((k4.far (p:=⟨r,0,none⟩) hn v0).far (p:=⟨r,1,none⟩) hn v1).far (p:=⟨r,2,none⟩) hn v2).far (p:=⟨r,3,none⟩) hn v3).cell 12;simpa [bc] using this},by {have:=((((k4.far (p:=⟨r,0,none⟩) hn v0).far (p:=⟨r,1,none⟩) hn v1).far (p:=⟨r,2,none⟩) hn v2).far (p:=⟨r,3,none⟩) hn v3).cell 13;simpa [bc] using this},by {have:=((((k4.far (p:=⟨r,0,none⟩) hn v0).far (p:=⟨r,1,none⟩) hn v1).far (p:=⟨r,2,none⟩) hn v2).far (p:=⟨r,3,none⟩) hn v3).cell 14;simpa [bc] using this}⟩))
 have hsz2:=af.size
 have hsz3:=al.size
 have hr0:=n2.set_ 0 (X Y gen)
 have hr1:=hr0.set_ 1 (G A1 bl.length c1)
 have hr2:=hr1.set_ 2 (G none 0 0)
 have hr3:=hr2.set_ 3 (G A9 fs.length k9)
 have hss:w1.drew.heap.size=w1.heap.size:=rfl
 have oB:=aB (aB (aB (aB (aJ (aJ aQ al) aq) n2 (by decide) 0 (X Y gen)) hr0 (by decide) 1 (G A1 bl.length c1)) hr1 (by decide) 2 (G none 0 0)) hr2 (by decide) 3 (G A9 fs.length k9)
 have oF:=aB (aB (aB (aB bF n2 (by decide) 0 (X Y gen)) hr0 (by decide) 1 (G A1 bl.length c1)) hr1 (by decide) 2 (G none 0 0)) hr2 (by decide) 3 (G A9 fs.length k9)
 have hle:r≤w1.heap.size:=by have:=H.out.2.2.2.1;omega
 have hbF:=(((((H.out.2.2.1).trans (hb14.mono hle)).setCell (p:=⟨r,0,none⟩) (nR _) (X Y gen)).setCell (p:=⟨r,1,none⟩) (nR _) (G A1 bl.length c1)).setCell (p:=⟨r,2,none⟩) (nR _) (G none 0 0)).setCell (p:=⟨r,3,none⟩) (nR _) (G A9 fs.length k9)
 have HF:=jH (aI hr3 (aI (cO oB (base':=w.heap.size) (by have:=HRR.out;omega)) (aI (cO oF (base':=w.heap.size) (by have:=HRR.out;omega)) (aI hp4 hbF))))
 clear hr0 hr1 hr2 hr3 oB oF hbF aQ bF af al aq hb13 hb14 n2 k2 k3 k4 c0 e0 g0 h0 h1 s0 s1 s2 s3 z0 z1 z2 z3 hn hd2 C2 C3 C1
 go_wp2_with fail
 refine bodyPost_ret (results_cell_row rfl _ _ r 44 #[X Y gen,G A1 bl.length c1,G none 0 0,G A9 fs.length k9] (0,0) _ rfl HF.out.1 underlying44 rfl oq) rfl ?_
 exact⟨A1,c1,_,fs,rfl,HF.out.2.1,HF.out.2.2.2.1,HF.out.2.2.1,(HF.out.2.2.2.2.mono (Nat.le_of_eq HRR.out.symm))⟩
end
section
open Go.RowKit Go.Maps
variable {w:World}{aa:Nat}{p:BP}{ag fl ah aj quota V gen now ops n0:Nat}{rs:List aE}{bl:List Be}{fm:List (Tu×Fl)}{il:List It}{made:Int}
theorem kP (h:aM w aa p ag fl ah aj quota V gen now ops rs n0 bl fm il made):
  Calls Pg 9 #[PT (some ⟨p.bp,0,none⟩)] w fun e w'=>∃(A':Option Addr) (c':Nat) (v:Value) (fs:List Fl),e=rT (aG #[X Y gen,G A' bl.length c',G none 0 0,v])∧w'.ownsRow w.heap.size 34 3 (G A' bl.length c') bl.length (aC bl)∧fs.Perm (fm.map (·.2))∧w'.ownsRow w.heap.size 47 8 v fs.length (bE fs)∧Below w.heap.size w w':=by
 obtain⟨A,c,k1,k2⟩:=h.blk
 exact Eg aa aa p.bp ag fl ah aj quota V p.d p.ss p.tp p.chp p.dp gen now A c bl p.dm p.qp2 p.qm2 p.tm p.tk p.qp fl fm w k1 k2 h.dr h.fl.tab.blk h.fl.tab.mf (by have:=h.may.1;omega) (by have:=h.fl.few;omega)
end
section
open Go.RowKit Go.Maps
theorem iK:(Pg.info? 28).map (·.size)=some 4:=by kernel_rfl
theorem gh {w:World}{bp ag fl ah aj quota V d ss tp chp dp gen now:Nat}{bs:Value}{t:TypeId}(hb:ab w bp t (bc ag fl ah aj quota V d ss tp chp dp gen bs now)):w.cell? ⟨bp,0,none⟩=some (X Z 168364297)∧w.cell? ⟨bp,1,none⟩=some (X Y ag)∧w.cell? ⟨bp,2,none⟩=some (X Y fl)∧w.cell? ⟨bp,3,none⟩=some (X Y ah)∧w.cell? ⟨bp,4,none⟩=some (X Y 1500)∧w.cell? ⟨bp,5,none⟩=some (X Y aj)∧w.cell? ⟨bp,6,none⟩=some (X Y quota)∧w.cell? ⟨bp,7,none⟩=some (X Y V)∧w.cell? ⟨bp,10,none⟩=some (PT (some ⟨tp,0,none⟩))∧w.cell? ⟨bp,11,none⟩=some (PT (some ⟨chp,0,none⟩))∧w.cell? ⟨bp,13,none⟩=some (X Y gen)∧w.cell? ⟨bp,15,none⟩=some (X Y now):=
 ⟨by have:=hb.cell 0;simpa [bc] using this,by have:=hb.cell 1;simpa [bc] using this,by have:=hb.cell 2;simpa [bc] using this,by have:=hb.cell 3;simpa [bc] using this,by have:=hb.cell 4;simpa [bc] using this,by have:=hb.cell 5;simpa [bc] using this,by have:=hb.cell 6;simpa [bc] using this,by have:=hb.cell 7;simpa [bc] using this,by have:=hb.cell 10;simpa [bc] using this,by have:=hb.cell 11;simpa [bc] using this,by have:=hb.cell 13;simpa [bc] using this,by have:=hb.cell 15;simpa [bc] using this⟩
def KP:List TypeId:=KB++[175,34,265,3,150,140]
theorem aM.fr {w w':World}{aa:Nat}{p:BP}{ag fl ah aj quota V gen now ops n0:Nat}{rs:List aE}{bl:List Be}{fm:List (Tu×Fl)}{il:List It}{made:Int}{K:List TypeId}(h:aM w aa p ag fl ah aj quota V gen now ops rs n0 bl fm il made)(hf:Fr K [] aa w w')(hK:∀t∈K,t∉KP):aM w' aa p ag fl ah aj quota V gen now ops rs n0 bl fm il made:=by
 obtain⟨A,c,k1,k2⟩:=h.blk
 have kk:∀t∈KP,t∉K:=fun t h1 h2=>hK t h2 h1
 exact{h with hi:=nT h.hi hf.size,blk:=⟨A,c,hf.blk _ _ _ k1 (kk _ (by decide)),hf.own k2 (kk _ (by decide))⟩,sto:=h.sto.fr hf (kk _ (by decide)) (kk _ (by decide)) (kk _ (by decide)) (fun t ht=>kk t (by revert t;decide)) (by simp) (by simp) (by simp) (by simp),fl:=h.fl.fr hf (kk _ (by decide)) (kk _ (by decide)) (kk _ (by decide)) (kk _ (by decide)) (by simp) (by simp) (by simp),ch:=h.ch.fr hf (kk _ (by decide)) (kk _ (by decide)) (kk _ (by decide)),dr:=h.dr.fr hf (kk _ (by decide)) (kk _ (by decide)) (by simp) (by simp)}
theorem Fr.set_new {K:List TypeId}{M:List Nat}{aa:Nat}{a w:World}(h:Fr K M aa a w){g:Nat}(hg:a.heap.size≤g)(hb:aa≤a.heap.size)(i:Nat)(u:Value):Fr K M aa a (w.setCell ⟨g,i,none⟩ u):=by
 refine⟨h.below.setCell (p:=⟨g,i,none⟩) (nT hb hg) u,fun g' t cs h0 h1=>(h.blk g' t cs h0 h1).far (fun e=>?_) u,fun b es c h0 h1=>?_⟩
 ·have h2:g' < a.heap.size:=h0.lt
  have h3:g'=g:=e
  omega
 ·have h2:b < a.heap.size:=(Array.getElem?_eq_some_iff.1 h0).1
  rw[Below.heap_setCell _ _ _ _ (fun e=>by have h3:b=g:=e;omega)]
  exact h.map b es c h0 h1
theorem Eh {w:World}{aa:Nat}{p:BP}{ag fl ah aj quota V gen now ops n0:Nat}{rs:List aE}{bl:List Be}{fm:List (Tu×Fl)}{il:List It}{made:Int}(h:aM w aa p ag fl ah aj quota V gen now ops rs n0 bl fm il made)(fm':List (Tu×Fl))(k:Tu)(bid:Nat)(f:Fl)(A:Option Addr)(n c:Nat)(hf:cI f)(aP:ops≤600000000000)(hcap:rs.length < 3 * (aj / 43))(hr200:rs.length < 200)
  (CP:∀W,Below w.heap.size w W→Calls Pg 41 #[aG #[X Z 168364297,X Y ag,X Y fl,X Y ah,X Y 1500,X Y aj,X Y quota,X Y V],PT (some ⟨p.tp,0,none⟩),PT (some ⟨p.chp,0,none⟩),X Y gen,X Y now,G A n c] W fun e w'=>(∃A' n' c' g,e=rT (aG #[X Y 2,X Y 0,X Y bid,G A' n' c',G (some ⟨g,0,none⟩) 1 1])∧ab w' g 119 (recC 1 f 0 (G none 0 0)))∧(∃l',dK il (bD k) now l'∧cg w' aa p.tp p.tm p.tk p.qp p.qm fl ah fm' l')∧bC p.qp KF [p.tm,p.tk,p.qm] aa W w'):
  Calls Pg 18 #[PT (some ⟨p.bp,0,none⟩),G A n c] w fun e w'=>(∃A' n' c',e=rT (aG #[X Y 2,X Y 0,X Y bid,G A' n' c']))∧(∃l',dK il (bD k) now l'∧aM w' aa p ag fl ah aj quota V gen now (ops + 9) (rs++[.put (aT V f)]) n0 bl fm' l' made)∧Fr KB p.maps aa w w':=by
 obtain⟨A0,c0,k1,k2⟩:=h.blk
 obtain⟨h0,hh0⟩:∃h0,h0=w.heap.size:=⟨_,rfl⟩
 have ae:=(bR w.heap.size w).alloc (nR _) (cL #[X Y 0,X Y 0,X Y 0,G none 0 0] 28)
 have x1:=ab.new w 28 #[X Y 0,X Y 0,X Y 0,G none 0 0]
 rw[←hh0] at x1
 have an:=h.hi
 have g1:=h.made ae
 have b1:=k1.below ae k1.lt
 have f1:Fr [] [] aa w (w.alloc (cL #[X Y 0,X Y 0,X Y 0,G none 0 0] 28)):=Fr.of_below [] [] ae an
 have C1:=fun W hW=>CP W (ae.trans hW)
 have hz1:(w.alloc (cL #[X Y 0,X Y 0,X Y 0,G none 0 0] 28)).heap.size=w.heap.size + 1:=by simp
 clear CP k2
 have hbs:=jH an
 go_enter func18,ntmps18
 go_wp2_with fail
 rw[←hh0] at ae C1 an hz1⊢
 generalize w.alloc (cL #[X Y 0,X Y 0,X Y 0,G none 0 0] 28)=w1 at *
 have hle:h0≤w1.heap.size:=by omega
 have hbB:Below w1.heap.size w1 (w1.alloc (cL #[X Y 0,X Y 0,X Y 0,G none 0 0,G none 0 0] 116)).drew:=((bR _ _).alloc (nR _) _).drew
 have CA:=jH (C1 w1.drew ((bR _ _).drew.mono hle))
 have CB:=jH (C1 (w1.alloc (cL #[X Y 0,X Y 0,X Y 0,G none 0 0,G none 0 0] 116)).drew (hbB.mono hle))
 have c0':=gh b1.drew
 have bB:=b1.below hbB b1.lt
 have a0:=gh bB
 have nA:ab (w1.alloc (cL #[X Y 0,X Y 0,X Y 0,G none 0 0,G none 0 0] 116)).drew w1.heap.size 116 #[X Y 0,X Y 0,X Y 0,G none 0 0,G none 0 0]:=(ab.new w1 _ _).drew
 have HH:=jH (aI g1 (aI f1 (aI x1 (aI hle (aI hh0 an)))))
 have HB:=jH hbB
 have B1:=jH b1
 have B2:=jH bB
 clear g1 f1 ae h k1 hz1 hbB C1 b1 bB hle an x1 hh0
 go_region_held3 (fun wS=>wS.cell? ⟨p.bp,0,none⟩=some (X Z 168364297)∧wS.cell? ⟨p.bp,1,none⟩=some (X Y ag)∧wS.cell? ⟨p.bp,2,none⟩=some (X Y fl)∧wS.cell? ⟨p.bp,3,none⟩=some (X Y ah)∧wS.cell? ⟨p.bp,4,none⟩=some (X Y 1500)∧wS.cell? ⟨p.bp,5,none⟩=some (X Y aj)∧wS.cell? ⟨p.bp,6,none⟩=some (X Y quota)∧wS.cell? ⟨p.bp,7,none⟩=some (X Y V)∧wS.cell? ⟨p.bp,10,none⟩=some (PT (some ⟨p.tp,0,none⟩))∧wS.cell? ⟨p.bp,11,none⟩=some (PT (some ⟨p.chp,0,none⟩))∧wS.cell? ⟨p.bp,13,none⟩=some (X Y gen)∧wS.cell? ⟨p.bp,15,none⟩=some (X Y now)) (first|with_reducible exact c0'|with_reducible exact a0|with_reducible exact e0|with_reducible exact h1 _|with_reducible exact h2 _ _ _ _ _|fail)
  (first
   |(go_at_call 41;(with_reducible refine CA.out.mono ?_);rintro e w2 ⟨⟨A9,n9,c9,g,rfl,hrec⟩,⟨l',hq,hfl⟩,hfq⟩;have k1:=hfq.blk _ _ _ B1.out.drew (by decide);have e0:=gh k1;have h1:=fun o=>gh (k1.alloc o))
   |(go_at_call 41;(with_reducible refine CB.out.mono ?_);rintro e w2 ⟨⟨A9,n9,c9,g,rfl,hrec⟩,⟨l',hq,hfl⟩,hfq⟩;have k1:=hfq.blk _ _ _ B2.out (by decide);have e0:=gh k1;have n2:=hfq.blk _ _ _ nA (by decide);have s0:=n2.cell 0;have s1:=n2.cell 1;have s2:=n2.cell 2;have s3:=n2.cell 3;have s4:=n2.cell 4;have z0:=n2.frozen 0;have z1:=n2.frozen 1;have z2:=n2.frozen 2;have z3:=n2.frozen 3;have z4:=n2.frozen 4;(simp only[ga,gz,gN] at s0 s1 s2 s3 s4);have hn:=k1.ne_ n2 (by decide);have h2:=fun v0 v1 v2 v3 v4=>gh (((((k1.far (p:=⟨w1.heap.size,0,none⟩) hn v0).far (p:=⟨w1.heap.size,1,none⟩) hn v1).far (p:=⟨w1.heap.size,2,none⟩) hn v2).far (p:=⟨w1.heap.size,3,none⟩) hn v3).far (p:=⟨w1.heap.size,4,none⟩) hn v4)))
 ·have HF:(fun Vv:World=>Hid (ab Vv w2.heap.size 116 #[X Y 2,X Y 0,X Y bid,G A9 n9 c9,G (some ⟨g,0,none⟩) 1 1]∧ab Vv g 119 (recC 1 f 0 (G none 0 0))∧aM Vv aa p ag fl ah aj quota V gen now ops rs n0 bl fm' l' made∧ab Vv h0 28 #[X Y 0,X Y 0,X Y 0,G none 0 0]∧Fr KB p.maps aa w Vv∧dK il (bD k) now l'∧h0=w.heap.size)) (w2.alloc (cL #[X Y 2,X Y 0,X Y bid,G A9 n9 c9,G (some ⟨g,0,none⟩) 1 1] 116)):=by
   obtain⟨g1,f1,x1,hle,hh0,an⟩:=HH.out
   have af:Below w2.heap.size w2 (w2.alloc (cL #[X Y 2,X Y 0,X Y bid,G A9 n9 c9,G (some ⟨g,0,none⟩) 1 1] 116)):=(bR _ _).alloc (nR _) _
   have hd1:Below w1.heap.size w1 w1.drew:=(bR _ _).drew
   have aA:aa≤w1.drew.heap.size:=nT an hle
   have hbw2:aa≤w2.heap.size:=nT aA hfq.size
   have m2:aM w2 aa p ag fl ah aj quota V gen now ops rs n0 bl fm' l' made:=(g1.made hd1).flowed hfl (hfq.mono (fun t ht=>List.mem_append_left _ ht) (fun _ hb=>hb))
   refine⟨ab.new_ rfl,hrec.alloc _,m2.made af,(hfq.blk _ _ _ x1.drew (by decide)).alloc _,?_,hq,hh0⟩
   exact(((Fr.mono f1 (by simp) (by simp))).trans ((Fr.mono (Fr.of_below [] [] hd1 (nT an hle)) (by simp) (by simp)))).trans (((Fr.mono hfq.toFr (fun t ht=>List.mem_append_left _ (List.mem_append_right _ (List.mem_append_left _ ht))) (fun b hb=>by simp only[BP.maps,List.mem_cons,List.not_mem_nil,or_false] at hb⊢;rcases hb with rfl|rfl|rfl<;>simp))).trans (Fr.mono (Fr.of_below [] [] af hbw2) (by simp) (by simp)))
  generalize (w2.alloc (cL #[X Y 2,X Y 0,X Y bid,G A9 n9 c9,G (some ⟨g,0,none⟩) 1 1] 116))=wF at HF⊢
  generalize w2.heap.size=q at HF⊢
  clear k1 e0 h1 CA CB c0' a0 nA HH HB B1 B2 hfq hfl hq hrec
  have p4:=HF.out.1.cell 4
  have r0:=HF.out.2.1.cell 0
  have r1:=HF.out.2.1.cell 1
  have r2:=HF.out.2.1.cell 2
  have r3:=HF.out.2.1.cell 3
  have r4:=HF.out.2.1.cell 4
  have r5:=HF.out.2.1.cell 5
  have r6:=HF.out.2.1.cell 6
  have r7:=HF.out.2.1.cell 7
  have r8:=HF.out.2.1.cell 8
  have r9:=HF.out.2.1.cell 9
  have r10:=HF.out.2.1.cell 10
  have r11:=HF.out.2.1.cell 11
  have r12:=HF.out.2.1.cell 12
  have r13:=HF.out.2.1.cell 13
  simp only[recC,ga,gz,gN] at p4 r0 r1 r2 r3 r4 r5 r6 r7 r8 r9 r10 r11 r12 r13
  go_wp2_with fail
  refine wp_loop_rounds 2 ?_
  rw[rounds_succ]
  go_wp2_with fail
  have HG:(fun Vv:World=>Hid (ab Vv q 116 #[X Y 2,X Y 0,X Y bid,G A9 n9 c9,G (some ⟨g,0,none⟩) 1 1]∧aM Vv aa p ag fl ah aj quota V gen now ops rs n0 bl fm' l' made∧ab Vv h0 28 #[X Y 0,X Y 0,X Y 0,G none 0 0]∧Fr KB p.maps aa w Vv∧dK il (bD k) now l'∧h0=w.heap.size)) (wF.alloc (cL #[X Y 1,X Z f.k.src,X Z f.k.dst,X Y f.k.proto,X Y f.k.sport,X Y f.k.dport,X Y f.be,X Y f.gen,X Y f.seen,X Y 0,G none 0 0,X Y 0,X Y 0,X Y 0] 119)):=by
   obtain⟨t1,t2,t3,t4,t5,t6,t7⟩:=HF.out
   have hb:Below wF.heap.size wF (wF.alloc (cL #[X Y 1,X Z f.k.src,X Z f.k.dst,X Y f.k.proto,X Y f.k.sport,X Y f.k.dport,X Y f.be,X Y f.gen,X Y f.seen,X Y 0,G none 0 0,X Y 0,X Y 0,X Y 0] 119)):=(bR _ _).alloc (nR _) _
   exact⟨t1.alloc _,t3.made hb,t4.alloc _,t5.made hb t3.hi,t6,t7⟩
  have CW:=ud HG.out.2.1 f hf aP hcap hr200
  unfold recC at CW
  have HC:=jH CW
  clear CW
  generalize wF.alloc (cL #[X Y 1,X Z f.k.src,X Z f.k.dst,X Y f.k.proto,X Y f.k.sport,X Y f.k.dport,X Y f.be,X Y f.gen,X Y f.seen,X Y 0,G none 0 0,X Y 0,X Y 0,X Y 0] 119)=wG at HG HC⊢
  clear p4 r0 r1 r2 r3 r4 r5 r6 r7 r8 r9 r10 r11 r12 r13 HF
  refine HC.out.mono ?_
  rintro e w5 ⟨rfl,hba,hfw⟩
  have HE:Hid (ab w5 q 116 #[X Y 2,X Y 0,X Y bid,G A9 n9 c9,G (some ⟨g,0,none⟩) 1 1]∧aM w5 aa p ag fl ah aj quota V gen now (ops + 9) (rs++[.put (aT V f)]) n0 bl fm' l' made∧ab w5 h0 28 #[X Y 0,X Y 0,X Y 0,G none 0 0]∧Fr KB p.maps aa w w5∧dK il (bD k) now l'∧h0=w.heap.size):=by
   obtain⟨t1,t3,t4,t5,t6,t7⟩:=HG.out
   exact⟨hfw.blk _ _ _ t1 (by decide),hba,hfw.blk _ _ _ t4 (by decide),t5.trans (hfw.mono (fun t ht=>List.mem_append_left _ (List.mem_append_left _ ht)) (fun b hb=>by simp only[BP.maps,List.mem_cons,List.not_mem_nil,or_false] at hb⊢;rcases hb with rfl|rfl<;>simp)),t6,t7⟩
  clear HG HC hba hfw
  obtain⟨p0,p1,p2,p3⟩:=HE.out.1.c4
  obtain⟨o0,o1,o2,o3⟩:=HE.out.2.2.1.c4
  obtain⟨z0,z1,z2,z3⟩:=HE.out.2.2.1.f4
  go_wp2_with fail
  rw[rounds_succ]
  go_wp2_with fail
  have ho:=((((HE.out.2.2.1.set_ 0 (X Y 2)).set_ 1 (X Y 0)).set_ 2 (X Y bid)).set_ 3 (G A9 n9 c9))
  have hg1:w.heap.size≤h0:=Nat.le_of_eq HE.out.2.2.2.2.2.symm
  have ae:aa≤w.heap.size:=hbs.out
  have hbh:aa≤h0:=nT ae hg1
  have hfr:=(((((Fr.refl [28] [] aa w5).set_ HE.out.2.2.1 (by simp) hbh 0 (X Y 2)).set_ (HE.out.2.2.1.set_ 0 (X Y 2)) (by simp) hbh 1 (X Y 0)).set_ ((HE.out.2.2.1.set_ 0 (X Y 2)).set_ 1 (X Y 0)) (by simp) hbh 2 (X Y bid)).set_ (((HE.out.2.2.1.set_ 0 (X Y 2)).set_ 1 (X Y 0)).set_ 2 (X Y bid)) (by simp) hbh 3 (G A9 n9 c9))
  refine bodyPost_ret (results_cell_row rfl _ _ h0 28 #[X Y 2,X Y 0,X Y bid,G A9 n9 c9] (0,0) _ rfl ho underlying28 rfl iK) rfl ?_
  exact⟨⟨A9,n9,c9,rfl⟩,⟨l',HE.out.2.2.2.2.1,HE.out.2.1.fr hfr (by decide)⟩,((((HE.out.2.2.2.1.set_new hg1 ae 0 (X Y 2)).set_new hg1 ae 1 (X Y 0)).set_new hg1 ae 2 (X Y bid)).set_new hg1 ae 3 (G A9 n9 c9))⟩
 ·have HF:(fun Vv:World=>Hid (ab Vv w1.heap.size 116 #[X Y 2,X Y 0,X Y bid,G A9 n9 c9,G (some ⟨g,0,none⟩) 1 1]∧ab Vv g 119 (recC 1 f 0 (G none 0 0))∧aM Vv aa p ag fl ah aj quota V gen now ops rs n0 bl fm' l' made∧ab Vv h0 28 #[X Y 0,X Y 0,X Y 0,G none 0 0]∧Fr KB p.maps aa w Vv∧dK il (bD k) now l'∧h0=w.heap.size)) (((((w2.setCell ⟨w1.heap.size,0,none⟩ (X Y 2)).setCell ⟨w1.heap.size,1,none⟩ (X Y 0)).setCell ⟨w1.heap.size,2,none⟩ (X Y bid)).setCell ⟨w1.heap.size,3,none⟩ (G A9 n9 c9)).setCell ⟨w1.heap.size,4,none⟩ (G (some ⟨g,0,none⟩) 1 1)):=by
   obtain⟨g1,f1,x1,hle,hh0,an⟩:=HH.out
   have hbq:aa≤w1.heap.size:=nT an hle
   have x2:=hfq.blk _ _ _ (x1.below HB.out x1.lt) (by decide)
   have hfr:=((((((Fr.refl [116] [] aa w2).set_ n2 (by simp) hbq 0 (X Y 2)).set_ (n2.set_ 0 (X Y 2)) (by simp) hbq 1 (X Y 0)).set_ ((n2.set_ 0 (X Y 2)).set_ 1 (X Y 0)) (by simp) hbq 2 (X Y bid)).set_ (((n2.set_ 0 (X Y 2)).set_ 1 (X Y 0)).set_ 2 (X Y bid)) (by simp) hbq 3 (G A9 n9 c9)).set_ ((((n2.set_ 0 (X Y 2)).set_ 1 (X Y 0)).set_ 2 (X Y bid)).set_ 3 (G A9 n9 c9)) (by simp) hbq 4 (G (some ⟨g,0,none⟩) 1 1))
   have m2:aM w2 aa p ag fl ah aj quota V gen now ops rs n0 bl fm' l' made:=(g1.made HB.out).flowed hfl (hfq.mono (fun t ht=>List.mem_append_left _ ht) (fun _ hb=>hb))
   refine⟨(((((n2.set_ 0 (X Y 2)).set_ 1 (X Y 0)).set_ 2 (X Y bid)).set_ 3 (G A9 n9 c9)).set_ 4 (G (some ⟨g,0,none⟩) 1 1)),(((((hrec.far (p:=⟨w1.heap.size,0,none⟩) (hrec.ne_ n2 (by decide)) _).far (p:=⟨w1.heap.size,1,none⟩) (hrec.ne_ n2 (by decide)) _).far (p:=⟨w1.heap.size,2,none⟩) (hrec.ne_ n2 (by decide)) _).far (p:=⟨w1.heap.size,3,none⟩) (hrec.ne_ n2 (by decide)) _).far (p:=⟨w1.heap.size,4,none⟩) (hrec.ne_ n2 (by decide)) _),m2.fr hfr (by decide),(((((x2.far (p:=⟨w1.heap.size,0,none⟩) (x2.ne_ n2 (by decide)) _).far (p:=⟨w1.heap.size,1,none⟩) (x2.ne_ n2 (by decide)) _).far (p:=⟨w1.heap.size,2,none⟩) (x2.ne_ n2 (by decide)) _).far (p:=⟨w1.heap.size,3,none⟩) (x2.ne_ n2 (by decide)) _).far (p:=⟨w1.heap.size,4,none⟩) (x2.ne_ n2 (by decide)) _),?_,hq,hh0⟩
   have hw2:Fr KB p.maps aa w w2:=(((Fr.mono f1 (by simp) (by simp))).trans ((Fr.mono (Fr.of_below [] [] HB.out hbq) (by simp) (by simp)))).trans ((Fr.mono hfq.toFr (fun t ht=>List.mem_append_left _ (List.mem_append_right _ (List.mem_append_left _ ht))) (fun b hb=>by simp only[BP.maps,List.mem_cons,List.not_mem_nil,or_false] at hb⊢;rcases hb with rfl|rfl|rfl<;>simp)))
   have hg0:w.heap.size≤w1.heap.size:=by rw[←hh0];exact hle
   have hbase0:aa≤w.heap.size:=by rw[←hh0];exact an
   exact(((((hw2.set_new hg0 hbase0 0 (X Y 2)).set_new hg0 hbase0 1 (X Y 0)).set_new hg0 hbase0 2 (X Y bid)).set_new hg0 hbase0 3 (G A9 n9 c9)).set_new hg0 hbase0 4 (G (some ⟨g,0,none⟩) 1 1))
  generalize (((((w2.setCell ⟨w1.heap.size,0,none⟩ (X Y 2)).setCell ⟨w1.heap.size,1,none⟩ (X Y 0)).setCell ⟨w1.heap.size,2,none⟩ (X Y bid)).setCell ⟨w1.heap.size,3,none⟩ (G A9 n9 c9)).setCell ⟨w1.heap.size,4,none⟩ (G (some ⟨g,0,none⟩) 1 1))=wF at HF⊢
  generalize w1.heap.size=q at HF⊢
  clear k1 e0 h2 CA CB c0' a0 nA HH HB B1 B2 hfq hfl hq n2 s0 s1 s2 s3 s4 z0 z1 z2 z3 z4 hn hrec
  have p4:=HF.out.1.cell 4
  have r0:=HF.out.2.1.cell 0
  have r1:=HF.out.2.1.cell 1
  have r2:=HF.out.2.1.cell 2
  have r3:=HF.out.2.1.cell 3
  have r4:=HF.out.2.1.cell 4
  have r5:=HF.out.2.1.cell 5
  have r6:=HF.out.2.1.cell 6
  have r7:=HF.out.2.1.cell 7
  have r8:=HF.out.2.1.cell 8
  have r9:=HF.out.2.1.cell 9
  have r10:=HF.out.2.1.cell 10
  have r11:=HF.out.2.1.cell 11
  have r12:=HF.out.2.1.cell 12
  have r13:=HF.out.2.1.cell 13
  simp only[recC,ga,gz,gN] at p4 r0 r1 r2 r3 r4 r5 r6 r7 r8 r9 r10 r11 r12 r13
  go_wp2_with fail
  refine wp_loop_rounds 2 ?_
  rw[rounds_succ]
  go_wp2_with fail
  have HG:(fun Vv:World=>Hid (ab Vv q 116 #[X Y 2,X Y 0,X Y bid,G A9 n9 c9,G (some ⟨g,0,none⟩) 1 1]∧aM Vv aa p ag fl ah aj quota V gen now ops rs n0 bl fm' l' made∧ab Vv h0 28 #[X Y 0,X Y 0,X Y 0,G none 0 0]∧Fr KB p.maps aa w Vv∧dK il (bD k) now l'∧h0=w.heap.size)) (wF.alloc (cL #[X Y 1,X Z f.k.src,X Z f.k.dst,X Y f.k.proto,X Y f.k.sport,X Y f.k.dport,X Y f.be,X Y f.gen,X Y f.seen,X Y 0,G none 0 0,X Y 0,X Y 0,X Y 0] 119)):=by
   obtain⟨t1,t2,t3,t4,t5,t6,t7⟩:=HF.out
   have hb:Below wF.heap.size wF (wF.alloc (cL #[X Y 1,X Z f.k.src,X Z f.k.dst,X Y f.k.proto,X Y f.k.sport,X Y f.k.dport,X Y f.be,X Y f.gen,X Y f.seen,X Y 0,G none 0 0,X Y 0,X Y 0,X Y 0] 119)):=(bR _ _).alloc (nR _) _
   exact⟨t1.alloc _,t3.made hb,t4.alloc _,t5.made hb t3.hi,t6,t7⟩
  have CW:=ud HG.out.2.1 f hf aP hcap hr200
  unfold recC at CW
  have HC:=jH CW
  clear CW
  generalize wF.alloc (cL #[X Y 1,X Z f.k.src,X Z f.k.dst,X Y f.k.proto,X Y f.k.sport,X Y f.k.dport,X Y f.be,X Y f.gen,X Y f.seen,X Y 0,G none 0 0,X Y 0,X Y 0,X Y 0] 119)=wG at HG HC⊢
  clear p4 r0 r1 r2 r3 r4 r5 r6 r7 r8 r9 r10 r11 r12 r13 HF
  refine HC.out.mono ?_
  rintro e w5 ⟨rfl,hba,hfw⟩
  have HE:Hid (ab w5 q 116 #[X Y 2,X Y 0,X Y bid,G A9 n9 c9,G (some ⟨g,0,none⟩) 1 1]∧aM w5 aa p ag fl ah aj quota V gen now (ops + 9) (rs++[.put (aT V f)]) n0 bl fm' l' made∧ab w5 h0 28 #[X Y 0,X Y 0,X Y 0,G none 0 0]∧Fr KB p.maps aa w w5∧dK il (bD k) now l'∧h0=w.heap.size):=by
   obtain⟨t1,t3,t4,t5,t6,t7⟩:=HG.out
   exact⟨hfw.blk _ _ _ t1 (by decide),hba,hfw.blk _ _ _ t4 (by decide),t5.trans (hfw.mono (fun t ht=>List.mem_append_left _ (List.mem_append_left _ ht)) (fun b hb=>by simp only[BP.maps,List.mem_cons,List.not_mem_nil,or_false] at hb⊢;rcases hb with rfl|rfl<;>simp)),t6,t7⟩
  clear HG HC hba hfw
  obtain⟨p0,p1,p2,p3⟩:=HE.out.1.c4
  obtain⟨o0,o1,o2,o3⟩:=HE.out.2.2.1.c4
  obtain⟨z0,z1,z2,z3⟩:=HE.out.2.2.1.f4
  go_wp2_with fail
  rw[rounds_succ]
  go_wp2_with fail
  have ho:=((((HE.out.2.2.1.set_ 0 (X Y 2)).set_ 1 (X Y 0)).set_ 2 (X Y bid)).set_ 3 (G A9 n9 c9))
  have hg1:w.heap.size≤h0:=Nat.le_of_eq HE.out.2.2.2.2.2.symm
  have ae:aa≤w.heap.size:=hbs.out
  have hbh:aa≤h0:=nT ae hg1
  have hfr:=(((((Fr.refl [28] [] aa w5).set_ HE.out.2.2.1 (by simp) hbh 0 (X Y 2)).set_ (HE.out.2.2.1.set_ 0 (X Y 2)) (by simp) hbh 1 (X Y 0)).set_ ((HE.out.2.2.1.set_ 0 (X Y 2)).set_ 1 (X Y 0)) (by simp) hbh 2 (X Y bid)).set_ (((HE.out.2.2.1.set_ 0 (X Y 2)).set_ 1 (X Y 0)).set_ 2 (X Y bid)) (by simp) hbh 3 (G A9 n9 c9))
  refine bodyPost_ret (results_cell_row rfl _ _ h0 28 #[X Y 2,X Y 0,X Y bid,G A9 n9 c9] (0,0) _ rfl ho underlying28 rfl iK) rfl ?_
  exact⟨⟨A9,n9,c9,rfl⟩,⟨l',HE.out.2.2.2.2.1,HE.out.2.1.fr hfr (by decide)⟩,((((HE.out.2.2.2.1.set_new hg1 ae 0 (X Y 2)).set_new hg1 ae 1 (X Y 0)).set_new hg1 ae 2 (X Y bid)).set_new hg1 ae 3 (G A9 n9 c9))⟩
theorem tN {w:World}{aa:Nat}{p:BP}{ag fl ah aj quota V gen now ops n0:Nat}{rs:List aE}{bl:List Be}{fm:List (Tu×Fl)}{il:List It}{made:Int}(h:aM w aa p ag fl ah aj quota V gen now ops rs n0 bl fm il made)(fm':List (Tu×Fl))(R:List It→Prop)(vd rz bd:Int)(A:Option Addr)(n c:Nat)
  (CP:∀W,Below w.heap.size w W→Calls Pg 41 #[aG #[X Z 168364297,X Y ag,X Y fl,X Y ah,X Y 1500,X Y aj,X Y quota,X Y V],PT (some ⟨p.tp,0,none⟩),PT (some ⟨p.chp,0,none⟩),X Y gen,X Y now,G A n c] W fun e w'=>(∃A' n' c',e=rT (aG #[X Y vd,X Y rz,X Y bd,G A' n' c',G none 0 0]))∧(∃l',R l'∧cg w' aa p.tp p.tm p.tk p.qp p.qm fl ah fm' l')∧bC p.qp KF [p.tm,p.tk,p.qm] aa W w'):
  Calls Pg 18 #[PT (some ⟨p.bp,0,none⟩),G A n c] w fun e w'=>(∃A' n' c',e=rT (aG #[X Y vd,X Y rz,X Y bd,G A' n' c']))∧(∃l',R l'∧aM w' aa p ag fl ah aj quota V gen now ops rs n0 bl fm' l' made)∧Fr KB p.maps aa w w':=by
 obtain⟨A0,c0,k1,k2⟩:=h.blk
 obtain⟨h0,hh0⟩:∃h0,h0=w.heap.size:=⟨_,rfl⟩
 have ae:=(bR w.heap.size w).alloc (nR _) (cL #[X Y 0,X Y 0,X Y 0,G none 0 0] 28)
 have x1:=ab.new w 28 #[X Y 0,X Y 0,X Y 0,G none 0 0]
 rw[←hh0] at x1
 have an:=h.hi
 have g1:=h.made ae
 have b1:=k1.below ae k1.lt
 have f1:Fr [] [] aa w (w.alloc (cL #[X Y 0,X Y 0,X Y 0,G none 0 0] 28)):=Fr.of_below [] [] ae an
 have C1:=fun W hW=>CP W (ae.trans hW)
 have hz1:(w.alloc (cL #[X Y 0,X Y 0,X Y 0,G none 0 0] 28)).heap.size=w.heap.size + 1:=by simp
 clear CP k2
 have hbs:=jH an
 go_enter func18,ntmps18
 go_wp2_with fail
 rw[←hh0] at ae C1 an hz1⊢
 generalize w.alloc (cL #[X Y 0,X Y 0,X Y 0,G none 0 0] 28)=w1 at *
 have hle:h0≤w1.heap.size:=by omega
 have hbB:Below w1.heap.size w1 (w1.alloc (cL #[X Y 0,X Y 0,X Y 0,G none 0 0,G none 0 0] 116)).drew:=((bR _ _).alloc (nR _) _).drew
 have CA:=jH (C1 w1.drew ((bR _ _).drew.mono hle))
 have CB:=jH (C1 (w1.alloc (cL #[X Y 0,X Y 0,X Y 0,G none 0 0,G none 0 0] 116)).drew (hbB.mono hle))
 have c0':=gh b1.drew
 have bB:=b1.below hbB b1.lt
 have a0:=gh bB
 have nA:ab (w1.alloc (cL #[X Y 0,X Y 0,X Y 0,G none 0 0,G none 0 0] 116)).drew w1.heap.size 116 #[X Y 0,X Y 0,X Y 0,G none 0 0,G none 0 0]:=(ab.new w1 _ _).drew
 have HH:=jH (aI g1 (aI f1 (aI x1 (aI hle (aI hh0 an)))))
 have HB:=jH hbB
 have B1:=jH b1
 have B2:=jH bB
 clear g1 f1 ae h k1 hz1 hbB C1 b1 bB hle an x1 hh0
 go_region_held3 (fun wS=>wS.cell? ⟨p.bp,0,none⟩=some (X Z 168364297)∧wS.cell? ⟨p.bp,1,none⟩=some (X Y ag)∧wS.cell? ⟨p.bp,2,none⟩=some (X Y fl)∧wS.cell? ⟨p.bp,3,none⟩=some (X Y ah)∧wS.cell? ⟨p.bp,4,none⟩=some (X Y 1500)∧wS.cell? ⟨p.bp,5,none⟩=some (X Y aj)∧wS.cell? ⟨p.bp,6,none⟩=some (X Y quota)∧wS.cell? ⟨p.bp,7,none⟩=some (X Y V)∧wS.cell? ⟨p.bp,10,none⟩=some (PT (some ⟨p.tp,0,none⟩))∧wS.cell? ⟨p.bp,11,none⟩=some (PT (some ⟨p.chp,0,none⟩))∧wS.cell? ⟨p.bp,13,none⟩=some (X Y gen)∧wS.cell? ⟨p.bp,15,none⟩=some (X Y now)) (first|with_reducible exact c0'|with_reducible exact a0|with_reducible exact e0|with_reducible exact h1 _|with_reducible exact h2 _ _ _ _ _|fail)
  (first
   |(go_at_call 41;(with_reducible refine CA.out.mono ?_);rintro e w2 ⟨⟨A9,n9,c9,rfl⟩,⟨l',hq,hfl⟩,hfq⟩;have k1:=hfq.blk _ _ _ B1.out.drew (by decide);have e0:=gh k1;have h1:=fun o=>gh (k1.alloc o))
   |(go_at_call 41;(with_reducible refine CB.out.mono ?_);rintro e w2 ⟨⟨A9,n9,c9,rfl⟩,⟨l',hq,hfl⟩,hfq⟩;have k1:=hfq.blk _ _ _ B2.out (by decide);have e0:=gh k1;have n2:=hfq.blk _ _ _ nA (by decide);have s0:=n2.cell 0;have s1:=n2.cell 1;have s2:=n2.cell 2;have s3:=n2.cell 3;have s4:=n2.cell 4;have z0:=n2.frozen 0;have z1:=n2.frozen 1;have z2:=n2.frozen 2;have z3:=n2.frozen 3;have z4:=n2.frozen 4;(simp only[ga,gz,gN] at s0 s1 s2 s3 s4);have hn:=k1.ne_ n2 (by decide);have h2:=fun v0 v1 v2 v3 v4=>gh (((((k1.far (p:=⟨w1.heap.size,0,none⟩) hn v0).far (p:=⟨w1.heap.size,1,none⟩) hn v1).far (p:=⟨w1.heap.size,2,none⟩) hn v2).far (p:=⟨w1.heap.size,3,none⟩) hn v3).far (p:=⟨w1.heap.size,4,none⟩) hn v4)))
 ·have HF:(fun Vv:World=>Hid (ab Vv w2.heap.size 116 #[X Y vd,X Y rz,X Y bd,G A9 n9 c9,G none 0 0]∧aM Vv aa p ag fl ah aj quota V gen now ops rs n0 bl fm' l' made∧ab Vv h0 28 #[X Y 0,X Y 0,X Y 0,G none 0 0]∧Fr KB p.maps aa w Vv∧R l'∧h0=w.heap.size)) (w2.alloc (cL #[X Y vd,X Y rz,X Y bd,G A9 n9 c9,G none 0 0] 116)):=by
   obtain⟨g1,f1,x1,hle,hh0,an⟩:=HH.out
   have af:Below w2.heap.size w2 (w2.alloc (cL #[X Y vd,X Y rz,X Y bd,G A9 n9 c9,G none 0 0] 116)):=(bR _ _).alloc (nR _) _
   have hd1:Below w1.heap.size w1 w1.drew:=(bR _ _).drew
   have aA:aa≤w1.drew.heap.size:=nT an hle
   have hbw2:aa≤w2.heap.size:=nT aA hfq.size
   have m2:aM w2 aa p ag fl ah aj quota V gen now ops rs n0 bl fm' l' made:=(g1.made hd1).flowed hfl (hfq.mono (fun t ht=>List.mem_append_left _ ht) (fun _ hb=>hb))
   refine⟨ab.new_ rfl,m2.made af,(hfq.blk _ _ _ x1.drew (by decide)).alloc _,?_,hq,hh0⟩
   exact(((Fr.mono f1 (by simp) (by simp))).trans ((Fr.mono (Fr.of_below [] [] hd1 (nT an hle)) (by simp) (by simp)))).trans (((Fr.mono hfq.toFr (fun t ht=>List.mem_append_left _ (List.mem_append_right _ (List.mem_append_left _ ht))) (fun b hb=>by simp only[BP.maps,List.mem_cons,List.not_mem_nil,or_false] at hb⊢;rcases hb with rfl|rfl|rfl<;>simp))).trans (Fr.mono (Fr.of_below [] [] af hbw2) (by simp) (by simp)))
  generalize (w2.alloc (cL #[X Y vd,X Y rz,X Y bd,G A9 n9 c9,G none 0 0] 116))=wF at HF⊢
  generalize w2.heap.size=q at HF⊢
  clear k1 e0 h1 CA CB c0' a0 nA HH HB B1 B2 hfq hfl hq
  have p4:=HF.out.1.cell 4
  simp only[ga,gz,gN] at p4
  go_wp2_with fail
  refine wp_loop_rounds 1 ?_
  rw[rounds_succ]
  have HE:Hid (ab wF q 116 #[X Y vd,X Y rz,X Y bd,G A9 n9 c9,G none 0 0]∧aM wF aa p ag fl ah aj quota V gen now ops rs n0 bl fm' l' made∧ab wF h0 28 #[X Y 0,X Y 0,X Y 0,G none 0 0]∧Fr KB p.maps aa w wF∧R l'∧h0=w.heap.size):=HF
  clear HF p4
  obtain⟨w5,hw5⟩:∃w5,w5=wF:=⟨_,rfl⟩
  rw[←hw5] at HE⊢
  clear hw5
  obtain⟨p0,p1,p2,p3⟩:=HE.out.1.c4
  obtain⟨o0,o1,o2,o3⟩:=HE.out.2.2.1.c4
  obtain⟨z0,z1,z2,z3⟩:=HE.out.2.2.1.f4
  go_wp2_with fail
  have ho:=((((HE.out.2.2.1.set_ 0 (X Y vd)).set_ 1 (X Y rz)).set_ 2 (X Y bd)).set_ 3 (G A9 n9 c9))
  have hg1:w.heap.size≤h0:=Nat.le_of_eq HE.out.2.2.2.2.2.symm
  have ae:aa≤w.heap.size:=hbs.out
  have hbh:aa≤h0:=nT ae hg1
  have hfr:=(((((Fr.refl [28] [] aa w5).set_ HE.out.2.2.1 (by simp) hbh 0 (X Y vd)).set_ (HE.out.2.2.1.set_ 0 (X Y vd)) (by simp) hbh 1 (X Y rz)).set_ ((HE.out.2.2.1.set_ 0 (X Y vd)).set_ 1 (X Y rz)) (by simp) hbh 2 (X Y bd)).set_ (((HE.out.2.2.1.set_ 0 (X Y vd)).set_ 1 (X Y rz)).set_ 2 (X Y bd)) (by simp) hbh 3 (G A9 n9 c9))
  refine bodyPost_ret (results_cell_row rfl _ _ h0 28 #[X Y vd,X Y rz,X Y bd,G A9 n9 c9] (0,0) _ rfl ho underlying28 rfl iK) rfl ?_
  exact⟨⟨A9,n9,c9,rfl⟩,⟨l',HE.out.2.2.2.2.1,HE.out.2.1.fr hfr (by decide)⟩,((((HE.out.2.2.2.1.set_new hg1 ae 0 (X Y vd)).set_new hg1 ae 1 (X Y rz)).set_new hg1 ae 2 (X Y bd)).set_new hg1 ae 3 (G A9 n9 c9))⟩
 ·have HF:(fun Vv:World=>Hid (ab Vv w1.heap.size 116 #[X Y vd,X Y rz,X Y bd,G A9 n9 c9,G none 0 0]∧aM Vv aa p ag fl ah aj quota V gen now ops rs n0 bl fm' l' made∧ab Vv h0 28 #[X Y 0,X Y 0,X Y 0,G none 0 0]∧Fr KB p.maps aa w Vv∧R l'∧h0=w.heap.size)) (((((w2.setCell ⟨w1.heap.size,0,none⟩ (X Y vd)).setCell ⟨w1.heap.size,1,none⟩ (X Y rz)).setCell ⟨w1.heap.size,2,none⟩ (X Y bd)).setCell ⟨w1.heap.size,3,none⟩ (G A9 n9 c9)).setCell ⟨w1.heap.size,4,none⟩ (G none 0 0)):=by
   obtain⟨g1,f1,x1,hle,hh0,an⟩:=HH.out
   have hbq:aa≤w1.heap.size:=nT an hle
   have x2:=hfq.blk _ _ _ (x1.below HB.out x1.lt) (by decide)
   have hfr:=((((((Fr.refl [116] [] aa w2).set_ n2 (by simp) hbq 0 (X Y vd)).set_ (n2.set_ 0 (X Y vd)) (by simp) hbq 1 (X Y rz)).set_ ((n2.set_ 0 (X Y vd)).set_ 1 (X Y rz)) (by simp) hbq 2 (X Y bd)).set_ (((n2.set_ 0 (X Y vd)).set_ 1 (X Y rz)).set_ 2 (X Y bd)) (by simp) hbq 3 (G A9 n9 c9)).set_ ((((n2.set_ 0 (X Y vd)).set_ 1 (X Y rz)).set_ 2 (X Y bd)).set_ 3 (G A9 n9 c9)) (by simp) hbq 4 (G none 0 0))
   have m2:aM w2 aa p ag fl ah aj quota V gen now ops rs n0 bl fm' l' made:=(g1.made HB.out).flowed hfl (hfq.mono (fun t ht=>List.mem_append_left _ ht) (fun _ hb=>hb))
   refine⟨(((((n2.set_ 0 (X Y vd)).set_ 1 (X Y rz)).set_ 2 (X Y bd)).set_ 3 (G A9 n9 c9)).set_ 4 (G none 0 0)),m2.fr hfr (by decide),(((((x2.far (p:=⟨w1.heap.size,0,none⟩) (x2.ne_ n2 (by decide)) _).far (p:=⟨w1.heap.size,1,none⟩) (x2.ne_ n2 (by decide)) _).far (p:=⟨w1.heap.size,2,none⟩) (x2.ne_ n2 (by decide)) _).far (p:=⟨w1.heap.size,3,none⟩) (x2.ne_ n2 (by decide)) _).far (p:=⟨w1.heap.size,4,none⟩) (x2.ne_ n2 (by decide)) _),?_,hq,hh0⟩
   have hw2:Fr KB p.maps aa w w2:=(((Fr.mono f1 (by simp) (by simp))).trans ((Fr.mono (Fr.of_below [] [] HB.out hbq) (by simp) (by simp)))).trans ((Fr.mono hfq.toFr (fun t ht=>List.mem_append_left _ (List.mem_append_right _ (List.mem_append_left _ ht))) (fun b hb=>by simp only[BP.maps,List.mem_cons,List.not_mem_nil,or_false] at hb⊢;rcases hb with rfl|rfl|rfl<;>simp)))
   have hg0:w.heap.size≤w1.heap.size:=by rw[←hh0];exact hle
   have hbase0:aa≤w.heap.size:=by rw[←hh0];exact an
   exact(((((hw2.set_new hg0 hbase0 0 (X Y vd)).set_new hg0 hbase0 1 (X Y rz)).set_new hg0 hbase0 2 (X Y bd)).set_new hg0 hbase0 3 (G A9 n9 c9)).set_new hg0 hbase0 4 (G none 0 0))
  generalize (((((w2.setCell ⟨w1.heap.size,0,none⟩ (X Y vd)).setCell ⟨w1.heap.size,1,none⟩ (X Y rz)).setCell ⟨w1.heap.size,2,none⟩ (X Y bd)).setCell ⟨w1.heap.size,3,none⟩ (G A9 n9 c9)).setCell ⟨w1.heap.size,4,none⟩ (G none 0 0))=wF at HF⊢
  generalize w1.heap.size=q at HF⊢
  clear k1 e0 h2 CA CB c0' a0 nA HH HB B1 B2 hfq hfl hq n2 s0 s1 s2 s3 s4 z0 z1 z2 z3 z4 hn
  have p4:=HF.out.1.cell 4
  simp only[ga,gz,gN] at p4
  go_wp2_with fail
  refine wp_loop_rounds 1 ?_
  rw[rounds_succ]
  have HE:Hid (ab wF q 116 #[X Y vd,X Y rz,X Y bd,G A9 n9 c9,G none 0 0]∧aM wF aa p ag fl ah aj quota V gen now ops rs n0 bl fm' l' made∧ab wF h0 28 #[X Y 0,X Y 0,X Y 0,G none 0 0]∧Fr KB p.maps aa w wF∧R l'∧h0=w.heap.size):=HF
  clear HF p4
  obtain⟨w5,hw5⟩:∃w5,w5=wF:=⟨_,rfl⟩
  rw[←hw5] at HE⊢
  clear hw5
  obtain⟨p0,p1,p2,p3⟩:=HE.out.1.c4
  obtain⟨o0,o1,o2,o3⟩:=HE.out.2.2.1.c4
  obtain⟨z0,z1,z2,z3⟩:=HE.out.2.2.1.f4
  go_wp2_with fail
  have ho:=((((HE.out.2.2.1.set_ 0 (X Y vd)).set_ 1 (X Y rz)).set_ 2 (X Y bd)).set_ 3 (G A9 n9 c9))
  have hg1:w.heap.size≤h0:=Nat.le_of_eq HE.out.2.2.2.2.2.symm
  have ae:aa≤w.heap.size:=hbs.out
  have hbh:aa≤h0:=nT ae hg1
  have hfr:=(((((Fr.refl [28] [] aa w5).set_ HE.out.2.2.1 (by simp) hbh 0 (X Y vd)).set_ (HE.out.2.2.1.set_ 0 (X Y vd)) (by simp) hbh 1 (X Y rz)).set_ ((HE.out.2.2.1.set_ 0 (X Y vd)).set_ 1 (X Y rz)) (by simp) hbh 2 (X Y bd)).set_ (((HE.out.2.2.1.set_ 0 (X Y vd)).set_ 1 (X Y rz)).set_ 2 (X Y bd)) (by simp) hbh 3 (G A9 n9 c9))
  refine bodyPost_ret (results_cell_row rfl _ _ h0 28 #[X Y vd,X Y rz,X Y bd,G A9 n9 c9] (0,0) _ rfl ho underlying28 rfl iK) rfl ?_
  exact⟨⟨A9,n9,c9,rfl⟩,⟨l',HE.out.2.2.2.2.1,HE.out.2.1.fr hfr (by decide)⟩,((((HE.out.2.2.2.1.set_new hg1 ae 0 (X Y vd)).set_new hg1 ae 1 (X Y rz)).set_new hg1 ae 2 (X Y bd)).set_new hg1 ae 3 (G A9 n9 c9))⟩
theorem Al:∀t∈KW,t∈KB:=fun t ht=>List.mem_append_left _ (List.mem_append_left _ ht)
theorem EK {w:World}{aa:Nat}{p:BP}{ag fl ah aj quota V gen now ops n0:Nat}{rs:List aE}{bl:List Be}{fm:List (Tu×Fl)}{il:List It}{made:Int}(h:aM w aa p ag fl ah aj quota V gen now ops rs n0 bl fm il made)(A:Option Addr)(n c:Nat)(l:List Be)(hgen:gen + 1≤1000000)(hok:dD l)(bu:dz l.length l)(hmd:0≤made∧made≤1000000)(hl3:l.length≤3)(aP:ops≤600000000000)(hcap:rs.length < 3 * (aj / 43))
  (CS:Calls Pg 118 #[G A n c] w fun e w'=>∃A' c',e=rT (G A' l.length c')∧w'.ownsRow w.heap.size 34 3 (G A' l.length c') l.length (aC l)∧Below w.heap.size w w'):
  Calls Pg 44 #[PT (some ⟨p.bp,0,none⟩),G A n c] w fun e w'=>e=rT (X Y 0)∧aM w' aa p ag fl ah aj quota V (gen + 1) now (ops + 9) (rs++[.gen (gen + 1) (l.map (aX V))]) n0 l fm il (made + 1)∧Fr KB p.maps aa w w':=by
 have HH:=jH h
 have HS:=jH CS
 have h16:l.length≤16:=bu.1
 clear h CS
 go_enter func44,ntmps44
 go_wp2_with fail
 refine HS.out.mono ?_
 rintro e w1 ⟨A1,c1,rfl,aQ,ae⟩
 have G1:Hid (aM w1 aa p ag fl ah aj quota V gen now ops rs n0 bl fm il made∧w1.ownsRow w.heap.size 34 3 (G A1 l.length c1) l.length (aC l)∧Below w.heap.size w w1):=⟨HH.out.made ae,aQ,ae⟩
 clear aQ ae HS
 have CM:=jH (lQ A1 l.length c1 w1.heap.size l w1 (Reads.of_own G1.out.2.1) (nR _) hok (by omega) (dN G1.out.2.1).1)
 go_wp2_with fail
 refine CM.out.mono ?_
 rintro e w2 ⟨⟨b,rfl,hb⟩,af⟩
 obtain rfl:=hb.2 bu
 have G2:Hid (aM w2 aa p ag fl ah aj quota V gen now ops rs n0 bl fm il made∧w2.ownsRow w.heap.size 34 3 (G A1 l.length c1) l.length (aC l)∧Below w.heap.size w w2):=⟨G1.out.1.made af,aJ G1.out.2.1 af,G1.out.2.2.trans (af.mono G1.out.2.2.size)⟩
 clear hb af CM G1
 have c12:w2.cell? ⟨p.bp,12,none⟩=some (PT (some ⟨p.dp,0,none⟩)):=by
  obtain⟨A',c',k1,k2⟩:=G2.out.1.blk
  have:=k1.cell 12
  simpa [bc] using this
 have CD:=jH (tw aa p.dp p.dm p.qp2 p.qm2 w2 G2.out.1.dr)
 go_wp2_with fail
 refine CD.out.mono ?_
 rintro e w3 ⟨rfl,al⟩
 have G3:Hid (aM w3 aa p ag fl ah aj quota V gen now ops rs n0 bl fm il made∧w3.ownsRow w.heap.size 34 3 (G A1 l.length c1) l.length (aC l)∧Below w.heap.size w w3):=⟨G2.out.1.made al,aJ G2.out.2.1 al,G2.out.2.2.trans (al.mono G2.out.2.2.size)⟩
 clear al CD G2 c12
 go_wp2_with fail
 refine wp_loop_rounds 1 ?_
 rw[rounds_succ]
 go_wp2_with fail
 obtain⟨A0,c0,k1,k2⟩:=G3.out.1.blk
 have k3:=G3.out.1.sto
 have hf16:=HH.out.few
 have CN:=jH (Ek aa p.bp ag fl ah aj quota V p.d p.ss p.tp p.chp p.dp gen now (G A0 bl.length c0) [p.mn,p.sf] (fun _ w'=>dw w' aa p.ss p.lg p.sp p.sd p.sf p.d p.mn aj quota V (ops + 9) (rs++[.gen (gen + 1) (l.map (aX V))]) n0 p.maps) A1 l.length c1 w3 k1 G3.out.1.hi G3.out.1.lob hgen (fun W hW=>vP aa p.ss p.lg p.sp p.sd p.sf p.d p.mn aj quota V ops n0 rs p.maps W (k3.fr hW (by decide) (by decide) (by decide) (by decide) (by simp) (by simp) (by simp) (by simp)) (gen + 1) hgen A1 c1 w.heap.size l (hW.own G3.out.2.1 (by decide)) hok bu hl3 aP (by omega) hcap))
 clear k1 k2 k3 hf16
 refine CN.out.mono ?_
 rintro e w4 ⟨rfl,⟨W,hW,hsto⟩,aZ,hF⟩
 have G4:Hid (dw w4 aa p.ss p.lg p.sp p.sd p.sf p.d p.mn aj quota V (ops + 9) (rs++[.gen (gen + 1) (l.map (aX V))]) n0 p.maps∧ab w4 p.bp 69 (bc ag fl ah aj quota V p.d p.ss p.tp p.chp p.dp (gen + 1) (G A1 l.length c1) now)∧w4.ownsRow w.heap.size 34 3 (G A1 l.length c1) l.length (aC l)∧cg w4 aa p.tp p.tm p.tk p.qp p.qm fl ah fm il∧Ch w4 p.chp ag bl (tableF bl ag) made∧dU w4 aa p.dp p.dm p.qp2 p.qm2∧Fr (KW++[69]) [p.mn,p.sf] aa w w4):=by
  obtain⟨g1,g2,g3⟩:=G3.out
  obtain⟨m1,m2,m3,m4,m5,-⟩:=BP.apart g1.maps
  exact⟨hsto,aZ,hF.own g2 (by decide),g1.fl.fr hF (by decide) (by decide) (by decide) (by decide) m3 m1 m2,g1.ch.fr hF (by decide) (by decide) (by decide),g1.dr.fr hF (by decide) (by decide) m5 m4,(Fr.of_below _ _ g3 HH.out.hi).trans hF⟩
 clear hsto aZ hF hW CN G3
 have CC:=jH (uc aa w.heap.size p.bp ag fl ah aj quota V p.d p.ss p.tp p.chp p.dp (gen + 1) now A1 c1 l bl (tableF bl ag) made p.dm p.qp2 p.qm2 w4 G4.out.2.1 G4.out.2.2.1 G4.out.2.2.2.2.1 G4.out.2.2.2.2.2.1 HH.out.mayn hok bu hmd)
 go_wp2_with fail
 refine CC.out.mono ?_
 rintro e w5 ⟨rfl,hch,cQ⟩
 have G5:Hid (aM w5 aa p ag fl ah aj quota V (gen + 1) now (ops + 9) (rs++[.gen (gen + 1) (l.map (aX V))]) n0 l fm il (made + 1)∧Fr KB p.maps aa w w5):=by
  obtain⟨g1,g2,g3,g4,g5,g6,g7⟩:=G4.out
  obtain⟨cs,hk⟩:=g5.blk
  have hf:=cQ.fr hk HH.out.loc
  have hhi:=HH.out.hi
  exact⟨{HH.out with hi:=nT (nT hhi g7.size) hf.size,blk:=⟨A1,c1,hf.blk _ _ _ g2 (by decide),cO (hf.own g3 (by decide)) hhi⟩,sto:=g1.fr hf (by decide) (by decide) (by decide) (by decide) (by simp) (by simp) (by simp) (by simp),few:=by rw[yb,List.length_map];omega,fl:=g4.fr hf (by decide) (by decide) (by decide) (by decide) (by simp) (by simp) (by simp),ch:=hch,dr:=g6.fr hf (by decide) (by decide) (by simp) (by simp),may:=bu,ok:=hok},
   (g7.mono (fun t ht=>by simp only[List.mem_append,List.mem_singleton] at ht;rcases ht with ht|rfl;exact Al t ht;exact by decide) BP.in2).trans (hf.mono (fun t ht=>by simp only[List.mem_singleton] at ht;subst ht;decide) (fun b hb=>by simp at hb))⟩
 clear hch cQ CC G4
 go_wp2
 go_ret
 exact⟨rfl,G5.out⟩
theorem yA {w:World}{aa size n c g j:Nat}{e:TypeId}{xs:List Value}{u:Value}(h:w.ownsRow aa e size (G (some ⟨g,0,none⟩) n c) n xs)(hu:xs[j]? =some u):w.cell? ⟨g,j,none⟩=some u:=by
 rcases h.2 with⟨h1,_⟩|⟨g',cap,cur,h1,h2,h3,h4,h5,h6,h7⟩
 ·cases h1
 ·injection h1 with h1 _ h1c
  injection h1 with h1
  injection h1 with h1
  subst h1
  have hb:ab w g e cur:=h3
  rw[hb.cell j]
  rw[←h7,List.getElem?_take] at hu
  split at hu
  ·simpa using hu
  ·cases hu
theorem lF {w:World}{aa c j:Nat}{A:Option Addr}{fs:List Fl}{f:Fl}(h:w.ownsRow aa 47 8 (G A fs.length c) fs.length (bE fs))(hf:fs[j]? =some f):∃g,A=some ⟨g,0,none⟩∧∀i u,(ei f)[i]? =some u→w.cell? ⟨g,j * 8 + i,none⟩=some u:=by
 have hj:=(List.getElem?_eq_some_iff.1 hf).1
 rcases h.2 with⟨h1,_⟩|⟨g',cap,cur,h1,h2,h3,h4,h5,h6,h7⟩
 ·injection h1 with h1 h2
  omega
 ·injection h1 with h1
  subst h1
  refine⟨g',rfl,fun i u hu=>yA h ?_⟩
  have hi:i < 8:=by have:=(List.getElem?_eq_some_iff.1 hu).1;rw[jJ] at this;exact this
  rw[oL fs (j * 8 + i) (by omega)]
  have e1:(j * 8 + i) / 8=j:=by omega
  have e2:(j * 8 + i) % 8=i:=by omega
  rw[e1,e2]
  have e3:fs[j]! =f:=by rw[List.getElem!_eq_getElem?_getD,hf];rfl
  rw[e3,List.getElem!_eq_getElem?_getD,hu]
  rfl
theorem Ej (bp:Nat)(bs:Value)(P:World→Prop)(w:World)(CT:∀W,Below w.heap.size w W→Calls Pg 44 #[PT (some ⟨bp,0,none⟩),bs] W fun e w'=>e=rT (X Y 0)∧P w'):
  Calls Pg 19 #[PT (some ⟨bp,0,none⟩),aG #[X Y 3,G none 0 0,X Y 0,X Y 0,X Y 0,bs,G none 0 0]] w fun e w'=>e=rT (X Y 0)∧P w':=by
 have hx:=ab.new w 37 #[X Y 3,G none 0 0,X Y 0,X Y 0,X Y 0,bs,G none 0 0]
 obtain⟨x0,x1,x2,x3,x4,x5,x6⟩:=hx.c7
 have HC:=jH (CT _ ((bR w.heap.size w).alloc (nR _) (cL #[X Y 3,G none 0 0,X Y 0,X Y 0,X Y 0,bs,G none 0 0] 37)))
 clear CT hx
 go_enter func19,ntmps19
 go_wp2_with fail
 refine HC.out.mono ?_
 rintro e w1 ⟨rfl,hP⟩
 have HP:=jH hP
 clear hP HC x0 x1 x2 x3 x4 x5 x6
 go_wp2
 go_ret
 exact⟨rfl,HP.out⟩
theorem Ei (bp ss:Nat)(P:World→Prop)(w:World){t:TypeId}{ag fl ah aj quota V d tp chp dp gen now:Nat}{bs:Value}(hb:ab w bp t (bc ag fl ah aj quota V d ss tp chp dp gen bs now))(CT:∀W,Below w.heap.size w W→Calls Pg 47 #[PT (some ⟨ss,0,none⟩)] W fun e w'=>e=rT (X Y 0)∧P w'):
  Calls Pg 19 #[PT (some ⟨bp,0,none⟩),aG #[X Y 6,G none 0 0,X Y 0,X Y 0,X Y 0,G none 0 0,G none 0 0]] w fun e w'=>e=rT (X Y 0)∧P w':=by
 have hx:=ab.new w 37 #[X Y 6,G none 0 0,X Y 0,X Y 0,X Y 0,G none 0 0,G none 0 0]
 obtain⟨x0,x1,x2,x3,x4,x5,x6⟩:=hx.c7
 have ae:=hb.alloc (cL #[X Y 6,G none 0 0,X Y 0,X Y 0,X Y 0,G none 0 0,G none 0 0] 37)
 have c9:(w.alloc (cL #[X Y 6,G none 0 0,X Y 0,X Y 0,X Y 0,G none 0 0,G none 0 0] 37)).cell? ⟨bp,9,none⟩=some (PT (some ⟨ss,0,none⟩)):=by have:=ae.cell 9;simpa [bc] using this
 have c17:(w.alloc (cL #[X Y 6,G none 0 0,X Y 0,X Y 0,X Y 0,G none 0 0,G none 0 0] 37)).cell? ⟨bp,17,none⟩=some (bL false):=by have:=ae.cell 17;simpa [bc] using this
 have HC:=jH (CT _ ((bR w.heap.size w).alloc (nR _) (cL #[X Y 6,G none 0 0,X Y 0,X Y 0,X Y 0,G none 0 0,G none 0 0] 37)))
 clear CT hx hb ae
 go_enter func19,ntmps19
 go_wp2_with fail
 refine HC.out.mono ?_
 rintro e w1 ⟨rfl,hP⟩
 have HP:=jH hP
 clear hP HC x0 x1 x2 x3 x4 x5 x6 c9 c17
 go_wp2
 go_ret
 exact⟨rfl,HP.out⟩
theorem EH (aa bp:Nat)(bs:Value)(P:World→Prop)(K:List TypeId)(M:List Nat)(w:World){t:TypeId}{ag fl ah aj quota V d ss tp chp dp gen now:Nat}{bs':Value}(hb:ab w bp t (bc ag fl ah aj quota V d ss tp chp dp gen bs' now))(an:aa≤w.heap.size)(hK:28∉K)(hP:∀a b,P a→Fr [28] [] aa a b→P b)
  (CT:∀W,Below w.heap.size w W→Calls Pg 19 #[PT (some ⟨bp,0,none⟩),aG #[X Y 3,G none 0 0,X Y 0,X Y 0,X Y 0,bs,G none 0 0]] W fun e w'=>e=rT (X Y 0)∧P w'∧Fr K M aa W w'):
  Calls Pg 7 #[PT (some ⟨bp,0,none⟩),aG #[X Y 3,G none 0 0,X Y 0,X Y 0,X Y 0,bs,G none 0 0]] w fun e w'=>e=rT (tU #[aG #[X Y 0,X Y 0,X Y 0,G none 0 0],X Y 0])∧P w'∧Fr K M aa w w':=by
 have hx:=(ab.new w 37 #[X Y 3,G none 0 0,X Y 0,X Y 0,X Y 0,bs,G none 0 0]).alloc (cL #[X Y 0,X Y 0,X Y 0,G none 0 0] 28)
 obtain⟨x0,x1,x2,x3,x4,x5,x6⟩:=hx.c7
 have ho:=ab.new (w.alloc (cL #[X Y 3,G none 0 0,X Y 0,X Y 0,X Y 0,bs,G none 0 0] 37)) 28 #[X Y 0,X Y 0,X Y 0,G none 0 0]
 have ae:=(hb.alloc (cL #[X Y 3,G none 0 0,X Y 0,X Y 0,X Y 0,bs,G none 0 0] 37)).alloc (cL #[X Y 0,X Y 0,X Y 0,G none 0 0] 28)
 have c18:((w.alloc (cL #[X Y 3,G none 0 0,X Y 0,X Y 0,X Y 0,bs,G none 0 0] 37)).alloc (cL #[X Y 0,X Y 0,X Y 0,G none 0 0] 28)).cell? ⟨bp,18,none⟩=some (bL false):=by have:=ae.cell 18;simpa [bc] using this
 have hbl:Below w.heap.size w ((w.alloc (cL #[X Y 3,G none 0 0,X Y 0,X Y 0,X Y 0,bs,G none 0 0] 37)).alloc (cL #[X Y 0,X Y 0,X Y 0,G none 0 0] 28)):=((bR w.heap.size w).alloc (nR _) _).alloc (by simp) _
 have hz:(w.alloc (cL #[X Y 3,G none 0 0,X Y 0,X Y 0,X Y 0,bs,G none 0 0] 37)).heap.size=w.heap.size + 1:=by simp
 rw[hz] at ho
 have HC:=jH (CT _ hbl)
 have H:=jH (aI ho hbl)
 clear CT hx hb ae ho hbl
 go_enter func7,ntmps7
 go_wp2_with fail
 generalize ((w.alloc (cL #[X Y 3,G none 0 0,X Y 0,X Y 0,X Y 0,bs,G none 0 0] 37)).alloc (cL #[X Y 0,X Y 0,X Y 0,G none 0 0] 28))=w0 at *
 refine HC.out.mono ?_
 rintro e w1 ⟨rfl,hP_,hF⟩
 have HF:Hid (ab w1 (w.heap.size + 1) 28 #[X Y 0,X Y 0,X Y 0,G none 0 0]∧P w1∧Fr K M aa w w1):=⟨hF.blk _ _ _ H.out.1 hK,hP_,(Fr.of_below K M H.out.2 an).trans hF⟩
 clear hF hP_ HC H x0 x1 x2 x3 x4 x5 x6 c18
 obtain⟨o0,o1,o2,o3⟩:=HF.out.1.c4
 obtain⟨z0,z1,z2,z3⟩:=HF.out.1.f4
 go_wp2_with fail
 have hbq:aa≤w.heap.size + 1:=nT an (nS _)
 have hfr:=(((((Fr.refl [28] [] aa w1).set_ HF.out.1 (by simp) hbq 0 (X Y 0)).set_ (HF.out.1.set_ 0 (X Y 0)) (by simp) hbq 1 (X Y 0)).set_ ((HF.out.1.set_ 0 (X Y 0)).set_ 1 (X Y 0)) (by simp) hbq 2 (X Y 0)).set_ (((HF.out.1.set_ 0 (X Y 0)).set_ 1 (X Y 0)).set_ 2 (X Y 0)) (by simp) hbq 3 (G none 0 0))
 refine bodyPost_ret (fU rfl _ _ (w.heap.size + 1) 28 #[X Y 0,X Y 0,X Y 0,G none 0 0] (0,0) _ rfl ((((HF.out.1.set_ 0 (X Y 0)).set_ 1 (X Y 0)).set_ 2 (X Y 0)).set_ 3 (G none 0 0)) underlying28 rfl iK) rfl ?_
 exact⟨rfl,hP _ _ HF.out.2.1 hfr,((((HF.out.2.2.set_new (nS _) an 0 (X Y 0)).set_new (nS _) an 1 (X Y 0)).set_new (nS _) an 2 (X Y 0)).set_new (nS _) an 3 (G none 0 0))⟩
theorem EG (aa bp:Nat)(P:World→Prop)(K:List TypeId)(M:List Nat)(w:World){t:TypeId}{ag fl ah aj quota V d ss tp chp dp gen now:Nat}{bs':Value}(hb:ab w bp t (bc ag fl ah aj quota V d ss tp chp dp gen bs' now))(an:aa≤w.heap.size)(hK:28∉K)(hP:∀a b,P a→Fr [28] [] aa a b→P b)
  (CT:∀W,Below w.heap.size w W→Calls Pg 19 #[PT (some ⟨bp,0,none⟩),aG #[X Y 6,G none 0 0,X Y 0,X Y 0,X Y 0,G none 0 0,G none 0 0]] W fun e w'=>e=rT (X Y 0)∧P w'∧Fr K M aa W w'):
  Calls Pg 7 #[PT (some ⟨bp,0,none⟩),aG #[X Y 6,G none 0 0,X Y 0,X Y 0,X Y 0,G none 0 0,G none 0 0]] w fun e w'=>e=rT (tU #[aG #[X Y 0,X Y 0,X Y 0,G none 0 0],X Y 0])∧P w'∧Fr K M aa w w':=by
 have hx:=(ab.new w 37 #[X Y 6,G none 0 0,X Y 0,X Y 0,X Y 0,G none 0 0,G none 0 0]).alloc (cL #[X Y 0,X Y 0,X Y 0,G none 0 0] 28)
 obtain⟨x0,x1,x2,x3,x4,x5,x6⟩:=hx.c7
 have ho:=ab.new (w.alloc (cL #[X Y 6,G none 0 0,X Y 0,X Y 0,X Y 0,G none 0 0,G none 0 0] 37)) 28 #[X Y 0,X Y 0,X Y 0,G none 0 0]
 have ae:=(hb.alloc (cL #[X Y 6,G none 0 0,X Y 0,X Y 0,X Y 0,G none 0 0,G none 0 0] 37)).alloc (cL #[X Y 0,X Y 0,X Y 0,G none 0 0] 28)
 have c18:((w.alloc (cL #[X Y 6,G none 0 0,X Y 0,X Y 0,X Y 0,G none 0 0,G none 0 0] 37)).alloc (cL #[X Y 0,X Y 0,X Y 0,G none 0 0] 28)).cell? ⟨bp,18,none⟩=some (bL false):=by have:=ae.cell 18;simpa [bc] using this
 have hbl:Below w.heap.size w ((w.alloc (cL #[X Y 6,G none 0 0,X Y 0,X Y 0,X Y 0,G none 0 0,G none 0 0] 37)).alloc (cL #[X Y 0,X Y 0,X Y 0,G none 0 0] 28)):=((bR w.heap.size w).alloc (nR _) _).alloc (by simp) _
 have hz:(w.alloc (cL #[X Y 6,G none 0 0,X Y 0,X Y 0,X Y 0,G none 0 0,G none 0 0] 37)).heap.size=w.heap.size + 1:=by simp
 rw[hz] at ho
 have HC:=jH (CT _ hbl)
 have H:=jH (aI ho hbl)
 clear CT hx hb ae ho hbl
 go_enter func7,ntmps7
 go_wp2_with fail
 generalize ((w.alloc (cL #[X Y 6,G none 0 0,X Y 0,X Y 0,X Y 0,G none 0 0,G none 0 0] 37)).alloc (cL #[X Y 0,X Y 0,X Y 0,G none 0 0] 28))=w0 at *
 refine HC.out.mono ?_
 rintro e w1 ⟨rfl,hP_,hF⟩
 have HF:Hid (ab w1 (w.heap.size + 1) 28 #[X Y 0,X Y 0,X Y 0,G none 0 0]∧P w1∧Fr K M aa w w1):=⟨hF.blk _ _ _ H.out.1 hK,hP_,(Fr.of_below K M H.out.2 an).trans hF⟩
 clear hF hP_ HC H x0 x1 x2 x3 x4 x5 x6 c18
 obtain⟨o0,o1,o2,o3⟩:=HF.out.1.c4
 obtain⟨z0,z1,z2,z3⟩:=HF.out.1.f4
 go_wp2_with fail
 have hbq:aa≤w.heap.size + 1:=nT an (nS _)
 have hfr:=(((((Fr.refl [28] [] aa w1).set_ HF.out.1 (by simp) hbq 0 (X Y 0)).set_ (HF.out.1.set_ 0 (X Y 0)) (by simp) hbq 1 (X Y 0)).set_ ((HF.out.1.set_ 0 (X Y 0)).set_ 1 (X Y 0)) (by simp) hbq 2 (X Y 0)).set_ (((HF.out.1.set_ 0 (X Y 0)).set_ 1 (X Y 0)).set_ 2 (X Y 0)) (by simp) hbq 3 (G none 0 0))
 refine bodyPost_ret (fU rfl _ _ (w.heap.size + 1) 28 #[X Y 0,X Y 0,X Y 0,G none 0 0] (0,0) _ rfl ((((HF.out.1.set_ 0 (X Y 0)).set_ 1 (X Y 0)).set_ 2 (X Y 0)).set_ 3 (G none 0 0)) underlying28 rfl iK) rfl ?_
 exact⟨rfl,hP _ _ HF.out.2.1 hfr,((((HF.out.2.2.set_new (nS _) an 0 (X Y 0)).set_new (nS _) an 1 (X Y 0)).set_new (nS _) an 2 (X Y 0)).set_new (nS _) an 3 (G none 0 0))⟩
theorem pn (aa bp:Nat)(da:Value)(vd rz bd:Int)(P:World→Prop)(K:List TypeId)(M:List Nat)(w:World){t:TypeId}{ag fl ah aj quota V d ss tp chp dp gen now:Nat}{bs':Value}(hb:ab w bp t (bc ag fl ah aj quota V d ss tp chp dp gen bs' now))(an:aa≤w.heap.size)(hK:28∉K)(hP:∀a b,P a→Fr [28] [] aa a b→P b)
  (CT:∀W,Below w.heap.size w W→Calls Pg 18 #[PT (some ⟨bp,0,none⟩),da] W fun e w'=>(∃A' n' c',e=rT (aG #[X Y vd,X Y rz,X Y bd,G A' n' c']))∧P w'∧Fr K M aa W w'):
  Calls Pg 7 #[PT (some ⟨bp,0,none⟩),aG #[X Y 1,da,X Y 0,X Y 0,X Y 0,G none 0 0,G none 0 0]] w fun e w'=>(∃A' n' c',e=rT (tU #[aG #[X Y vd,X Y rz,X Y bd,G A' n' c'],X Y 0]))∧P w'∧Fr K M aa w w':=by
 have hx:=(ab.new w 37 #[X Y 1,da,X Y 0,X Y 0,X Y 0,G none 0 0,G none 0 0]).alloc (cL #[X Y 0,X Y 0,X Y 0,G none 0 0] 28)
 obtain⟨x0,x1,x2,x3,x4,x5,x6⟩:=hx.c7
 have ho:=ab.new (w.alloc (cL #[X Y 1,da,X Y 0,X Y 0,X Y 0,G none 0 0,G none 0 0] 37)) 28 #[X Y 0,X Y 0,X Y 0,G none 0 0]
 have ae:=(hb.alloc (cL #[X Y 1,da,X Y 0,X Y 0,X Y 0,G none 0 0,G none 0 0] 37)).alloc (cL #[X Y 0,X Y 0,X Y 0,G none 0 0] 28)
 have c18:((w.alloc (cL #[X Y 1,da,X Y 0,X Y 0,X Y 0,G none 0 0,G none 0 0] 37)).alloc (cL #[X Y 0,X Y 0,X Y 0,G none 0 0] 28)).cell? ⟨bp,18,none⟩=some (bL false):=by have:=ae.cell 18;simpa [bc] using this
 have hbl:Below w.heap.size w ((w.alloc (cL #[X Y 1,da,X Y 0,X Y 0,X Y 0,G none 0 0,G none 0 0] 37)).alloc (cL #[X Y 0,X Y 0,X Y 0,G none 0 0] 28)):=((bR w.heap.size w).alloc (nR _) _).alloc (by simp) _
 have hz:(w.alloc (cL #[X Y 1,da,X Y 0,X Y 0,X Y 0,G none 0 0,G none 0 0] 37)).heap.size=w.heap.size + 1:=by simp
 rw[hz] at ho
 have HC:=jH (CT _ hbl)
 have H:=jH (aI ho hbl)
 clear CT hx hb ae ho hbl
 go_enter func7,ntmps7
 go_wp2_with fail
 generalize ((w.alloc (cL #[X Y 1,da,X Y 0,X Y 0,X Y 0,G none 0 0,G none 0 0] 37)).alloc (cL #[X Y 0,X Y 0,X Y 0,G none 0 0] 28))=w0 at *
 refine HC.out.mono ?_
 rintro e w1 ⟨⟨A9,n9,c9,rfl⟩,hP_,hF⟩
 have HF:Hid (ab w1 (w.heap.size + 1) 28 #[X Y 0,X Y 0,X Y 0,G none 0 0]∧P w1∧Fr K M aa w w1):=⟨hF.blk _ _ _ H.out.1 hK,hP_,(Fr.of_below K M H.out.2 an).trans hF⟩
 clear hF hP_ HC H x0 x1 x2 x3 x4 x5 x6 c18
 obtain⟨o0,o1,o2,o3⟩:=HF.out.1.c4
 obtain⟨z0,z1,z2,z3⟩:=HF.out.1.f4
 go_wp2_with fail
 have hbq:aa≤w.heap.size + 1:=nT an (nS _)
 have hfr:=(((((Fr.refl [28] [] aa w1).set_ HF.out.1 (by simp) hbq 0 (X Y vd)).set_ (HF.out.1.set_ 0 (X Y vd)) (by simp) hbq 1 (X Y rz)).set_ ((HF.out.1.set_ 0 (X Y vd)).set_ 1 (X Y rz)) (by simp) hbq 2 (X Y bd)).set_ (((HF.out.1.set_ 0 (X Y vd)).set_ 1 (X Y rz)).set_ 2 (X Y bd)) (by simp) hbq 3 (G A9 n9 c9))
 refine bodyPost_ret (fU rfl _ _ (w.heap.size + 1) 28 #[X Y vd,X Y rz,X Y bd,G A9 n9 c9] (0,0) _ rfl ((((HF.out.1.set_ 0 (X Y vd)).set_ 1 (X Y rz)).set_ 2 (X Y bd)).set_ 3 (G A9 n9 c9)) underlying28 rfl iK) rfl ?_
 exact⟨⟨A9,n9,c9,rfl⟩,hP _ _ HF.out.2.1 hfr,((((HF.out.2.2.set_new (nS _) an 0 (X Y vd)).set_new (nS _) an 1 (X Y rz)).set_new (nS _) an 2 (X Y bd)).set_new (nS _) an 3 (G A9 n9 c9))⟩
end
section
open Go.RowKit Go.Maps
section
variable {w:World}{aa base':Nat}
theorem cq.low {qp qm n c:Nat}{A:Option Addr}{l:List It}(h:cq w aa qp qm A n c l)(hb:base'≤aa):cq w base' qp qm A n c l:=
 ⟨nT hb h.loq,nT hb h.hi,h.blk,cO h.row hb,fun j x hx=>⟨nT hb (h.its j x hx).1,(h.its j x hx).2⟩⟩
theorem di.low {qp qm:Nat}{l:List It}(h:di w aa qp qm l)(hb:base'≤aa):di w base' qp qm l:=by
 obtain⟨A,c,h1⟩:=h.hp
 exact⟨⟨A,c,h1.low hb⟩,h.mp,nT hb h.lom,h.few⟩
theorem gL.low {tp tm tk qp most ah:Nat}{fm:List (Tu×Fl)}(h:gL w aa tp tm tk qp most ah fm)(hb:base'≤aa):gL w base' tp tm tk qp most ah fm:=
 {h with lot:=nT hb h.lot,lom:=nT hb h.lom,lok:=nT hb h.lok}
theorem cg.low {tp tm tk qp qm most ah:Nat}{fm:List (Tu×Fl)}{l:List It}(h:cg w aa tp tm tk qp qm most ah fm l)(hb:base'≤aa):cg w base' tp tm tk qp qm most ah fm l:=
 {h with tab:=h.tab.low hb,q:=h.q.low hb}
theorem Q0.low {qp qm:Nat}(h:Q0 w aa qp qm)(hb:base'≤aa):Q0 w base' qp qm:=⟨nT hb h.loq,nT hb h.lom,h.blk,h.mp⟩
theorem dU.low {dp dm qp qm:Nat}(h:dU w aa dp dm qp qm)(hb:base'≤aa):dU w base' dp dm qp qm:=⟨nT hb h.lod,nT hb h.lom,h.ne,h.blk,h.q.low hb,h.mp⟩
end
end
section
open Go.RowKit Go.Maps
theorem dS.lts {w:World}{aa lg d mn size Q V ops n:Nat}{fs:List (Nat×List Nat)}{mo:List Nat}(h:dS w aa lg d mn size Q V ops fs n mo):∀x∈mo,x < w.heap.size:=by
 obtain⟨ms,D,cs,la,m,fl,fm,h1,h2,h3,h4,h5,h6⟩:=h
 exact h6
theorem dS.grow {w w':World}{aa base' lg d mn size Q V ops n:Nat}{fs:List (Nat×List Nat)}{mo mo':List Nat}{K:List TypeId}(h:dS w aa lg d mn size Q V ops fs n mo)(hf:Fr K [] base' w w')(hK:∀t∈KX,t∉K)(hm:∀x∈mo',x∈mo∨(w.heap.size≤x∧x < w'.heap.size)):dS w' aa lg d mn size Q V ops fs n mo':=by
 obtain⟨ms,D,cs,la,m,fl,fm,h1,h2,h3,h4,h5,h6⟩:=h
 have hl:=h1.sure.lt
 exact⟨ms,D,cs,la,m,fl,fm,h1.fr hf (hK _ (by decide)) (hK _ (by decide)) (hK _ (by decide)) (hK _ (by decide)) (by simp) (by simp),h2.fr hf (hK _ (by decide)) (hK _ (by decide)),h3,h4,fun e=>(hm ms e).elim h5 (fun q=>by omega),fun x hx=>(hm x hx).elim (fun q=>Nat.lt_of_lt_of_le (h6 x q) hf.size) And.right⟩
theorem dw.grow {w w':World}{aa base' ss lg sp sd sf d mn size Q V ops n:Nat}{rs:List aE}{mo mo':List Nat}{K:List TypeId}(h:dw w aa ss lg sp sd sf d mn size Q V ops rs n mo)(hf:Fr K [] base' w w')(h1:175∉K)(h2:192∉K)(h3:34∉K)(hK:∀t∈KX,t∉K)(hsd:sd∈mo')(hsf:sf∈mo')(hm:∀x∈mo',x∈mo∨(w.heap.size≤x∧x < w'.heap.size)):dw w' aa ss lg sp sd sf d mn size Q V ops rs n mo':=
 {h with sto:=h.sto.fr hf h1,st:=h.st.fr hf h2 h3 (by simp) (by simp),lx:=h.lx.grow hf hK hm,isd:=hsd,isf:=hsf}
def KH:List TypeId:=[69,269]++KF
theorem Fr.offM {K:List TypeId}{M:List Nat}{aa:Nat}{w w':World}(h:Fr K M aa w w')(hM:∀b∈M,w.heap.size≤b):Fr K [] aa w w':=
 ⟨h.below,h.blk,fun b es c h0 _=>h.map b es c h0 (fun e=>by have:=hM b e;have:=(Array.getElem?_eq_some_iff.1 h0).1;omega)⟩
def dR (ag fl ah aj quota V d ss:Nat)(v10 v11 v12 v13 v14:Value)(now:Nat):Array Value:=
 #[X Z 168364297,X Y ag,X Y fl,X Y ah,X Y 1500,X Y aj,X Y quota,X Y V,PT (some ⟨d,0,none⟩),PT (some ⟨ss,0,none⟩),v10,v11,v12,v13,v14,X Y now,X Y 0,bL false,bL false]
theorem ji {w:World}{bp ag fl ah aj quota V d ss now:Nat}{v10 v11 v12 v13 v14:Value}{t:TypeId}(h:ab w bp t (dR ag fl ah aj quota V d ss v10 v11 v12 v13 v14 now)):w.cell? ⟨bp,1,none⟩=some (X Y ag)∧w.cell? ⟨bp,2,none⟩=some (X Y fl)∧w.cell? ⟨bp,3,none⟩=some (X Y ah):=
 ⟨by have:=h.cell 1;simpa [dR] using this,by have:=h.cell 2;simpa [dR] using this,by have:=h.cell 3;simpa [dR] using this⟩
def bA (fs:List Fl):List (Tu×Fl):=fs.map fun f=>(f.k,f)
def seenAt (now:Nat)(fs:List Fl):List Fl:=fs.map fun f=>({f with seen:=now}:Fl)
theorem oM {fs:List Fl}{f:Fl}(h:f.k∉fs.map Fl.k):aw (bA fs) f.k f=bA (fs++[f]):=by
 unfold aw
 have:(bA fs).any (fun p=>p.1=f.k)=false:=by
  rw[List.any_eq_false]
  intro p hp
  obtain⟨g,hg,rfl⟩:=List.mem_map.1 hp
  simp
  intro e
  exact h (e▸List.mem_map.2 ⟨g,hg,rfl⟩)
 rw[this]
 simp[bA]
theorem sU {fs:List Fl}{k:Tu}(h:k∉fs.map Fl.k):av (bA fs) k=none:=by
 refine lK fun p hp=>?_
 obtain⟨g,hg,rfl⟩:=List.mem_map.1 hp
 intro e
 exact h (e▸List.mem_map.2 ⟨g,hg,rfl⟩)
theorem qV (now:Nat)(fs:List Fl):(seenAt now fs).map Fl.k=fs.map Fl.k:=by simp[seenAt]
structure pA (w wS:World)(aa bp ag fl ah aj quota V d ss now:Nat)(v13 v14:Value)(tp tm tk qp qm chp dp dm qp2 qm2:Nat):Prop where
 blk:ab wS bp 69 (dR ag fl ah aj quota V d ss (PT (some ⟨tp,0,none⟩)) (PT (some ⟨chp,0,none⟩)) (PT (some ⟨dp,0,none⟩)) v13 v14 now)
 fl:cg wS aa tp tm tk qp qm fl ah [] []
 ch:Ch wS chp ag [] (List.replicate ag (-1)) 0
 dr:dU wS aa dp dm qp2 qm2
 loc:w.heap.size≤chp
 qne:qp≠qp2
 n1:w.heap.size≤tm
 n2:w.heap.size≤tk
 n3:w.heap.size≤qm
 n4:tm < dm∧tk < dm∧qm < dm
 n5:tm < qm2∧tk < qm2∧qm < qm2
 n6:tm≠tk
 fr:Fr [69] [] aa w wS
theorem tT (aa bp ag fl ah aj quota V d ss now gen:Nat)(v10 v11 v12 v13 v14:Value)(A:Option Addr)(c b2:Nat)(bl:List Be)(A3:Option Addr)(c3 b3:Nat)(fs:List Fl)(anew:Bool)(lg sp sd sf mn ops n0:Nat)(rs:List aE)(w:World)
  (hb:ab w bp 69 (dR ag fl ah aj quota V d ss v10 v11 v12 v13 v14 now))(hlo:aa≤bp)(an:aa≤w.heap.size)
  (hr:w.ownsRow b2 34 3 (G A bl.length c) bl.length (aC bl))
  (hfo:w.ownsRow b3 47 8 (G A3 fs.length c3) fs.length (bE fs))(hfok:∀f∈fs,cI f)(hnd:(fs.map Fl.k).Nodup)(hmost:fs.length≤fl)(han:fs=[]∨anew=true)(aV:now≤1099511627776)
  (hs:dw w aa ss lg sp sd sf d mn aj quota V ops rs n0 [mn,sd,sf])(h16:(aS rs).2.1.length≤16)(hok:dD bl)(bu:dz bl.length bl)(hmn:dd ag=true)(hsl:ag≤1000000)(hfl:fl≤256)(hi1:1≤ah)(hi2:ah≤1099511627776):
  Calls Pg 32 #[PT (some ⟨bp,0,none⟩),aG #[X Y gen,G A bl.length c,G none 0 0,G A3 fs.length c3],.bool anew] w fun e w'=>e=rT (tU #[])∧(∃tp tm tk qp qm chp dp dm qp2 qm2 il,aM w' aa ⟨bp,d,ss,tp,chp,dp,lg,sp,sd,sf,mn,tm,tk,qp,qm,dm,qp2,qm2⟩ ag fl ah aj quota V gen now ops rs n0 bl (bA (seenAt now fs)) il 1)∧Fr KH [] aa w w':=by
 have hx:=ab.new w 44 #[X Y gen,G A bl.length c,G none 0 0,G A3 fs.length c3]
 have hbx:Below w.heap.size w (w.alloc (cL #[X Y gen,G A bl.length c,G none 0 0,G A3 fs.length c3] 44)):=(bR _ _).alloc (nR _) _
 have ae:=hb.below hbx hb.lt
 have au:=hb.lt
 have HH:=jH (aI hx (aI hbx (aI ae (aI hs (aI hr hfo)))))
 have hsz:(w.alloc (cL #[X Y gen,G A bl.length c,G none 0 0,G A3 fs.length c3] 44)).heap.size=w.heap.size + 1:=by simp
 have d0:=ji ae.drew
 have hmp:[mn,sd,sf].Nodup∧mn < w.heap.size∧sd < w.heap.size∧sf < w.heap.size:=by
  have e2:=hs.st.ne
  have e3:=hs.mm
  have e4:=hs.md
  exact⟨by simp[e2,e3,e4],hs.lx.lts mn (by simp),hs.st.dr.lt,hs.st.fm.lt⟩
 have HM:=jH hmp
 clear hmp
 have HN:=jH (aI an (aI hfok (aI hnd (aI hmost (aI han (aI aV (aI hlo hsz)))))))
 have HB1:=jH ae.drew
 clear hx hbx ae hs hr hfo hb
 go_enter func32,ntmps32
 go_wp2_with fail
 generalize w.alloc (cL #[X Y gen,G A bl.length c,G none 0 0,G A3 fs.length c3] 44)=w1 at *
 clear hsz an hfok hnd hmost han aV hlo
 go_region_held3 (fun wS=>wS.cell? ⟨bp,1,none⟩=some (X Y ag)∧wS.cell? ⟨bp,2,none⟩=some (X Y fl)∧wS.cell? ⟨bp,3,none⟩=some (X Y ah)) (first|with_reducible exact d0|with_reducible exact d1|with_reducible exact d2|with_reducible exact d3|with_reducible exact d4 _|with_reducible exact d5 _ _|with_reducible exact d6 _ _ _|fail)
  (first
   |(go_at_call 87;(with_reducible refine(B4 fl ah hfl hi1 hi2 _).mono ?_);rintro e w2 ⟨⟨tp,tm,tk,qp,qm,rfl,hfl2⟩,af⟩;have k2:=HB1.out.below af HB1.out.lt;have d1:=ji k2)
   |(go_at_call 88;(with_reducible refine(yX ag hsl hmn _).mono ?_);rintro e w3 ⟨chp,rfl,hle3,hch,al⟩;have k3:=k2.below al k2.lt;have d2:=ji k3)
   |(go_at_call 89;(with_reducible refine(Cw _).mono ?_);rintro e w4 ⟨dp,dm,qp2,qm2,rfl,hdr,aq⟩;have k4:=k3.below aq k3.lt;have d3:=ji k4;have z10:=k4.frozen 10;have z11:=k4.frozen 11;have z12:=k4.frozen 12;have y10:=k4.cell 10;have y11:=k4.cell 11;have y12:=k4.cell 12;(simp only[dR,ga,gz,gN] at y10 y11 y12);have d4:=fun v=>ji (v10:=v) (k4.set_ 10 v);have d5:=fun v u=>ji (v10:=v) (v11:=u) ((k4.set_ 10 v).set_ 11 u);have d6:=fun v u x=>ji (v10:=v) (v11:=u) (v12:=x) (((k4.set_ 10 v).set_ 11 u).set_ 12 x)))
 have HA:(fun Vv:World=>Hid (pA w Vv aa bp ag fl ah aj quota V d ss now v13 v14 tp tm tk qp qm chp dp dm qp2 qm2∧True∧Vv.ownsRow b2 34 3 (G A bl.length c) bl.length (aC bl)∧Vv.ownsRow b3 47 8 (G A3 fs.length c3) fs.length (bE fs)∧ab Vv w.heap.size 44 #[X Y gen,G A bl.length c,G none 0 0,G A3 fs.length c3])) (((w4.setCell ⟨bp,10,none⟩ (PT (some ⟨tp,0,none⟩))).setCell ⟨bp,11,none⟩ (PT (some ⟨chp,0,none⟩))).setCell ⟨bp,12,none⟩ (PT (some ⟨dp,0,none⟩))):=by
  obtain⟨x1,x2,x3,x4,x5,x6⟩:=HH.out
  obtain⟨an,hfok,hnd,hmost,han,aV,hlo,hsz⟩:=HN.out
  have hw1:Below w.heap.size w w1.drew:=x2.drew
  have hsz':w1.drew.heap.size=w.heap.size + 1:=hsz
  have s2:=af.size
  have s3:=al.size
  have s4:=aq.size
  have hw2:Below w.heap.size w w2:=hw1.trans (af.mono (by omega))
  have hw3:Below w.heap.size w w3:=hw2.trans (al.mono (by omega))
  have hw4:Below w.heap.size w w4:=hw3.trans (aq.mono (by omega))
  have hf0:Fr [69] [] aa w4 (((w4.setCell ⟨bp,10,none⟩ (PT (some ⟨tp,0,none⟩))).setCell ⟨bp,11,none⟩ (PT (some ⟨chp,0,none⟩))).setCell ⟨bp,12,none⟩ (PT (some ⟨dp,0,none⟩))):=(((Fr.refl _ _ aa w4).set_ k4 (by simp) hlo 10 _).set_ (k4.set_ 10 _) (by simp) hlo 11 _).set_ ((k4.set_ 10 _).set_ 11 _) (by simp) hlo 12 _
  have e1:=hfl2.tab.mf.lt
  have e2:=hfl2.tab.ks.lt
  obtain⟨m2,hm2,-⟩:=hfl2.q.mp
  have e3:=hm2.lt
  obtain⟨A5,c5,hq5⟩:=hfl2.q.hp
  have e4:=hq5.blk.lt
  have g1:=hfl2.tab.lom
  have g2:=hfl2.tab.lok
  have g3:=hfl2.q.lom
  have g4:=hdr.lom
  have g5:=hdr.q.lom
  have g6:=hdr.q.loq
  have flA:cg w4 aa tp tm tk qp qm fl ah [] []:=((hfl2.low (by omega)).fr (Fr.of_below [] [] (al.trans (aq.mono s3)) (by omega)) (by simp) (by simp) (by simp) (by simp) (by simp) (by simp) (by simp))
  refine⟨⟨((k4.set_ 10 _).set_ 11 _).set_ 12 _,flA.fr hf0 (by decide) (by decide) (by decide) (by decide) (by simp) (by simp) (by simp),(hch.below aq).fr hf0 (by decide) (by decide) (by decide),(hdr.low (by omega)).fr hf0 (by decide) (by decide) (by simp) (by simp),by omega,by omega,by omega,by omega,by omega,⟨by omega,by omega,by omega⟩,⟨by omega,by omega,by omega⟩,hfl2.tab.ne,(Fr.of_below [69] [] hw4 an).trans hf0⟩,?_,?_,?_,?_⟩
  ·trivial
  ·exact hf0.own (aJ x5 hw4) (by decide)
  ·exact hf0.own (aJ x6 hw4) (by decide)
  ·exact hf0.blk _ _ _ (((x1.drew.below af x1.lt).below al (by omega)).below aq (by omega)) (by decide)
 generalize (((w4.setCell ⟨bp,10,none⟩ (PT (some ⟨tp,0,none⟩))).setCell ⟨bp,11,none⟩ (PT (some ⟨chp,0,none⟩))).setCell ⟨bp,12,none⟩ (PT (some ⟨dp,0,none⟩)))=w5 at HA⊢
 clear k2 k3 k4 d0 d1 d2 d3 d4 d5 d6 z10 z11 z12 y10 y11 y12 hfl2 af al aq hch hdr hle3 HB1 au
 have CL:=jH (gH A bl.length c w5.drew.heap.size bl w5.drew (Reads.of_own (World.ownsRow.drew HA.out.2.2.1)) (nR _) (by have:=bu.1;omega) (fun e=>gA HA.out.2.2.1 e))
 have s0:w5.drew.cell? ⟨w.heap.size,0,none⟩=some (X Y gen)∧w5.drew.cell? ⟨w.heap.size,1,none⟩=some (G A bl.length c):=⟨by have:=HA.out.2.2.2.2.drew.cell 0;simpa using this,by have:=HA.out.2.2.2.2.drew.cell 1;simpa using this⟩
 go_wp2_with fail
 go_region_held3 (fun wS=>wS.cell? ⟨w.heap.size,0,none⟩=some (X Y gen)∧wS.cell? ⟨w.heap.size,1,none⟩=some (G A bl.length c)) (first|with_reducible exact s0|with_reducible exact s1|with_reducible exact s2 _|with_reducible exact s3 _ _|fail)
  (first
   |(go_at_call 21;(with_reducible refine CL.out.mono ?_);rintro e w6 ⟨A6,c6,rfl,cA,hb6⟩;have kx:=HA.out.2.2.2.2.drew.below hb6 HA.out.2.2.2.2.lt;have kb:=HA.out.1.blk.drew.below hb6 HA.out.1.blk.lt;have s1:w6.cell? ⟨w.heap.size,0,none⟩=some (X Y gen)∧w6.cell? ⟨w.heap.size,1,none⟩=some (G A bl.length c):=⟨by {have:=kx.cell 0;simpa using this},by {have:=kx.cell 1;simpa using this}⟩;have az:=kx.ne_ kb (by decide);have z13:=kb.frozen 13;have z14:=kb.frozen 14;have y13:=kb.cell 13;have y14:=kb.cell 14;(simp only[dR,ga,gz,gN] at y13 y14);have s2:∀v,(w6.setCell ⟨bp,13,none⟩ v).cell? ⟨w.heap.size,0,none⟩=some (X Y gen)∧(w6.setCell ⟨bp,13,none⟩ v).cell? ⟨w.heap.size,1,none⟩=some (G A bl.length c):=fun v=>⟨by {have:=(kx.far (p:=⟨bp,13,none⟩) az v).cell 0;simpa using this},by {have:=(kx.far (p:=⟨bp,13,none⟩) az v).cell 1;simpa using this}⟩;have s3:∀v u,((w6.setCell ⟨bp,13,none⟩ v).setCell ⟨bp,14,none⟩ u).cell? ⟨w.heap.size,0,none⟩=some (X Y gen)∧((w6.setCell ⟨bp,13,none⟩ v).setCell ⟨bp,14,none⟩ u).cell? ⟨w.heap.size,1,none⟩=some (G A bl.length c):=fun v u=>⟨by {have:=((kx.far (p:=⟨bp,13,none⟩) az v).far (p:=⟨bp,14,none⟩) az u).cell 0;simpa using this},by {have:=((kx.far (p:=⟨bp,13,none⟩) az v).far (p:=⟨bp,14,none⟩) az u).cell 1;simpa using this}⟩))
 have HG:(fun Vv:World=>Hid (pA w Vv aa bp ag fl ah aj quota V d ss now (X Y gen) (G A6 bl.length c6) tp tm tk qp qm chp dp dm qp2 qm2∧True∧Vv.ownsRow aa 34 3 (G A6 bl.length c6) bl.length (aC bl)∧Vv.ownsRow b3 47 8 (G A3 fs.length c3) fs.length (bE fs)∧ab Vv w.heap.size 44 #[X Y gen,G A bl.length c,G none 0 0,G A3 fs.length c3])) ((w6.setCell ⟨bp,13,none⟩ (X Y gen)).setCell ⟨bp,14,none⟩ (G A6 bl.length c6)):=by
  obtain⟨h1,h2,h3,h4,h5⟩:=HA.out
  have hlo:=HN.out.2.2.2.2.2.2.1
  have hbs:=HN.out.1
  have hd5:Below w5.heap.size w5 w5.drew:=(bR _ _).drew
  have hb6':Below w5.heap.size w5 w6:=hd5.trans hb6
  have hf6:Fr [69] [] aa w5 w6:=Fr.of_below _ _ hb6' (nT hbs h1.fr.size)
  have hf7:Fr [69] [] aa w6 ((w6.setCell ⟨bp,13,none⟩ (X Y gen)).setCell ⟨bp,14,none⟩ (G A6 bl.length c6)):=((Fr.refl _ _ aa w6).set_ kb (by simp) hlo 13 _).set_ (kb.set_ 13 _) (by simp) hlo 14 _
  have hf:=hf6.trans hf7
  have hq5:aa≤w5.drew.heap.size:=nT hbs h1.fr.size
  exact⟨{h1 with blk:=(kb.set_ 13 _).set_ 14 _,fl:=h1.fl.fr hf (by decide) (by decide) (by decide) (by decide) (by simp) (by simp) (by simp),ch:=h1.ch.fr hf (by decide) (by decide) (by decide),dr:=h1.dr.fr hf (by decide) (by decide) (by simp) (by simp),fr:=h1.fr.trans hf},trivial,hf7.own (cO cA hq5) (by decide),hf.own h4 (by decide),hf7.blk _ _ _ kx (by decide)⟩
 generalize ((w6.setCell ⟨bp,13,none⟩ (X Y gen)).setCell ⟨bp,14,none⟩ (G A6 bl.length c6))=w8 at HG⊢
 clear kx kb s0 s1 s2 s3 az z13 z14 y13 y14 cA hb6 CL HA
 obtain⟨-,-,x2,x3⟩:=HG.out.2.2.2.2.c4
 go_wp2_with fail
 refine wp_loop_rounds 1 ?_
 rw[rounds_succ]
 go_wp2_with fail
 have HFL:=jH hfl
 clear x2 x3
 go_loopg [68] fs.length (fun gk i wr=>∃(j:Nat) (l':List It),i=X Y j∧Hid (j + gk=fs.length)∧Hid (cg wr aa tp tm tk qp qm fl ah (bA (seenAt now (fs.take j))) l'∧bC qp KF [tm,tk,qm] aa w8 wr))
 case atStart=>exact⟨0,[],rfl,(by show _=_;omega),HG.out.1.fl,bC.refl _ _ _ _ _⟩
 case round=>
  obtain⟨j,l',rfl,hgk,hJ⟩:=hrel
  by_cases au:j < fs.length
  ·have hjn:j≤1024:=by have:=HN.out.2.2.2.1;omega
   obtain⟨f,hfj⟩:∃f,fs[j]? =some f:=⟨_,List.getElem?_eq_getElem au⟩
   have hfmem:=List.mem_of_getElem? hfj
   have hanew:anew=true:=by
    rcases HN.out.2.2.2.2.1 with h0|h0
    ·subst h0;simp at au
    ·exact h0
   subst hanew
   obtain⟨b4,hA3,hc3⟩:=lF (f:=f) (j:=j) (hJ.out.2.toFr.own HG.out.2.2.2.1 (by decide)) hfj
   subst hA3
   have r0:=hc3 0 _ rfl
   have r1:=hc3 1 _ rfl
   have r2:=hc3 2 _ rfl
   have r3:=hc3 3 _ rfl
   have r4:=hc3 4 _ rfl
   have r5:=hc3 5 _ rfl
   have r6:=hc3 6 _ rfl
   have r7:=hc3 7 _ rfl
   simp only[Nat.add_zero] at r0
   clear hc3
   have kb:=hJ.out.2.toFr.blk _ _ _ HG.out.1.blk (by decide)
   have hb7:=(bR wr.heap.size wr).alloc (nR _) (cL #[X Z f.k.src,X Z f.k.dst,X Y f.k.proto,X Y f.k.sport,X Y f.k.dport,X Y f.be,X Y f.gen,X Y f.seen] 47)
   have kb7:=kb.below hb7 kb.lt
   have n15:=kb7.cell 15
   simp only[dR,ga,gz,gN] at n15
   go_wp2_with fail
   have hb8:=(bR wr.heap.size wr).alloc (nR _) (cL #[X Z f.k.src,X Z f.k.dst,X Y f.k.proto,X Y f.k.sport,X Y f.k.dport,X Y f.be,X Y f.gen,X Y now] 47)
   have kb8:=(kb.below hb8 kb.lt).drew
   have hx8:=(ab.new wr 47 #[X Z f.k.src,X Z f.k.dst,X Y f.k.proto,X Y f.k.sport,X Y f.k.dport,X Y f.be,X Y f.gen,X Y now]).drew
   obtain⟨q,hq⟩:∃q,q=wr.heap.size:=⟨_,rfl⟩
   rw[←hq] at hx8⊢
   clear hq
   have hgone:f.k∉(fs.take j).map Fl.k:=by
    intro hm
    obtain⟨f2,hf2,he⟩:=List.mem_map.1 hm
    obtain⟨i2,hi2⟩:=List.getElem?_of_mem hf2
    rw[List.getElem?_take] at hi2
    split at hi2
    ·rename_i hlt2
     obtain⟨hi2l,hi2e⟩:=List.getElem?_eq_some_iff.1 hi2
     obtain⟨hjl,hje⟩:=List.getElem?_eq_some_iff.1 hfj
     have:=(List.getElem_inj (xs:=fs.map Fl.k) (i:=i2) (j:=j) (h₀:=by simpa using hi2l) (h₁:=by simpa using hjl) HN.out.2.2.1).1 (by simp[hi2e,hje,he])
     omega
    ·cases hi2
   have hok8:cI ({f with seen:=now}:Fl):={HN.out.2.1 f hfmem with seen:=HN.out.2.2.2.2.2.1}
   have hlen8:(bA (seenAt now (fs.take j))).length < fl:=by
    have:=HN.out.2.2.2.1
    simp[bA,seenAt]
    omega
   have CP:=jH (sT aa tp tm tk qp qm fl ah (bA (seenAt now (fs.take j))) l' ({f with seen:=now}:Fl) hok8 _ (hJ.out.1.made hb8.drew) (sU (by rw[qV];exact hgone)) hlen8)
   have hsn:bA (seenAt now (fs.take (j + 1)))=aw (bA (seenAt now (fs.take j))) f.k ({f with seen:=now}:Fl):=by
    have e:fs.take (j + 1)=fs.take j++[f]:=by rw[List.take_add_one,hfj];rfl
    rw[e]
    have e2:seenAt now (fs.take j++[f])=seenAt now (fs.take j)++[({f with seen:=now}:Fl)]:=by simp[seenAt]
    rw[e2]
    exact(oM (f:=({f with seen:=now}:Fl)) (by rw[qV];exact hgone)).symm
   have HS:=jH (aI hsn (aI kb8 (aI hx8 hb8)))
   unfold bj Fl.vals at CP
   dsimp only at CP
   generalize wr.alloc (cL #[X Z f.k.src,X Z f.k.dst,X Y f.k.proto,X Y f.k.sport,X Y f.k.dport,X Y f.be,X Y f.gen,X Y now] 47)=w9 at *
   have g0:w9.drew.cell? ⟨bp,10,none⟩=some (PT (some ⟨tp,0,none⟩))∧w9.drew.cell? ⟨q,0,none⟩=some (X Z f.k.src)∧w9.drew.cell? ⟨q,1,none⟩=some (X Z f.k.dst)∧w9.drew.cell? ⟨q,2,none⟩=some (X Y f.k.proto)∧w9.drew.cell? ⟨q,3,none⟩=some (X Y f.k.sport)∧w9.drew.cell? ⟨q,4,none⟩=some (X Y f.k.dport)∧w9.drew.cell? ⟨q,5,none⟩=some (X Y f.be)∧w9.drew.cell? ⟨q,6,none⟩=some (X Y f.gen)∧w9.drew.cell? ⟨q,7,none⟩=some (X Y now):=⟨by have:=kb8.cell 10;simpa [dR] using this,by have:=hx8.cell 0;simpa using this,by have:=hx8.cell 1;simpa using this,by have:=hx8.cell 2;simpa using this,by have:=hx8.cell 3;simpa using this,by have:=hx8.cell 4;simpa using this,by have:=hx8.cell 5;simpa using this,by have:=hx8.cell 6;simpa using this,by have:=hx8.cell 7;simpa using this⟩
   clear kb hb7 kb7 n15 r0 r1 r2 r3 r4 r5 r6 r7 hb8 kb8 hx8 hgone hok8 hlen8 hsn hfj hfmem
   go_region_held3 (fun wS=>wS.cell? ⟨bp,10,none⟩=some (PT (some ⟨tp,0,none⟩))∧wS.cell? ⟨q,0,none⟩=some (X Z f.k.src)∧wS.cell? ⟨q,1,none⟩=some (X Z f.k.dst)∧wS.cell? ⟨q,2,none⟩=some (X Y f.k.proto)∧wS.cell? ⟨q,3,none⟩=some (X Y f.k.sport)∧wS.cell? ⟨q,4,none⟩=some (X Y f.k.dport)∧wS.cell? ⟨q,5,none⟩=some (X Y f.be)∧wS.cell? ⟨q,6,none⟩=some (X Y f.gen)∧wS.cell? ⟨q,7,none⟩=some (X Y now)) (first|with_reducible exact g0|with_reducible exact g1|fail)
    (first
     |(go_at_call 91;(with_reducible refine CP.out.mono ?_);rintro e w10 ⟨rfl,⟨l2,hqs,hfl9⟩,hfq⟩;have k1:=hfq.blk _ _ _ HS.out.2.1 (by decide);have k2:=hfq.blk _ _ _ HS.out.2.2.1 (by decide);have g1:w10.cell? ⟨bp,10,none⟩=some (PT (some ⟨tp,0,none⟩))∧w10.cell? ⟨q,0,none⟩=some (X Z f.k.src)∧w10.cell? ⟨q,1,none⟩=some (X Z f.k.dst)∧w10.cell? ⟨q,2,none⟩=some (X Y f.k.proto)∧w10.cell? ⟨q,3,none⟩=some (X Y f.k.sport)∧w10.cell? ⟨q,4,none⟩=some (X Y f.k.dport)∧w10.cell? ⟨q,5,none⟩=some (X Y f.be)∧w10.cell? ⟨q,6,none⟩=some (X Y f.gen)∧w10.cell? ⟨q,7,none⟩=some (X Y now):=⟨by {have:=k1.cell 10;simpa [dR] using this},by {have:=k2.cell 0;simpa using this},by {have:=k2.cell 1;simpa using this},by {have:=k2.cell 2;simpa using this},by {have:=k2.cell 3;simpa using this},by {have:=k2.cell 4;simpa using this},by {have:=k2.cell 5;simpa using this},by {have:=k2.cell 6;simpa using this},by {have:=k2.cell 7;simpa using this}⟩))
   have HZ:Hid (cg w10 aa tp tm tk qp qm fl ah (bA (seenAt now (fs.take (j + 1)))) l2∧bC qp KF [tm,tk,qm] aa w8 w10):=by
    refine⟨?_,(hJ.out.2.made HS.out.2.2.2.drew (nT HN.out.1 (nT HG.out.1.fr.size hJ.out.2.size))).trans hfq⟩
    rw[HS.out.1]
    exact hfl9
   clear k1 k2 g0 g1 hfq hfl9 hqs CP HS hJ
   go_wp2_with fail
   go_roundg (gk - 1)
   case measure=>have:=hgk.out;omega
   case rel=>exact⟨j + 1,l2,by go_num,(by show _=_;have:=hgk.out;omega),HZ.out.1,HZ.out.2⟩
  ·have hj:j=fs.length:=by have:=hgk.out;omega
   have hfl1:cg wr aa tp tm tk qp qm fl ah (bA (seenAt now fs)) l':=by
    have:=hJ.out.1
    rwa [hj,List.take_of_length_le (nR _)] at this
   have hbq:aa≤w8.heap.size:=nT HN.out.1 HG.out.1.fr.size
   have HA:Hid (pA w wr aa bp ag fl ah aj quota V d ss now (X Y gen) (G A6 bl.length c6) tp tm tk qp qm chp dp dm qp2 qm2→True):=fun _=>trivial
   have hkb:=hJ.out.2.toFr.blk _ _ _ HG.out.1.blk (by decide)
   have how:=hJ.out.2.toFr.own HG.out.2.2.1 (by decide)
   have hch:=HG.out.1.ch.fr hJ.out.2.toFr (by decide) (by decide) (by decide)
   have hnn:dm∉[tm,tk,qm]∧qm2∉[tm,tk,qm]:=by
    obtain⟨h0,h1,h3,h4⟩:=HM.out
    have a1:=HG.out.1.n1
    have a2:=HG.out.1.n2
    have a3:=HG.out.1.n3
    have a4:=HG.out.1.n4
    have a5:=HG.out.1.n5
    simp only[List.mem_cons,List.not_mem_nil,or_false,not_or]
    omega
   have hdr:=HG.out.1.dr.frq hJ.out.2 (fun e=>HG.out.1.qne e.symm) (by decide) hnn.2 hnn.1
   have hst:True:=trivial
   have aA:aa≤wr.heap.size:=nT hbq hJ.out.2.size
   have hlo8:aa≤chp:=nT HN.out.1 HG.out.1.loc
   have CC:=jH (uc aa aa bp ag fl ah aj quota V d ss tp chp dp gen now A6 c6 bl [] (List.replicate ag (-1)) 0 dm qp2 qm2 wr hkb how hch hdr hmn hok bu (by omega))
   have hfrw:Fr ([69]++KF) [tm,tk,qm] aa w wr:=(HG.out.1.fr.mono (fun t ht=>List.mem_append_left _ ht) (fun b hb=>by simp at hb)).trans (hJ.out.2.toFr.mono (fun t ht=>List.mem_append_right _ ht) (fun b hb=>hb))
   have HZ:=jH (aI hkb (aI how (aI hfl1 (aI hdr (aI hst (aI hfrw (aI hch (aI hlo8 aA))))))))
   clear hkb how hch hdr hst hfl1 hfrw hJ HA hlo8 aA hnn
   go_wp2_with fail
   refine CC.out.mono ?_
   rintro e w9 ⟨rfl,hc9,cQ⟩
   have HY:Hid (aM w9 aa ⟨bp,d,ss,tp,chp,dp,lg,sp,sd,sf,mn,tm,tk,qp,qm,dm,qp2,qm2⟩ ag fl ah aj quota V gen now ops rs n0 bl (bA (seenAt now fs)) l' 1∧Fr KH [] aa w w9):=by
    obtain⟨g1,g2,g3,g4,g5,g6,g7,g8,g9⟩:=HZ.out
    obtain⟨cs,hk⟩:=g7.blk
    have hf:=cQ.fr hk g8
    have hF9:Fr KH [] aa w w9:=((g6.offM (by have a1:=HG.out.1.n1;have a2:=HG.out.1.n2;have a3:=HG.out.1.n3;intro b hb;simp at hb;omega)).mono (by decide) (by simp)).trans (hf.mono (by decide) (by simp))
    have gfl:=g3.fr hf (by decide) (by decide) (by decide) (by decide) (by simp) (by simp) (by simp)
    have gdr:=g4.fr hf (by decide) (by decide) (by simp) (by simp)
    have e1:=gfl.tab.mf.lt
    have e2:=gfl.tab.ks.lt
    obtain⟨m2,hm2,-⟩:=gfl.q.mp
    have e3:=hm2.lt
    have e4:=gdr.mp.lt
    have e5:=gdr.q.mp.lt
    refine⟨⟨HN.out.2.2.2.2.2.2.1,g8,nT g9 hf.size,⟨A6,c6,hf.blk _ _ _ g1 (by decide),hf.own g2 (by decide)⟩,HH.out.2.2.2.1.grow hF9 (by decide) (by decide) (by decide) (by decide) (by simp[BP.maps]) (by simp[BP.maps]) (fun x hx=>?_),h16,gfl,hc9,gdr,HG.out.1.qne,?_,bu,hok,hmn⟩,hF9⟩
    ·have a1:=HG.out.1.n1
     have a2:=HG.out.1.n2
     have a3:=HG.out.1.n3
     have a4:=HG.out.1.n4
     have a5:=HG.out.1.n5
     simp only[BP.maps,List.mem_cons,List.not_mem_nil,or_false] at hx⊢
     clear hF9 gfl gdr hm2 hf hk cQ
     omega
    obtain⟨h0,h1,h3,h4⟩:=HM.out
    have a1:=HG.out.1.n1
    have a2:=HG.out.1.n2
    have a3:=HG.out.1.n3
    have a4:=HG.out.1.n4
    have a5:=HG.out.1.n5
    have a6:=HG.out.1.n6
    have a7:=g3.nem
    have a8:=g3.nek
    have a9:=g4.ne
    simp only[BP.maps,List.nodup_cons,List.mem_cons,List.not_mem_nil,or_false,not_or,List.nodup_nil,and_true,not_false_eq_true] at h0⊢
    omega
   clear hc9 cQ CC HZ
   go_wp2
   go_end0
   exact⟨rfl,⟨tp,tm,tk,qp,qm,chp,dp,dm,qp2,qm2,l',HY.out.1⟩,HY.out.2⟩
theorem bP.low {w:World}{aa base' sp sd sf gen:Nat}{bl:List Be}{fm:List (Tu×Fl)}(h:bP w aa sp sd sf gen bl fm)(hb:base'≤aa):bP w base' sp sd sf gen bl fm:=by
 obtain⟨A,c,hk,ho⟩:=h.blk
 exact⟨nT hb h.los,nT hb h.lod,nT hb h.lof,nT hb h.hi,h.ne,⟨A,c,hk,cO ho hb⟩,h.dr,h.fm⟩
theorem vQ (aa d mn ms Q V size:Nat)(w:World)(h:ar w aa d mn ms ⟨Q,0,0,[],[],[],[]⟩)(h1:1≤V)(h3:V≤3)(hs1:43≤size)(hs2:size≤957)(hQ:10000≤Q):
  Calls Pg 31 #[PT (some ⟨d,0,none⟩),X Y V,X Y size] w fun e w'=>∃ss lg sp sd sf,e=rT (tU #[PT (some ⟨ss,0,none⟩),X Y 0])∧w.heap.size≤ss∧w.heap.size≤sd∧w.heap.size≤sf∧sd≠sf∧dw w' aa ss lg sp sd sf d mn size Q V 6 [] 0 [mn,sd,sf]∧Fr KD [mn] aa w w':=by
 have an:=h.hi
 have hmnl:=h.now.lt
 have CC:=jH (Dk aa d mn ms Q V size w h h1 h3 (by omega) (by omega) (by omega))
 clear h
 go_enter func31,ntmps31
 go_wp2_with fail
 refine CC.out.mono ?_
 rintro e w1 ⟨lg,ms',f1,f2,rfl,hf,hms,hlg,hD1,hL1,hF1⟩
 have H1:=jH (aI hf (aI hms (aI hD1 (aI hL1 hF1))))
 have CN:=jH (qK w1)
 have hsz1:=hF1.size
 clear hf hms hD1 hL1 hF1 CC
 go_wp2_with fail
 refine CN.out.mono ?_
 rintro e w2 ⟨sp,sd,sf,rfl,hS2,af⟩
 have HS:=jH (aI hS2 af)
 have hsz2:=af.size
 clear hS2 af CN
 go_wp2_with fail
 have al:Below w2.heap.size w2 (w2.alloc (cL #[PT (some ⟨lg,0,none⟩),PT (some ⟨sp,0,none⟩),X Y 0,G none 0 0,G none 0 0,G none 0 0] 175)):=(bR _ _).alloc (nR _) _
 have hx3:ab (w2.alloc (cL #[PT (some ⟨lg,0,none⟩),PT (some ⟨sp,0,none⟩),X Y 0,G none 0 0,G none 0 0,G none 0 0] 175)) w2.heap.size 175 #[PT (some ⟨lg,0,none⟩),PT (some ⟨sp,0,none⟩),X Y 0,G none 0 0,G none 0 0,G none 0 0]:=ab.new w2 _ _
 have hsz3:(w2.alloc (cL #[PT (some ⟨lg,0,none⟩),PT (some ⟨sp,0,none⟩),X Y 0,G none 0 0,G none 0 0,G none 0 0] 175)).heap.size=w2.heap.size + 1:=by simp
 generalize (w2.alloc (cL #[PT (some ⟨lg,0,none⟩),PT (some ⟨sp,0,none⟩),X Y 0,G none 0 0,G none 0 0,G none 0 0] 175))=w3 at *
 have CV:=jH (ll w1.heap.size sp sd sf 0 [] [] w3 (HS.out.1.made al) (by simp) (by simp))
 refine CV.out.mono ?_
 rintro e w4 ⟨A4,c4,v4,fs4,rfl,-,-,bF,aq⟩
 obtain⟨A5,k5,rfl⟩:=cV bF
 have hsz4:=aq.size
 have hx4:=hx3.below aq hx3.lt
 obtain⟨ss,hss⟩:∃ss,ss=w2.heap.size:=⟨_,rfl⟩
 rw[←hss] at hx4⊢
 obtain⟨-,-,z2,z3,z4,z5⟩:=hx4.f6
 obtain⟨-,-,y2,y3,y4,y5⟩:=hx4.c6
 have HX:=jH (aI hx4 (aI al (aI aq (aI hss (aI hsz1 (aI hsz2 (aI hsz3 hsz4)))))))
 clear hx3 hx4 al aq bF CV hss hsz1 hsz2 hsz3 hsz4
 go_wp2_with fail
 obtain⟨hx4,al,aq,hss,hsz1,hsz2,hsz3,hsz4⟩:=HX.out
 obtain⟨hf,hms,hD1,hL1,hF1⟩:=H1.out
 obtain⟨hS2,af⟩:=HS.out
 have hb24:Below w2.heap.size w2 w4:=al.trans (aq.mono (by omega))
 have hb25:=(((hb24.setCell (p:=⟨ss,2,none⟩) (by show w2.heap.size≤ss;omega) (X Y 0)).setCell (p:=⟨ss,3,none⟩) (by show w2.heap.size≤ss;omega) (G A4 0 c4)).setCell (p:=⟨ss,4,none⟩) (by show w2.heap.size≤ss;omega) (G none 0 0)).setCell (p:=⟨ss,5,none⟩) (by show w2.heap.size≤ss;omega) (G A5 fs4.length k5)
 have hb15:=af.trans (hb25.mono (by omega))
 have hx5:=(((hx4.set_ 2 (X Y 0)).set_ 3 (G A4 0 c4)).set_ 4 (G none 0 0)).set_ 5 (G A5 fs4.length k5)
 have hlms:=hD1.sure.lt
 have hlod:=hS2.lod
 have hlof:=hS2.lof
 go_ret2
 have az:=hS2.ne
 have hsdl:=(hS2.made hb25).dr.lt
 have hsfl:=(hS2.made hb25).fm.lt
 have hmnl5:=(hD1.made hb15).now.lt
 refine⟨ss,lg,sp,sd,sf,rfl,by omega,by omega,by omega,az,⟨⟨by omega,_,_,_,_,hx5⟩,(hS2.made hb25).low (by omega),?_,fun r hr=>by simp at hr,by simp,by simp,by omega,by omega⟩,hF1.made hb15 (by omega)⟩
 refine⟨ms',_,[],[],0,[f1],f2,hD1.made hb15,hL1.made hb15,?_,nR _,by simp only[List.mem_cons,List.not_mem_nil,or_false,not_or];omega,fun x hx=>?_⟩
 ·refine{ld:=Ah Q 6 f1 f2 0 V [] hf,all:=rfl,sure:=nR _,mle:=nR _,big:=fun c hc=>by simp at hc,frs:=fun f hf=>by simp at hf,lim:=Nat.zero_le _,small:=?_,V1:=h1,V3:=h3,s1:=hs1,s2:=hs2,q:=hQ}
  intro g p hp
  unfold iP at hp
  rw[dX] at hp
  split at hp
  ·injection hp with hp;rw[←hp];exact Nat.zero_le _
  ·rw[dX] at hp
   split at hp
   ·injection hp with hp;rw[←hp];show (ck V 2 [1]).length≤1000;rw[oc];simp
   ·simp[av] at hp
 ·simp only[List.mem_cons,List.not_mem_nil,or_false] at hx
  rcases hx with rfl|rfl|rfl
  ·exact hmnl5
  ·exact hsdl
  ·exact hsfl
theorem lY {w W:World}{ag fl ah aj quota V:Nat}{t:TypeId}(h:ab W w.heap.size t #[X Z 168364297,X Y ag,X Y fl,X Y ah,X Y 1500,X Y aj,X Y quota,X Y V]):W.cell? ⟨w.heap.size,0,none⟩=some (X Z 168364297)∧W.cell? ⟨w.heap.size,1,none⟩=some (X Y ag)∧W.cell? ⟨w.heap.size,2,none⟩=some (X Y fl)∧W.cell? ⟨w.heap.size,3,none⟩=some (X Y ah)∧W.cell? ⟨w.heap.size,4,none⟩=some (X Y 1500)∧W.cell? ⟨w.heap.size,5,none⟩=some (X Y aj)∧W.cell? ⟨w.heap.size,6,none⟩=some (X Y quota)∧W.cell? ⟨w.heap.size,7,none⟩=some (X Y V):=⟨h.cell 0,h.cell 1,h.cell 2,h.cell 3,h.cell 4,h.cell 5,h.cell 6,h.cell 7⟩
theorem rY {ag fl ah aj quota V:Nat}(h:pB ag fl ah aj quota V):dd ag=true∧ag≤1000000:=by
 have h1:=h.a1
 simp at h1
 rcases h1 with rfl|rfl|rfl|rfl|rfl|rfl<;>exact⟨by decide,by omega⟩
theorem tV:dz ([]:List Be).length []∧dD []:=⟨⟨by simp,fun j h=>by simp at h⟩,fun b h=>by simp at h⟩
theorem tO (ag fl ah aj quota V:Nat)(h:pB ag fl ah aj quota V)(w:World):
  Calls Pg 14 #[.agg (jh ag fl ah aj quota V)] w fun e w'=>(∃(aa:Nat) (p:BP) (il:List It),e=rT (tU #[PT (some ⟨p.bp,0,none⟩),X Y 0])∧w.heap.size≤aa∧aM w' aa p ag fl ah aj quota V 0 0 6 [] 0 [] [] il 1)∧Below w.heap.size w w':=by
 have hx:=ab.new w 61 #[X Z 168364297,X Y ag,X Y fl,X Y ah,X Y 1500,X Y aj,X Y quota,X Y V]
 have ae:Below w.heap.size w (w.alloc (cL #[X Z 168364297,X Y ag,X Y fl,X Y ah,X Y 1500,X Y aj,X Y quota,X Y V] 61)):=(bR _ _).alloc (nR _) _
 have CM:=jH (fun W=>El ag fl ah aj quota V h W)
 have HC:=jH h
 have H0:=jH (aI hx ae)
 have u0:=lY hx
 unfold jh at CM⊢
 obtain⟨y0,y1,y2,y3,y4,y5,y6,y7⟩:=u0
 clear hx ae h
 go_enter func14,ntmps14
 go_wp2_with fail
 refine(CM.out _).mono ?_
 rintro e w2 ⟨rfl,af⟩
 have H2:Hid (ab w2 w.heap.size 61 #[X Z 168364297,X Y ag,X Y fl,X Y ah,X Y 1500,X Y aj,X Y quota,X Y V]∧Below w.heap.size w w2):=⟨H0.out.1.below af H0.out.1.lt,H0.out.2.trans (af.mono H0.out.2.size)⟩
 clear af H0 CM y0 y1 y2 y3 y4 y5 y6 y7
 have d0:=lY H2.out.1.drew
 go_wp2_with fail
 go_region_held3 (fun wS=>wS.cell? ⟨w.heap.size,0,none⟩=some (X Z 168364297)∧wS.cell? ⟨w.heap.size,1,none⟩=some (X Y ag)∧wS.cell? ⟨w.heap.size,2,none⟩=some (X Y fl)∧wS.cell? ⟨w.heap.size,3,none⟩=some (X Y ah)∧wS.cell? ⟨w.heap.size,4,none⟩=some (X Y 1500)∧wS.cell? ⟨w.heap.size,5,none⟩=some (X Y aj)∧wS.cell? ⟨w.heap.size,6,none⟩=some (X Y quota)∧wS.cell? ⟨w.heap.size,7,none⟩=some (X Y V)) (first|with_reducible exact d0|with_reducible exact d1|with_reducible exact d2 _|fail)
  (first
   |(go_at_call 30;(with_reducible refine(yW quota _ HC.out.a7).mono ?_);rintro e w3 ⟨d,mn,ms,rfl,hdk,al⟩;have k3:=H2.out.1.drew.below al H2.out.1.lt;have d1:=lY k3;have d2:=fun o=>lY (k3.alloc o)))
 have H3:(fun Vv:World=>Hid (ab Vv w3.heap.size 69 #[X Z 168364297,X Y ag,X Y fl,X Y ah,X Y 1500,X Y aj,X Y quota,X Y V,PT (some ⟨d,0,none⟩),PT none,PT none,PT none,PT none,X Y 0,G none 0 0,X Y 0,X Y 0,bL false,bL false]∧ab Vv w.heap.size 61 #[X Z 168364297,X Y ag,X Y fl,X Y ah,X Y 1500,X Y aj,X Y quota,X Y V]∧ar Vv w2.heap.size d mn ms ⟨quota,0,0,[],[],[],[]⟩∧Below w.heap.size w Vv∧w.heap.size≤w2.heap.size∧w2.heap.size≤w3.heap.size)) (w3.alloc (cL #[X Z 168364297,X Y ag,X Y fl,X Y ah,X Y 1500,X Y aj,X Y quota,X Y V,PT (some ⟨d,0,none⟩),PT none,PT none,PT none,PT none,X Y 0,G none 0 0,X Y 0,X Y 0,bL false,bL false] 69)):=by
  obtain⟨h1,h2⟩:=H2.out
  have s3:w2.heap.size≤w3.heap.size:=al.size
  have aq:Below w3.heap.size w3 (w3.alloc (cL #[X Z 168364297,X Y ag,X Y fl,X Y ah,X Y 1500,X Y aj,X Y quota,X Y V,PT (some ⟨d,0,none⟩),PT none,PT none,PT none,PT none,X Y 0,G none 0 0,X Y 0,X Y 0,bL false,bL false] 69)):=(bR _ _).alloc (nR _) _
  have hdd:Below w.heap.size w w2.drew:=h2.drew
  exact⟨ab.new _ _ _,k3.alloc _,ar.made hdk aq,(hdd.trans (al.mono h2.size)).trans (aq.mono (nT h2.size s3)),h2.size,s3⟩
 clear k3 d0 d1 d2 hdk al
 generalize w3.alloc (cL #[X Z 168364297,X Y ag,X Y fl,X Y ah,X Y 1500,X Y aj,X Y quota,X Y V,PT (some ⟨d,0,none⟩),PT none,PT none,PT none,PT none,X Y 0,G none 0 0,X Y 0,X Y 0,bL false,bL false] 69)=w4 at H3⊢
 generalize w3.heap.size=bp at H3⊢
 generalize w2.heap.size=aa at H3
 clear H2
 have CC:=jH (vQ aa d mn ms quota V aj w4.drew (H3.out.2.2.1.made (bR _ _).drew) HC.out.a9 HC.out.a10 HC.out.a5 HC.out.a6 HC.out.a8)
 have d0:w4.drew.cell? ⟨bp,8,none⟩=some (PT (some ⟨d,0,none⟩))∧w4.drew.cell? ⟨w.heap.size,7,none⟩=some (X Y V)∧w4.drew.cell? ⟨w.heap.size,5,none⟩=some (X Y aj):=⟨H3.out.1.drew.cell 8,H3.out.2.1.drew.cell 7,H3.out.2.1.drew.cell 5⟩
 go_wp2_with fail
 go_region_held3 (fun wS=>wS.cell? ⟨bp,8,none⟩=some (PT (some ⟨d,0,none⟩))∧wS.cell? ⟨w.heap.size,7,none⟩=some (X Y V)∧wS.cell? ⟨w.heap.size,5,none⟩=some (X Y aj)) (first|with_reducible exact d0|with_reducible exact d1|fail)
  (first
   |(go_at_call 31;(with_reducible refine CC.out.mono ?_);rintro e w5 ⟨ss,lg,sp,sd,sf,rfl,q1,q2,q3,az,hst,hf⟩;have k5:=hf.blk _ _ _ H3.out.1.drew (by decide);have k6:=hf.blk _ _ _ H3.out.2.1.drew (by decide);have d1:w5.cell? ⟨bp,8,none⟩=some (PT (some ⟨d,0,none⟩))∧w5.cell? ⟨w.heap.size,7,none⟩=some (X Y V)∧w5.cell? ⟨w.heap.size,5,none⟩=some (X Y aj):=⟨k5.cell 8,k6.cell 7,k6.cell 5⟩))
 have H5:Hid (ab w5 bp 69 #[X Z 168364297,X Y ag,X Y fl,X Y ah,X Y 1500,X Y aj,X Y quota,X Y V,PT (some ⟨d,0,none⟩),PT none,PT none,PT none,PT none,X Y 0,G none 0 0,X Y 0,X Y 0,bL false,bL false]∧dw w5 aa ss lg sp sd sf d mn aj quota V 6 [] 0 [mn,sd,sf]∧aa≤bp∧aa≤w5.heap.size∧w.heap.size≤aa∧Below w.heap.size w w5):=by
  obtain⟨h1,h2,h3,h4,h5,h6⟩:=H3.out
  have e3:=h1.lt
  exact⟨k5,hst,h6,nT (nT h6 (Nat.le_of_lt e3)) hf.size,h5,(h4.drew).trans (hf.below.mono h5)⟩
 clear k5 k6 d0 d1 hst hf az q1 q2 q3 CC H3
 have x9:=H5.out.1.cell 9
 have z9:=H5.out.1.frozen 9
 simp only[ga,gz,gN] at x9
 go_wp2_with fail
 have H6:(fun Vv:World=>Hid (ab Vv bp 69 (dR ag fl ah aj quota V d ss (PT none) (PT none) (PT none) (X Y 0) (G none 0 0) 0)∧dw Vv aa ss lg sp sd sf d mn aj quota V 6 [] 0 [mn,sd,sf]∧aa≤bp∧aa≤Vv.heap.size∧w.heap.size≤aa∧Below w.heap.size w Vv)) (w5.setCell ⟨bp,9,none⟩ (PT (some ⟨ss,0,none⟩))):=by
  obtain⟨h1,h2,h3,h4,h5,h6⟩:=H5.out
  have hf:Fr [69] [] aa w5 (w5.setCell ⟨bp,9,none⟩ (PT (some ⟨ss,0,none⟩))):=(Fr.refl _ _ aa w5).set_ h1 (by simp) h3 9 _
  exact⟨h1.set_ 9 _,h2.fr hf (by decide) (by decide) (by decide) (by decide) (by simp) (by simp) (by simp) (by simp),h3,nT h4 hf.size,h5,h6.trans (hf.below.mono h5)⟩
 generalize w5.setCell ⟨bp,9,none⟩ (PT (some ⟨ss,0,none⟩))=w6 at H6⊢
 clear H5 x9 z9
 have CH:=jH (tT aa bp ag fl ah aj quota V d ss 0 0 (PT none) (PT none) (PT none) (X Y 0) (G none 0 0) none 0 aa [] none 0 aa [] false lg sp sd sf mn 6 0 [] w6 H6.out.1 H6.out.2.2.1 H6.out.2.2.2.1 ⟨rfl,.inl ⟨rfl,rfl⟩⟩ ⟨rfl,.inl ⟨rfl,rfl⟩⟩ (by simp) (by simp) (by simp) (.inl rfl) (by omega) H6.out.2.1 (by simp[aS]) tV.2 tV.1 (rY HC.out).1 (rY HC.out).2 HC.out.a2 HC.out.a3 HC.out.a4)
 rw[show (([]:List Be).length)=0 from rfl,show (([]:List Fl).length)=0 from rfl,show ((0:Nat):Int)=0 from rfl] at CH
 refine CH.out.mono ?_
 rintro e w7 ⟨rfl,⟨tp,tm,tk,qp,qm,chp,dp,dm,qp2,qm2,il,hbal⟩,hb7⟩
 have HF:Hid (aM w7 aa ⟨bp,d,ss,tp,chp,dp,lg,sp,sd,sf,mn,tm,tk,qp,qm,dm,qp2,qm2⟩ ag fl ah aj quota V 0 0 6 [] 0 [] [] il 1∧w.heap.size≤aa∧Below w.heap.size w w7):=⟨hbal,H6.out.2.2.2.2.1,H6.out.2.2.2.2.2.trans (hb7.below.mono H6.out.2.2.2.2.1)⟩
 clear hbal hb7 CH H6
 go_wp2
 go_ret2
 exact⟨⟨aa,_,il,rfl,HF.out.2.1,HF.out.1⟩,HF.out.2.2⟩
end
section
open Go.RowKit
theorem AW {l:List Be}{n:Nat}(h:dz n l)(hl:l.length=n):l.Pairwise (fun a b=>a.id < b.id):=by
 rw[List.pairwise_iff_getElem]
 intro i j hi hj hij
 induction j with
 |zero=>omega
 |succ j ih=>
  obtain⟨_,_,_,_,_,h5⟩:=h.2 (j + 1) (by omega)
  have au:=h5 (by omega)
  simp only[Nat.add_sub_cancel] at au
  by_cases e:i=j
  ·subst e;exact au
  ·exact Int.lt_trans (ih (by omega) (by omega)) au
theorem tc {l:List Be}(h:l.Pairwise (fun a b=>a.id < b.id)){b:Be}(hb:b∈l):dT l b.id=(b,true):=by
 obtain⟨k,hk,rfl⟩:=List.getElem_of_mem hb
 refine tf hk rfl fun j hj hjk=>?_
 have:=List.pairwise_iff_getElem.1 h j k hj hk hjk
 omega
theorem yP {l:List Be}{n:Nat}(h:dz n l)(hl:l.length=n){b:Be}(hb:b∈l):okB b=true:=by
 obtain⟨k,hk,rfl⟩:=List.getElem_of_mem hb
 obtain⟨_,h1,h2,h3,h4,_⟩:=h.2 k (by omega)
 exact nF.2 ⟨h1,h2,h3,h4⟩
theorem zC {l:List Be}(h0:0 < l.length)(h16:l.length≤16)(hp:l.Pairwise (fun a b=>a.id < b.id))(ho:∀b∈l,okB b=true):gP l.length l:=by
 refine⟨h0,h16,fun j hj=>⟨hj,?_⟩⟩
 obtain⟨h1,h2,h3,h4⟩:=nF.1 (ho _ (List.getElem_mem hj))
 refine⟨h1,h2,h3,h4,fun h=>?_⟩
 exact List.pairwise_iff_getElem.1 hp (j - 1) j (by omega) hj (by omega)
theorem yk {l:List Be}{s:Nat}{k:Tu}(h:dz l.length l)(ho:dD l)(h0:0 < l.length)(hm:dd s=true)(ht:cP k=true):
  ∃(b:Be) (bid:Nat),iX l (tableF l s) s k=(b,true)∧b∈l∧dT l b.id=(b,true)∧b.id=(bid:Int)∧bid≤65535∧b.addr < 4294967296:=by
 have hp:=AW h rfl
 have hs:0 < s:=by have:=(lL hm).1;omega
 have hoL:∀b∈l,okB b=true:=fun b hb=>yP h rfl hb
 unfold iX
 rw[if_pos ht]
 have hj:iw k % s < s:=Nat.mod_lt _ hs
 generalize iw k % s=j at hj
 have hmB:=zC h0 h.1 hp hoL
 have hg:=sG hm hmB
 have ax:=vG hg
 have hjl:j < (jr (l.map (cH s)) s).length:=by omega
 obtain⟨bk,hbk,hid⟩:=vH hg _ (List.getElem_mem hjl)
 obtain⟨b,hb,rfl⟩:=List.mem_map.1 hbk
 have hy:(tableF l s).getD j 0=b.id:=by
  rw[qz hmB,List.getD_eq_getElem?_getD,List.getElem?_eq_getElem hjl]
  exact hid
 obtain⟨e1,e2,_,_⟩:=nF.1 (hoL b hb)
 rw[hy]
 exact⟨b,b.id.toNat,tc hp hb,hb,tc hp hb,by omega,by omega,(ho b hb).2.1⟩
end
section
open Go.RowKit Go.Maps
def bU (k:Tu)(t:Nat):List Nat:=cW k (t:Int) 0 []
theorem km (k:Tu)(t:Nat):(bU k t).length≤40:=by unfold bU;rw[zM];split<;>simp
theorem lI (k:Tu)(t:Nat):ay (bU k t):=zP k _ 0 [] (fun x hx=>by simp at hx)
theorem nP (k:Tu)(t:Nat)(hk:bT k)(hm:cP k=true)(h1:2≤t)(h2:t≤255):
  cB (bU k t)=0∧dW (bU k t)=k∧ft k (bU k t)=false∧gv (bU k t) 1500=0:=by
 obtain⟨g1,g2⟩:=se k (t:Int) 0 [] hk hm (by simp)
 refine⟨g1,?_,?_,?_⟩
 ·unfold dW bU
  rw[if_pos g1]
  exact g2
 ·unfold bU
  rw[Cp k k (t:Int) 0 [] hk hm (by simp)]
  simp[ai]
 ·have hl:=km k t
  have e1:cD (bU k t)=0:=zK k (t:Int) 0 [] (by simp)
  have e2:at' (bU k t) 8=t:=by
   have:=zL k (t:Int) 0 []
   unfold bU
   rw[this]
   unfold ai
   omega
  have e3:bX (bU k t)=(bU k t).length:=zN k (t:Int) 0 [] (by simp)
  unfold gv
  rw[e1,e2,e3]
  rw[if_neg (by simp),if_neg (by omega),if_neg]
  omega
theorem pJ (k:Tu)(t:Nat)(hk:bT k)(hm:cP k=true)(h1:2≤t)(h2:t≤255)(A:Option Addr)(n c B ad:Nat)(w:World)(hr:Reads w B 1 A n (bv (bU k t)))(hB:B≤w.heap.size)(hnc:n≤c)(had:ad < 4294967296):
  ∀W,Below w.heap.size w W→Calls Pg 107 #[G A n c,X Z 168364297,X Z ad,X Y 1500] W fun e w'=>(∃A' n' c',e=rT (tU #[G A' n' c',X Y 0]))∧Below W.heap.size W w':=by
 intro W hW
 have hn:=hr.length
 have hl:=km k t
 have hf:=(nP k t hk hm h1 h2).2.2.2
 refine(uw A n c B (bU k t) 168364297 ad 1500 W (hr.below (hW.mono hB)) (nT hB hW.size) (by omega) hnc (lI k t) (by omega) had).mono ?_
 rintro e w' ⟨hret,hb⟩
 refine⟨?_,hb⟩
 rcases hret with⟨_,A',c',rfl,_⟩|⟨hno,_⟩
 ·exact⟨A',_,c',rfl⟩
 ·exact absurd hf hno
theorem AI:(Pg.info? 37).map (·.size)=some 7:=by kernel_rfl
def ik (da:Value):Value:=aG #[X Y 1,da,X Y 0,X Y 0,X Y 0,G none 0 0,G none 0 0]
theorem mX (k:Tu)(hk:bT k)(w:World):
  Calls Pg 8 #[bS k] w fun e w'=>∃A N c,e=rT (ik (G A N c))∧N=(bU k 9).length∧w'.ownsRow w.heap.size 5 1 (G A N c) N (bv (bU k 9))∧Below w.heap.size w w':=by
 have hx:=(ab.new w 39 k.vals).alloc (cL #[X Y 0,G none 0 0,X Y 0,X Y 0,X Y 0,G none 0 0,G none 0 0] 37)
 have hs:=ab.new (w.alloc (.cells k.vals 39)) 37 #[X Y 0,G none 0 0,X Y 0,X Y 0,X Y 0,G none 0 0,G none 0 0]
 have af:=((bR w.heap.size w).alloc (nR _) (.cells k.vals 39)).alloc (by simp) (cL #[X Y 0,G none 0 0,X Y 0,X Y 0,X Y 0,G none 0 0,G none 0 0] 37)
 rw[show (w.alloc (.cells k.vals 39)).heap.size=w.heap.size + 1 by simp] at hs
 have HM:=jH (fun W=>zI k 9 0 none 0 0 0 [] W hk (by omega) Reads.none_ (Nat.zero_le _) (by omega))
 have H:=jH (aI hs af)
 clear hs af
 obtain⟨src,dst,proto,sport,dport⟩:=k
 unfold bS Tu.vals at *
 dsimp only at *
 obtain⟨t0,t1,t2,t3,t4⟩:=hx.c5
 clear hx
 go_enter func8,ntmps8
 go_wp2_with fail
 refine(HM.out _).mono ?_
 rintro e w1 ⟨A,N,c,rfl,hN,hown,hb⟩
 have HF:Hid (ab w1 (w.heap.size + 1) 37 #[X Y 0,G none 0 0,X Y 0,X Y 0,X Y 0,G none 0 0,G none 0 0]∧N=(bU ⟨src,dst,proto,sport,dport⟩ 9).length∧w1.ownsRow w.heap.size 5 1 (G A N c) N (bv (bU ⟨src,dst,proto,sport,dport⟩ 9))∧Below w.heap.size w w1):=⟨H.out.1.below hb H.out.1.lt,hN,cO hown H.out.2.size,H.out.2.trans (hb.mono H.out.2.size)⟩
 clear hN hown hb H HM t0 t1 t2 t3 t4
 obtain⟨s0,s1,s2,s3,s4,s5,s6⟩:=HF.out.1.c7
 obtain⟨z0,z1,z2,z3,z4,z5,z6⟩:=HF.out.1.f7
 go_wp2_with fail
 refine bodyPost_ret (results_cell_row rfl _ _ (w.heap.size + 1) 37 #[X Y 1,G A N c,X Y 0,X Y 0,X Y 0,G none 0 0,G none 0 0] (0,0) _ rfl (((((((HF.out.1.set_ 0 (X Y 1)).set_ 1 (G A N c)).set_ 2 (X Y 0)).set_ 3 (X Y 0)).set_ 4 (X Y 0)).set_ 5 (G none 0 0)).set_ 6 (G none 0 0)) underlying37 rfl AI) rfl ?_
 exact⟨A,N,c,rfl,HF.out.2.1,(aB (aB (aB (aB (aB (aB (aB HF.out.2.2.1 HF.out.1 (by decide) 0 (X Y 1)) (HF.out.1.set_ 0 (X Y 1)) (by decide) 1 (G A N c)) ((HF.out.1.set_ 0 (X Y 1)).set_ 1 (G A N c)) (by decide) 2 (X Y 0)) (((HF.out.1.set_ 0 (X Y 1)).set_ 1 (G A N c)).set_ 2 (X Y 0)) (by decide) 3 (X Y 0)) ((((HF.out.1.set_ 0 (X Y 1)).set_ 1 (G A N c)).set_ 2 (X Y 0)).set_ 3 (X Y 0)) (by decide) 4 (X Y 0)) (((((HF.out.1.set_ 0 (X Y 1)).set_ 1 (G A N c)).set_ 2 (X Y 0)).set_ 3 (X Y 0)).set_ 4 (X Y 0)) (by decide) 5 (G none 0 0)) ((((((HF.out.1.set_ 0 (X Y 1)).set_ 1 (G A N c)).set_ 2 (X Y 0)).set_ 3 (X Y 0)).set_ 4 (X Y 0)).set_ 5 (G none 0 0)) (by decide) 6 (G none 0 0)),(((((((HF.out.2.2.2.setCell (p:=⟨w.heap.size + 1,0,none⟩) (nS _) (X Y 1)).setCell (p:=⟨w.heap.size + 1,1,none⟩) (nS _) (G A N c)).setCell (p:=⟨w.heap.size + 1,2,none⟩) (nS _) (X Y 0)).setCell (p:=⟨w.heap.size + 1,3,none⟩) (nS _) (X Y 0)).setCell (p:=⟨w.heap.size + 1,4,none⟩) (nS _) (X Y 0)).setCell (p:=⟨w.heap.size + 1,5,none⟩) (nS _) (G none 0 0)).setCell (p:=⟨w.heap.size + 1,6,none⟩) (nS _) (G none 0 0))⟩
theorem rk (z:Int):eN z∈[3,7,13,61,127,251]:=by
 unfold eN
 have h:ai z % 6 < 6:=Nat.mod_lt _ (by omega)
 generalize ai z % 6=i at h⊢
 rcases i with _|_|_|_|_|_|i<;>simp at h⊢
theorem mC (v:Int):1≤gw v∧gw v≤3:=by
 have h:ai v % 3 < 3:=Nat.mod_lt _ (by omega)
 unfold gw
 omega
theorem zG (z v:Int)(w:World):
  Calls Pg 6 #[X Y z,X Y 19,X Y v] w fun e w'=>(∃(aa:Nat) (p:BP) (il:List It),e=rT (PT (some ⟨p.bp,0,none⟩))∧w.heap.size≤aa∧aM w' aa p (eN z) 19 51 316 32000 (gw v) 0 0 6 [] 0 [] [] il 1)∧Below w.heap.size w w':=by
 have CC:=jH (D5 z v 19 (by omega) w)
 rw[show ((19:Nat):Int)=19 from rfl] at CC
 have HN:=jH (tO (eN z) 19 51 316 32000 (gw v) ⟨rk z,by omega,by omega,by omega,by omega,by omega,by omega,by omega,(mC v).1,(mC v).2⟩)
 go_enter func6,ntmps6
 go_wp2_with fail
 refine CC.out.mono ?_
 rintro e w1 ⟨rfl,ae⟩
 have HB1:=jH ae
 clear ae CC
 go_wp2_with fail
 refine(HN.out w1).mono ?_
 rintro e w2 ⟨⟨aa,p,il,rfl,an,hbal⟩,af⟩
 have HF:Hid (w.heap.size≤aa∧aM w2 aa p (eN z) 19 51 316 32000 (gw v) 0 0 6 [] 0 [] [] il 1∧Below w.heap.size w w2):=⟨nT HB1.out.size an,hbal,HB1.out.trans (af.mono HB1.out.size)⟩
 clear an hbal af HB1 HN
 go_wp2_with fail
 go_ret
 exact⟨⟨aa,p,il,rfl,HF.out.1,HF.out.2.1⟩,HF.out.2.2⟩
def fW:Value:=tU #[aG #[X Y 0,X Y 0,X Y 0,G none 0 0],X Y 0]
theorem qi {w:World}{aa:Nat}{p:BP}{ag fl ah aj quota V gen now ops n0:Nat}{rs:List aE}{bl:List Be}{fm:List (Tu×Fl)}{il:List It}{made:Int}(h:aM w aa p ag fl ah aj quota V gen now ops rs n0 bl fm il made)(A:Option Addr)(n c:Nat)(l:List Be)(hgen:gen + 1≤1000000)(hok:dD l)(bu:dz l.length l)(hmd:0≤made∧made≤1000000)(hl3:l.length≤3)(aP:ops≤600000000000)(hcap:rs.length < 3 * (aj / 43))
  (CS:∀W,Below w.heap.size w W→Calls Pg 118 #[G A n c] W fun e w'=>∃A' c',e=rT (G A' l.length c')∧w'.ownsRow W.heap.size 34 3 (G A' l.length c') l.length (aC l)∧Below W.heap.size W w'):
  Calls Pg 7 #[PT (some ⟨p.bp,0,none⟩),aG #[X Y 3,G none 0 0,X Y 0,X Y 0,X Y 0,G A n c,G none 0 0]] w fun e w'=>e=rT fW∧aM w' aa p ag fl ah aj quota V (gen + 1) now (ops + 9) (rs++[.gen (gen + 1) (l.map (aX V))]) n0 l fm il (made + 1)∧Fr KB p.maps aa w w':=by
 obtain⟨A0,c0,k1,k2⟩:=h.blk
 refine EH aa p.bp (G A n c) (fun w'=>aM w' aa p ag fl ah aj quota V (gen + 1) now (ops + 9) (rs++[.gen (gen + 1) (l.map (aX V))]) n0 l fm il (made + 1)) KB p.maps w k1 h.hi (by decide) (fun a b ha hf=>ha.fr hf (by decide)) (fun W hW=>?_)
 refine Ej p.bp (G A n c) (fun w'=>aM w' aa p ag fl ah aj quota V (gen + 1) now (ops + 9) (rs++[.gen (gen + 1) (l.map (aX V))]) n0 l fm il (made + 1)∧Fr KB p.maps aa W w') W (fun W2 hW2=>?_)
 have af:=hW.trans (hW2.mono hW.size)
 refine(EK (h.made af) A n c l hgen hok bu hmd hl3 aP hcap (CS W2 af)).mono ?_
 rintro e w' ⟨rfl,hb,hf⟩
 exact⟨rfl,hb,(Fr.of_below KB p.maps hW2 (nT h.hi hW.size)).trans hf⟩
theorem qh {w:World}{aa:Nat}{p:BP}{ag fl ah aj quota V gen now ops n0:Nat}{rs:List aE}{bl:List Be}{fm:List (Tu×Fl)}{il:List It}{made:Int}(h:aM w aa p ag fl ah aj quota V gen now ops rs n0 bl fm il made)(k:Tu)(t:Nat)(hk:bT k)(hm:cP k=true)(h1:2≤t)(h2:t≤255)(A:Option Addr)(N c B:Nat)(hr:Reads w B 1 A N (bv (bU k t)))(hB:B≤w.heap.size)(hnc:N≤c)(hg:av fm k=none)(au:fm.length < fl)(hbl:0 < bl.length)(hgen:gen≤1000000)(aV:now≤1099511627776)(aP:ops≤600000000000)(hcap:rs.length < 3 * (aj / 43))(hr200:rs.length < 200):
  ∃bid:Nat,(∃b,b∈bl∧dT bl (bid:Int)=(b,true)∧b.id=(bid:Int))∧cI ⟨k,bid,gen,now⟩∧Calls Pg 7 #[PT (some ⟨p.bp,0,none⟩),ik (G A N c)] w fun e w'=>(∃A' n' c',e=rT (tU #[aG #[X Y 2,X Y 0,X Y bid,G A' n' c'],X Y 0]))∧(∃l',dK il (bD k) now l'∧aM w' aa p ag fl ah aj quota V gen now (ops + 9) (rs++[.put (aT V ⟨k,bid,gen,now⟩)]) n0 bl (aw fm k ⟨k,bid,gen,now⟩) l' made)∧Fr KB p.maps aa w w':=by
 obtain⟨b,bid,g1,g2,g3,g4,g5,g6⟩:=yk h.may h.ok hbl h.mayn hm
 have hfok:cI ⟨k,bid,gen,now⟩:=⟨hk,hm,g5,hgen,aV⟩
 refine⟨bid,⟨b,g2,g4▸g3,g4⟩,hfok,?_⟩
 obtain⟨f1,f2,f3,f4⟩:=nP k t hk hm h1 h2
 have hl:=km k t
 have hn:=hr.length
 obtain⟨A0,c0,k1,k2⟩:=h.blk
 refine pn aa p.bp (G A N c) 2 0 (bid:Int) (fun w'=>∃l',dK il (bD k) now l'∧aM w' aa p ag fl ah aj quota V gen now (ops + 9) (rs++[.put (aT V ⟨k,bid,gen,now⟩)]) n0 bl (aw fm k ⟨k,bid,gen,now⟩) l' made) KB p.maps w k1 h.hi (by decide) (fun a b ⟨l',q1,q2⟩ hf=>⟨l',q1,q2.fr hf (by decide)⟩) (fun W hW=>?_)
 refine Eh (h.made hW) (aw fm k ⟨k,bid,gen,now⟩) k bid ⟨k,bid,gen,now⟩ A N c hfok aP hcap hr200 (fun W2 hW2=>?_)
 have af:=hW.trans (hW2.mono hW.size)
 have hm2:=h.made af
 refine(yo aa p.tp p.tm p.tk p.qp p.qm fl ah p.chp ag aj quota V fl gen now fm il bl (tableF bl ag) made A N c B (bU k t) k b bid W2 (hr.below (af.mono hB)) (nT hB af.size) (by omega) hnc (lI k t) f1 f2 hk f3 hm2.fl hm2.ch h.mayn hm2.hi hg au g1 g4 hfok aV (pJ k t hk hm h1 h2 A N c B b.addr W2 (hr.below (af.mono hB)) (nT hB af.size) hnc g6)).mono ?_
 rintro e w' ⟨⟨A',n',c',g,rfl,_,hrec⟩,hq,hf⟩
 exact⟨⟨A',n',c',g,rfl,hrec⟩,hq,hf⟩
theorem vv {w:World}{aa:Nat}{p:BP}{ag fl ah aj quota V gen now ops n0:Nat}{rs:List aE}{bl:List Be}{fm:List (Tu×Fl)}{il:List It}{made:Int}(h:aM w aa p ag fl ah aj quota V gen now ops rs n0 bl fm il made)(k:Tu)(f:Fl)(t:Nat)(hk:bT k)(hm:cP k=true)(h1:2≤t)(h2:t≤255)(A:Option Addr)(N c B:Nat)(hr:Reads w B 1 A N (bv (bU k t)))(hB:B≤w.heap.size)(hnc:N≤c)(hg:av fm k=some f)(hfk:f.k=k)(b:Be)(hb:b∈bl)(hfind:dT bl (f.be:Int)=(b,true))(hbid:b.id=(f.be:Int))(hle:f.seen≤now)(aV:now≤1099511627776):
  Calls Pg 7 #[PT (some ⟨p.bp,0,none⟩),ik (G A N c)] w fun e w'=>(∃A' n' c',e=rT (tU #[aG #[X Y 2,X Y 0,X Y f.be,G A' n' c'],X Y 0]))∧(∃l',dK il (bD k) now l'∧aM w' aa p ag fl ah aj quota V gen now ops rs n0 bl (aw fm k {f with seen:=now}) l' made)∧Fr KB p.maps aa w w':=by
 obtain⟨f1,f2,f3,f4⟩:=nP k t hk hm h1 h2
 have hl:=km k t
 have hn:=hr.length
 obtain⟨A0,c0,k1,k2⟩:=h.blk
 refine pn aa p.bp (G A N c) 2 0 (f.be:Int) (fun w'=>∃l',dK il (bD k) now l'∧aM w' aa p ag fl ah aj quota V gen now ops rs n0 bl (aw fm k {f with seen:=now}) l' made) KB p.maps w k1 h.hi (by decide) (fun a b ⟨l',q1,q2⟩ hf=>⟨l',q1,q2.fr hf (by decide)⟩) (fun W hW=>?_)
 refine tN (h.made hW) (aw fm k {f with seen:=now}) (dK il (bD k) now) 2 0 (f.be:Int) A N c (fun W2 hW2=>?_)
 have af:=hW.trans (hW2.mono hW.size)
 have hm2:=h.made af
 exact yp aa p.tp p.tm p.tk p.qp p.qm fl ah p.chp ag aj quota V fl gen now fm il bl (tableF bl ag) made A N c B (bU k t) k b f W2 (hr.below (af.mono hB)) (nT hB af.size) (by omega) hnc (lI k t) f1 f2 hk f3 hm2.fl hm2.ch h.mayn hm2.hi hg hfk hfind hbid hle aV (pJ k t hk hm h1 h2 A N c B b.addr W2 (hr.below (af.mono hB)) (nT hB af.size) hnc (h.ok b hb).2.1)
def iU:List TypeId:=KB++[175]
theorem qg {w:World}{aa:Nat}{p:BP}{ag fl ah aj quota V gen now ops n0:Nat}{rs:List aE}{bl:List Be}{fm:List (Tu×Fl)}{il:List It}{made:Int}(h:aM w aa p ag fl ah aj quota V gen now ops rs n0 bl fm il made)(aP:ops≤800000000000)(hrl:(aS rs).2.2.length≤1000000):
  Calls Pg 7 #[PT (some ⟨p.bp,0,none⟩),aG #[X Y 6,G none 0 0,X Y 0,X Y 0,X Y 0,G none 0 0,G none 0 0]] w fun e w'=>e=rT fW∧aM w' aa p ag fl ah aj quota V gen now (ops + 1) rs rs.length bl fm il made∧Fr iU p.maps aa w w':=by
 obtain⟨A0,c0,k1,k2⟩:=h.blk
 refine EG aa p.bp (fun w'=>aM w' aa p ag fl ah aj quota V gen now (ops + 1) rs rs.length bl fm il made) iU p.maps w k1 h.hi (by decide) (fun a b ha hf=>ha.fr hf (by decide)) (fun W hW=>?_)
 refine Ei p.bp p.ss (fun w'=>aM w' aa p ag fl ah aj quota V gen now (ops + 1) rs rs.length bl fm il made∧Fr iU p.maps aa W w') W (k1.below hW k1.lt) (fun W2 hW2=>?_)
 have af:=hW.trans (hW2.mono hW.size)
 have h2:=h.made af
 refine(vL aa p.ss p.lg p.sp p.sd p.sf p.d p.mn aj quota V ops n0 rs p.maps W2 (h.sto.made af) (by have:=h.few;omega) hrl aP).mono ?_
 rintro e w' ⟨rfl,hs,hf⟩
 obtain⟨m1,m2,m3,m4,m5,-⟩:=BP.apart h.maps
 have mm:∀{x:Nat},x∉[p.mn,p.sf]→x∉[p.mn]:=fun hx hy=>hx (by simp only[List.mem_cons,List.not_mem_nil,or_false] at hy⊢;exact .inl hy)
 obtain⟨A,c,q1,q2⟩:=h2.blk
 refine⟨rfl,{h2 with hi:=nT h2.hi hf.size,blk:=⟨A,c,hf.blk _ _ _ q1 (by decide),hf.own q2 (by decide)⟩,sto:=hs,fl:=h2.fl.fr hf (by decide) (by decide) (by decide) (by decide) (mm m3) (mm m1) (mm m2),ch:=h2.ch.fr hf (by decide) (by decide) (by decide),dr:=h2.dr.fr hf (by decide) (by decide) (mm m5) (mm m4)},?_⟩
 exact(Fr.of_below iU p.maps hW2 (nT h.hi hW.size)).trans (hf.mono (by decide) (fun b hb=>by simp only[BP.maps,List.mem_cons,List.not_mem_nil,or_false] at hb⊢;exact .inl hb))
theorem ym (z:Int)(w:World):Calls Pg 103 #[X Y z] w fun e w'=>e=rT (aG #[X Y 1,X Y z,X Y 0,G none 0 0,G none 0 0])∧Below w.heap.size w w':=by
 go_enter func103,ntmps103
 go_wp2_with fail
 refine bodyPost_ret (results_cell_row rfl _ _ w.heap.size 116 _ (0,0) _ rfl (ab.new w 116 _) underlying116 rfl lP) rfl ?_
 exact⟨rfl,(bR w.heap.size w).alloc (nR _) _⟩
theorem yq (tp chp ag aj quota V cfl ah gen now:Nat)(A:Option Addr)(n c B:Nat)(l:List Nat)(w:World)
  (hr:Reads w B 1 A n (bv l))(hB:B≤w.heap.size)(hn:n≤100000)(hnc:n≤c)(ha:ay l)(hwhy:cB l≠0)(aV:now≤1099511627776):
  Calls Pg 41 #[aG #[X Z 168364297,X Y ag,X Y cfl,X Y ah,X Y 1500,X Y aj,X Y quota,X Y V],PT (some ⟨tp,0,none⟩),PT (some ⟨chp,0,none⟩),X Y gen,X Y now,G A n c] w fun e w'=>
   e=rT (aG #[X Y 1,X Y (cB l:Nat),X Y 0,G none 0 0,G none 0 0])∧Below w.heap.size w w':=by
 have d1:decide ((now:Int) < 0)=false:=decide_eq_false (by omega)
 have d2:decide ((1099511627776:Int) < (now:Int))=false:=decide_eq_false (by omega)
 have d3:decide ((now:Int) > 1099511627776)=false:=decide_eq_false (by omega)
 obtain⟨q,hq⟩:∃q,q=w.heap.size:=⟨_,rfl⟩
 have hp0:=ab.new (w.alloc (cL #[X Z 168364297,X Y ag,X Y cfl,X Y ah,X Y 1500,X Y aj,X Y quota,X Y V] 61)) 116 #[X Y 0,X Y 0,X Y 0,G none 0 0,G none 0 0]
 have ao:=((bR w.heap.size w).alloc (nR _) (cL #[X Z 168364297,X Y ag,X Y cfl,X Y ah,X Y 1500,X Y aj,X Y quota,X Y V] 61)).alloc (by simp) (cL #[X Y 0,X Y 0,X Y 0,G none 0 0,G none 0 0] 116)
 rw[show (w.alloc (cL #[X Z 168364297,X Y ag,X Y cfl,X Y ah,X Y 1500,X Y aj,X Y quota,X Y V] 61)).heap.size=q + 1 by rw[hq];simp] at hp0
 have CP:=jH (nw A n c B l ((w.alloc (cL #[X Z 168364297,X Y ag,X Y cfl,X Y ah,X Y 1500,X Y aj,X Y quota,X Y V] 61)).alloc (cL #[X Y 0,X Y 0,X Y 0,G none 0 0,G none 0 0] 116)) (hr.below (ao.mono hB)) (nT hB ao.size) (by omega) hnc ha)
 obtain⟨y0,y1,y2,y3,y4,y5,y6,y7,y8,y9,y10,hv,-,-⟩:=oG l
 rw[hv] at CP
 obtain⟨kk,hk⟩:∃kk,dW l=kk:=⟨_,rfl⟩
 rw[hk] at CP
 obtain⟨s2,d2',p2,sp2,dp2⟩:=kk
 unfold Tu.vals at CP
 dsimp only at CP
 have hz0:(((cB l:Nat):Int)==0)=false:=by rw[beq_eq_false_iff_ne];omega
 generalize cB l=z at *
 have H:=jH (aI hp0 ao)
 clear hr hp0 ao hv hk hwhy
 subst hq
 go_enter func41,ntmps41
 go_wp2_with fail
 refine CP.out.mono ?_
 rintro e w1 ⟨rfl,ae⟩
 clear CP
 have H1:Hid (ab w1 (w.heap.size + 1) 116 #[X Y 0,X Y 0,X Y 0,G none 0 0,G none 0 0]∧Below w.heap.size w w1):=⟨H.out.1.below ae H.out.1.lt,H.out.2.trans (ae.mono H.out.2.size)⟩
 clear ae H
 go_wp2_with fail
 refine(ym (z:Int) _).mono ?_
 rintro e w3 ⟨rfl,al⟩
 have H3:Hid (ab w3 (w.heap.size + 1) 116 #[X Y 0,X Y 0,X Y 0,G none 0 0,G none 0 0]∧Below w.heap.size w w3):=by
  have h1:=((bR w1.heap.size w1).alloc (nR _) (cL #[X Z s2,X Z d2',X Y p2,X Y sp2,X Y dp2] 39)).alloc (by simp) (cL #[X Y y0,X Y y1,X Y y2,X Y y3,X Y y4,X Y y5,X Y y6,X Y y7,X Y y8,X Z y9,X Z y10] 132)
  have h2:Below w1.heap.size w1 w3:=h1.trans (al.mono h1.size)
  exact⟨H1.out.1.below h2 H1.out.1.lt,H1.out.2.trans (h2.mono H1.out.2.size)⟩
 clear al H1
 obtain⟨s0,s1,s2',s3,s4⟩:=H3.out.1.c5
 obtain⟨z0,z1,z2,z3,z4⟩:=H3.out.1.f5
 go_wp2_with fail
 refine bodyPost_ret (results_cell_row rfl _ _ (w.heap.size + 1) 116 #[X Y 1,X Y z,X Y 0,G none 0 0,G none 0 0] (0,0) _ rfl (((((H3.out.1.set_ 0 (X Y 1)).set_ 1 (X Y z)).set_ 2 (X Y 0)).set_ 3 (G none 0 0)).set_ 4 (G none 0 0)) underlying116 rfl lP) rfl ?_
 exact⟨rfl,((((H3.out.2.setCell (p:=⟨w.heap.size + 1,0,none⟩) (nS _) _).setCell (p:=⟨w.heap.size + 1,1,none⟩) (nS _) _).setCell (p:=⟨w.heap.size + 1,2,none⟩) (nS _) _).setCell (p:=⟨w.heap.size + 1,3,none⟩) (nS _) _).setCell (p:=⟨w.heap.size + 1,4,none⟩) (nS _) _⟩
theorem lf (z:Int):en (((ai z % 65536:Nat)):Int)=en z:=by
 have h:ai ((ai z % 65536:Nat):Int)=ai z % 65536:=by
  have:=Nat.mod_lt (ai z) (show 0 < 65536 by decide)
  exact fF _ (by omega)
 unfold en
 rw[h]
 have a1:ai z % 65536 / 256 % 256=ai z / 256 % 256:=by omega
 have a2:ai z % 65536 % 256=ai z % 256:=by omega
 rw[a1,a2]
theorem Ee (h:Hd)(p:Int)(e:ai p % 256=ai h.proto % 256):bW {h with proto:=p}=bW h:=by
 have e1:be (ai p) 1=be (ai h.proto) 1:=by simp[be,e]
 have e2:∀c,dB {h with proto:=p} c=dB h c:=fun c=>by
  unfold dB
  dsimp only
  rw[e1]
  rfl
 unfold bW
 rw[e2,e2]
def fA (k:Tu):Tu:=⟨k.src,k.dst,if k.proto=6 then 6 else 17,((ai k.sport % 65536:Nat):Int),((ai k.dport % 65536:Nat):Int)⟩
theorem zq (k:Tu)(hk:bT k):(bU k 9=bU (fA k) 9∧bT (fA k)∧cP (fA k)=true)∨cB (bU k 9)≠0:=by
 have hs:=Nat.mod_lt (ai k.sport) (show 0 < 65536 by decide)
 have hd:=Nat.mod_lt (ai k.dport) (show 0 < 65536 by decide)
 by_cases h6:k.proto=6
 ·have hn:fA k=⟨k.src,k.dst,6,((ai k.sport % 65536:Nat):Int),((ai k.dport % 65536:Nat):Int)⟩:=by unfold fA;rw[if_pos h6]
  refine .inl ⟨?_,?_,?_⟩
  ·unfold bU cW cR
   rw[hn,if_pos h6,if_pos rfl]
   unfold gT gX
   dsimp only
   rw[lf,lf,h6]
  ·rw[hn];exact⟨hk.src,hk.dst,by dsimp only;omega,by dsimp only;omega,by dsimp only;omega⟩
  ·rw[hn];exact decide_eq_true ⟨.inl rfl,by dsimp only;omega,by dsimp only;omega,by dsimp only;omega,by dsimp only;omega⟩
 ·by_cases h17:ai k.proto % 256=17
  ·have hn:fA k=⟨k.src,k.dst,17,((ai k.sport % 65536:Nat):Int),((ai k.dport % 65536:Nat):Int)⟩:=by unfold fA;rw[if_neg h6]
   refine .inl ⟨?_,?_,?_⟩
   ·unfold bU cW cR
    rw[hn,if_neg h6,if_neg (show ¬((17:Int)=6) by decide)]
    have e1:eY ⟨k.src,k.dst,17,((ai k.sport % 65536:Nat):Int),((ai k.dport % 65536:Nat):Int)⟩ ([]:List Nat).length=eY k ([]:List Nat).length:=by
     unfold eY
     dsimp only
     rw[lf,lf]
    rw[e1]
    have e2:=Ee (gX k ((9:Nat):Int) (eY k ([]:List Nat).length++[]).length) 17 (by show ai 17 % 256=ai k.proto % 256;rw[h17];decide +kernel)
    rw[←e2]
    rfl
   ·rw[hn];exact⟨hk.src,hk.dst,by dsimp only;omega,by dsimp only;omega,by dsimp only;omega⟩
   ·rw[hn];exact decide_eq_true ⟨.inr rfl,by dsimp only;omega,by dsimp only;omega,by dsimp only;omega,by dsimp only;omega⟩
  ·refine .inr ?_
   have hP:cR k 0 []=eY k ([]:List Nat).length++[]:=if_neg h6
   have hl:(cR k 0 []).length=8:=by rw[jE,if_neg h6];rfl
   unfold bU cW
   rw[pP _ _ (jF k _ _ (by omega))]
   split
   ·decide
   ·have hp:(gX k ((9:Nat):Int) (cR k 0 []).length).proto=k.proto:=rfl
    rw[hp]
    split
    ·have ht:fS (cR k 0 [])=false:=decide_eq_false (by rw[hl];omega)
     rw[ht]
     decide
    ·decide
theorem vw {w:World}{aa:Nat}{p:BP}{ag fl ah aj quota V gen now ops n0:Nat}{rs:List aE}{bl:List Be}{fm:List (Tu×Fl)}{il:List It}{made:Int}(h:aM w aa p ag fl ah aj quota V gen now ops rs n0 bl fm il made)(k:Tu)(hwhy:cB (bU k 9)≠0)(A:Option Addr)(N c B:Nat)(hr:Reads w B 1 A N (bv (bU k 9)))(hB:B≤w.heap.size)(hnc:N≤c)(aV:now≤1099511627776):
  Calls Pg 7 #[PT (some ⟨p.bp,0,none⟩),ik (G A N c)] w fun e w'=>(∃v,e=rT v)∧aM w' aa p ag fl ah aj quota V gen now ops rs n0 bl fm il made∧Fr KB p.maps aa w w':=by
 obtain⟨A0,c0,k1,k2⟩:=h.blk
 have hl:=km k 9
 have hn:=hr.length
 refine(pn aa p.bp (G A N c) 1 (cB (bU k 9):Nat) 0 (fun w'=>aM w' aa p ag fl ah aj quota V gen now ops rs n0 bl fm il made) KB p.maps w k1 h.hi (by decide) (fun a b ha hf=>ha.fr hf (by decide)) (fun W hW=>?_)).mono ?_
 ·refine(tN (h.made hW) fm (fun l'=>l'=il) 1 (cB (bU k 9):Nat) 0 A N c (fun W2 hW2=>?_)).mono ?_
  ·have af:=hW.trans (hW2.mono hW.size)
   have hm2:=h.made af
   refine(yq p.tp p.chp ag aj quota V fl ah gen now A N c B (bU k 9) W2 (hr.below (af.mono hB)) (nT hB af.size) (by omega) hnc (lI k 9) hwhy aV).mono ?_
   rintro e w' ⟨rfl,hb⟩
   exact⟨⟨none,0,0,rfl⟩,⟨il,rfl,(hm2.made hb).fl⟩,((Fr.of_below [] [] hb hm2.hi).q p.qp (by simp)).mono (by simp) (by simp)⟩
  ·rintro e w' ⟨q1,⟨l',rfl,q2⟩,q3⟩
   exact⟨q1,q2,q3⟩
 ·rintro e w' ⟨⟨A',n',c',rfl⟩,q2,q3⟩
  exact⟨⟨_,rfl⟩,q2,q3⟩
theorem rM {m:List (ByteArray×Nat)}{x:List UInt8}(h:x∈ez m):∃s f,x=l5 s∧(s,f)∈m:=by
 have h1:=(List.mergeSort_perm (fB m) _).mem_iff.1 h
 obtain⟨p,hp,rfl⟩:=List.mem_map.1 h1
 exact⟨p.1,p.2,rfl,hp⟩
theorem Du (aa d mn ms B:Nat)(D:aF)(A:Option Addr)(n c:Nat)(l:List Nat)(w:World)(h:ar w aa d mn ms D)(hchg:D.chg=[])(ax:D.sure.length≤100000)(hnm:∀p∈D.sure,aY p.1)
  (hr:Reads w B 1 A n (bv l))(hB:B≤aa)(hnc:n≤c)(hn:n≤140737488355328)(hal:ay l):
  Calls Pg 16 #[PT (some ⟨d,0,none⟩),G A n c] w fun e w'=>e=rT (tU #[])∧∃mq mc fs',w.heap.size≤mq∧w.heap.size≤mc∧gu D.fs fs'∧ar w' aa d mq mc {D with now:=D.sure,chg:=[],fail:=0,fs:=fs'}∧Fr [102,111,23] [] aa w w':=by
 obtain⟨pk,hpk⟩:∃pk,pk=w.heap.size:=⟨_,rfl⟩
 have ao:Below w.heap.size w (w.alloc (cL #[G A n c] 23)):=(bR _ _).alloc (nR _) _
 have hp0:eG (w.alloc (cL #[G A n c] 23)) B pk:=⟨A,n,c,l,hpk▸ab.new w _ _,hr.below (ao.mono (nT hB h.hi)),hnc,hn,hal⟩
 have h0:=h.made ao
 have hpb:aa≤pk:=by have:=h.hi;omega
 have H1:=jH (aI h0 (aI hp0 (aI ao (aI hpb h.hi))))
 obtain⟨cv,hbk,hcv⟩:=h0.blk
 rw[hchg] at hcv
 obtain⟨A3,c3,rfl⟩:=cV hcv
 obtain⟨-,-,x2⟩:=hbk.c3
 clear h h0 hp0 ao hr hbk hcv hpb
 go_enter func16,ntmps16
 go_wp2_with fail
 rw[←hpk]
 have HE:=jH hpk
 clear hpk
 generalize (w.alloc (cL #[G A n c] 23))=w1 at *
 refine(oV w1 H1.out.1.sure).mono ?_
 rintro e w2 ⟨rfl,hmq,af,hs2⟩
 obtain⟨mq,hmqe⟩:∃mq,mq=w1.heap.size:=⟨_,rfl⟩
 rw[←hmqe] at hmq⊢
 have H2:Hid (ar w2 aa d mn ms D∧eG w2 B pk∧Fr [102,111,23] [] aa w w2∧aL w2 Value.string aY aW mq D.sure∧aa≤pk∧w.heap.size≤mq):=by
  obtain⟨g1,g2,g3,g4,g5⟩:=H1.out
  have f1:Fr [102,111,23] [] aa w w1:=Fr.of_below _ _ g3 g5
  have f2:=f1.made af g1.hi
  exact⟨g1.made af,g2.fr (Fr.of_below [] [] af g1.hi) hB (by simp),f2,hmq,g4,by have:=g3.size;omega⟩
 clear hmq af hs2 hmqe x2
 obtain⟨cv,hbk,hcv⟩:=H2.out.1.blk
 rw[hchg] at hcv
 obtain⟨A3,c3,rfl⟩:=cV hcv
 have x3:=hbk.drew.cell 3
 simp only[ga,gz,gN,List.length_nil] at x3
 clear hbk hcv
 have eg:∀args w,(callFunc 33 args).run Pg w=.ok (.enter 33 args) w:=enters_of func33 (by kernel_rfl) rfl
 have CP0:=jH (rm pk B 0 w2.drew (by omega) (H2.out.2.1.fr ((Fr.refl [] [] aa w2).drew) hB (by simp)) (by have:=H2.out.2.2.2.2.1;omega))
 rw[show ((0:Nat):Int)=0 from rfl] at CP0
 have HS3:∀w3,eG w3 B pk→cr pk w2.drew w3→Hid (ar w3 aa d mn ms D∧eG w3 B pk∧Fr [102,111,23] [] aa w w3∧aL w3 Value.string aY aW mq D.sure∧w3.cell? ⟨d,3,none⟩=some (G A3 0 c3)):=by
  intro w3 hp3 hk3
  obtain⟨g1,g2,g3,g4,g5,g6⟩:=H2.out
  obtain⟨A',n',c',l',k1,_⟩:=g2
  have hf:Fr [23] [] aa w2 w3:=((Fr.refl _ _ aa w2).drew).trans (sK k1.drew hk3 g5 g1.hi)
  obtain⟨cv,hbk,hcv⟩:=g1.blk
  refine⟨g1.fr hf (by decide) (by decide) (by decide) (by decide) (by simp) (by simp),hp3,g3.trans (hf.mono (by decide) (by simp)),hf.mapIs g4 (by simp),?_⟩
  have hcv3:=(hf.blk _ _ _ hbk (by decide)).cell 3
  have hc2:=hbk.cell 3
  rw[hcv3,←hc2]
  exact x3
 go_wp2_with fail
 go_region_held3 (fun wS=>wS.cell? ⟨d,3,none⟩=some (G A3 0 c3)) (first|with_reducible exact x3|with_reducible exact y3|fail)
  ((go_at_fn 33;(with_reducible refine CP0.out.mono ?_);rintro e w3 ⟨x,hx,rfl,hpk3,hbut3⟩;(obtain rfl:x=0:=by omega);have H3:=HS3 w3 hpk3 hbut3;have y3:=H3.out.2.2.2.2))
 clear y3 x3 HS3 CP0 hbut3 hpk3 hx
 have HPK:=jH (aI H2.out.2.2.2.2 H1.out.2.2.2.2)
 clear H2 H1
 go_wp2_with fail
 refine wp_loop_rounds 1 ?_
 rw[rounds_succ]
 go_wp2_with fail
 refine(so mq w3).mono ?_
 rintro e w' ⟨rfl,rfl⟩
 have aq:Below w3.heap.size w3 (w3.alloc (cL #[.map (some mq)] 97)):=(bR _ _).alloc (nR _) _
 have CS:=jH (qM w3.heap.size mq D.sure ax (w3.alloc (cL #[.map (some mq)] 97)) (by simp) ((ab.new w3 97 #[.map (some mq)]).cell 0) (H3.out.2.2.2.1.below aq H3.out.2.2.2.1.lt))
 have HB4:=jH aq
 clear aq
 go_wp2_with fail
 refine CS.out.mono ?_
 rintro e w5 ⟨v,rfl,hown,aK⟩
 obtain⟨A5,c5,rfl⟩:=cV hown
 obtain⟨L,hL⟩:∃L,L=(ez D.sure).length:=⟨_,rfl⟩
 have hL2:L≤100000:=by rw[hL,ez,List.length_mergeSort];simp[fB];exact ax
 have H5:Hid (ar w5 aa d mn ms {D with fs:=D.fs}∧eG w5 B pk∧Fr [102,111,23] [] aa w w5∧aL w5 Value.string aY aW mq D.sure∧w5.ownsRow w.heap.size 9 1 (G A5 L c5) L ((ez D.sure).map encStr)):=by
  obtain⟨g1,g2,g3,g4,-⟩:=H3.out
  have hbb:Below w3.heap.size w3 w5:=HB4.out.trans (aK.mono HB4.out.size)
  have hw3:w.heap.size≤w3.heap.size:=g3.size
  exact⟨g1.made hbb,g2.fr (Fr.of_below [] [] hbb g1.hi) hB (by simp),g3.made hbb g1.hi,g4.below hbb g4.lt,hL▸cO hown (by have:=HB4.out.size;omega)⟩
 rw[←hL]
 have HL:=jH hL
 clear hL hown aK CS HB4 H3
 go_wp2_with fail
 go_loopg [44] L (fun gk at_ wr=>∃(j:Nat) (fsj:List (Nat×bM)),at_=X Y j∧Hid (j + gk=L)∧Hid (gu D.fs fsj)∧Hid (ar wr aa d mn ms {D with fs:=fsj}∧eG wr B pk∧Fr [102,111,23] [] aa w wr∧aL wr Value.string aY aW mq D.sure∧wr.ownsRow w.heap.size 9 1 (G A5 L c5) L ((ez D.sure).map encStr)))
 case atStart=>exact⟨0,D.fs,rfl,(by show _=_;omega),gu.refl _,H5.out⟩
 case round=>
  clear H5
  obtain⟨j,fsj,rfl,hgk,hcut,hrel⟩:=hrel
  by_cases au:j < L
  ·obtain⟨nm,hnj⟩:∃nm,(ez D.sure)[j]? =some nm:=⟨_,List.getElem?_eq_getElem (by have:=HL.out;omega)⟩
   obtain⟨s,f0,rfl,hmem⟩:=rM (List.mem_of_getElem? hnj)
   have hsok:=hnm _ hmem
   obtain⟨f,hmf⟩:=jc (m:=D.sure) (x:=s) (List.mem_map.2 ⟨_,hmem,rfl⟩)
   have hfin:=hrel.out.1.sureIn _ (gW hmf)
   obtain⟨p,hp⟩:=jc (m:=fsj) (x:=f) hfin
   obtain⟨Af,cf,b1,b2,b3,b4,b5,b6⟩:=tA hrel.out.1.files hp
   have hlk:=hrel.out.2.2.2.1.lookup (P:=Pg) encS (t:=97) underlying97 (z:=PT none) (by kernel_rfl) s hsok false
   rw[hmf] at hlk
   simp only[aW,Bool.false_eq_true,if_false] at hlk
   obtain⟨bn,on,hAn,hbn,hcn⟩:=(Reads.of_own hrel.out.2.2.2.2).plain (by omega) (by omega)
   subst hAn
   have hcj:=hcn j (.string s) (by rw[List.getElem?_map,hnj];rfl)
   have HC:=jH (aI b1 (aI b2 (aI b3 (aI b4 (aI b5 (aI b6 hp))))))
   obtain⟨c0,c1⟩:=b1.drew.c2
   obtain⟨nf,hnf⟩:∃nf,nf=p.b.length:=⟨_,rfl⟩
   obtain⟨sf,hsf⟩:∃sf,sf=p.sure:=⟨_,rfl⟩
   rw[←hnf] at c0 b2 b3 b4
   rw[←hsf] at c1 b3
   have HS6:∀(x:Nat) w6,x≤nf - sf→eG w6 B pk→cr pk wr.drew w6→Hid (w6.cell? ⟨f,0,none⟩=some (G Af nf cf)∧w6.cell? ⟨f,1,none⟩=some (X Y sf)∧w6.frozen? ⟨f,0,none⟩=false∧∀k,k=sf + x→gu D.fs (aw fsj f ⟨p.b.take k,k⟩)∧ar ((w6.setCell ⟨f,0,none⟩ (G Af k cf)).setCell ⟨f,1,none⟩ (X Y k)) aa d mn ms {D with fs:=aw fsj f ⟨p.b.take k,k⟩}∧eG ((w6.setCell ⟨f,0,none⟩ (G Af k cf)).setCell ⟨f,1,none⟩ (X Y k)) B pk∧Fr [102,111,23] [] aa w ((w6.setCell ⟨f,0,none⟩ (G Af k cf)).setCell ⟨f,1,none⟩ (X Y k))∧aL ((w6.setCell ⟨f,0,none⟩ (G Af k cf)).setCell ⟨f,1,none⟩ (X Y k)) Value.string aY aW mq D.sure∧((w6.setCell ⟨f,0,none⟩ (G Af k cf)).setCell ⟨f,1,none⟩ (X Y k)).ownsRow w.heap.size 9 1 (G (some ⟨bn,on,none⟩) L c5) L ((ez D.sure).map encStr)∧(w6.setCell ⟨f,0,none⟩ (G Af k cf)).frozen? ⟨f,1,none⟩=false∧(w6.setCell ⟨f,0,none⟩ (G Af k cf)).cell? ⟨f,0,none⟩=some (G Af k cf)∧(w6.setCell ⟨f,0,none⟩ (G Af k cf)).cell? ⟨f,1,none⟩=some (X Y sf)):=by
    intro x w6 hx hp6 hk6
    obtain⟨g1,g2,g3,g4,g5⟩:=hrel.out
    obtain⟨A',n',c',l',k1,_⟩:=g2
    have hf:Fr [23] [] aa wr w6:=((Fr.refl _ _ aa wr).drew).trans (sK k1.drew hk6 HPK.out.1.1 g1.hi)
    have q1:=hf.blk _ _ _ b1 (by decide)
    obtain⟨y0,y1⟩:=q1.c2
    rw[←hnf] at y0
    rw[←hsf] at y1
    refine⟨y0,y1,q1.frozen 0,fun k hk=>?_⟩
    have h1:p.sure≤k:=by omega
    have h2:k≤p.b.length:=by omega
    have hfs:Fr [111] [] aa w6 ((w6.setCell ⟨f,0,none⟩ (G Af k cf)).setCell ⟨f,1,none⟩ (X Y k)):=((Fr.refl _ _ aa w6).set_ q1 (by decide) b5 0 _).set_ (q1.set_ 0 _) (by decide) b5 1 _
    have hft:Fr [111,23] [] aa wr ((w6.setCell ⟨f,0,none⟩ (G Af k cf)).setCell ⟨f,1,none⟩ (X Y k)):=(hf.mono (by decide) (by simp)).trans (hfs.mono (by decide) (by simp))
    have q2:=q1.set_ 0 (G Af k cf)
    have v0:=q2.cell 0
    have v1:=q2.cell 1
    have hD6:ar w6 aa d mn ms {D with fs:=fsj}:=g1.fr hf (by decide) (by decide) (by decide) (by decide) (by simp) (by simp)
    have hD7:=ar.refile f ⟨p.b.take k,k⟩ hD6 (hfs.mono (by decide) (by simp)) (b6 _ _ _ w6 k hf (by decide) (by decide) h2)
    refine⟨hcut.out.step hp h1 h2 (zn _ _ _ _ hp),hD7,hp6.fr hfs hB (by decide),g3.trans (hft.mono (by decide) (by simp)),hft.mapIs g4 (by simp),hft.own g5 (by decide),q2.frozen 1,by simpa using v0,?_⟩
    rw[hsf]
    simpa using v1
   have eS:IntKind.i64.wrap ((nf:Int) - (sf:Int))=((nf - sf:Nat):Int):=by rw[IntWalk.i64_in _ (by omega)];omega
   have CP:=jH (rm pk B (nf - sf) wr.drew (by omega) (hrel.out.2.1.fr ((Fr.refl [] [] aa wr).drew) hB (by simp)) (by have:=HPK.out.1.1;omega))
   have HB:=jH (aI b2 (aI b3 b4))
   clear hcn b1 b6 hfin hmf hmem hnj hp hcut hrel HC hnf hsf
   have hdn:decide ((nf:Int) < (sf:Int))=false:=decide_eq_false (by omega)
   clear HB
   go_upto_region 13 with fail
   go_cut [] from 45 to 84 (fun wc=>∃(x:Nat) (w6:World),Hid (x≤nf - sf∧eG w6 B pk∧cr pk wr.drew w6∧wc=w6.setCell ⟨f,0,none⟩ (G Af (sf + x) cf)))
   case first=>
    have HK:Hid (∀(x:Nat) (w6:World),x≤nf - sf→eG w6 B pk→cr pk wr.drew w6→w6.cell? ⟨f,0,none⟩=some (G Af nf cf)∧w6.cell? ⟨f,1,none⟩=some (X Y sf)∧w6.frozen? ⟨f,0,none⟩=false):=fun x w6 hx hp hk=>⟨(HS6 x w6 hx hp hk).out.1,(HS6 x w6 hx hp hk).out.2.1,(HS6 x w6 hx hp hk).out.2.2.1⟩
    have HBB:=jH (aI b2 (aI b3 b4))
    clear HS6
    go_region_with ((go_at_fn 33;(with_reducible refine CP.out.mono ?_);rintro e w6 ⟨x,hx,rfl,hpk6,hbut6⟩;obtain⟨y0,y1,z0⟩:=HK.out x w6 hx hpk6 hbut6;have eK:IntKind.i64.wrap ((sf:Int) + (x:Int))=((sf + x:Nat):Int):=(by {rw[IntWalk.i64_in _ (by omega)];omega});have hkc:sf + x≤cf:=(by omega);have hkn:sf + x≤nf:=(by omega);have hk0:(0:Int)≤((sf + x:Nat):Int):=(by omega);have HM:Hid (x≤nf - sf∧eG w6 B pk∧cr pk wr.drew w6):=(aI hx (aI hpk6 hbut6));clear hx hpk6 hbut6))
    all_goals
     go_wp2_with fail
     go_meet
     exact⟨x,w6,HM.out.1,HM.out.2.1,HM.out.2.2,rfl⟩
   case rest=>
   obtain⟨x,w6,hcut⟩:=hcut
   obtain⟨hx,hpk6,hbut6,rfl⟩:=hcut.out
   obtain⟨k,hk⟩:∃k,k=sf + x:=⟨_,rfl⟩
   have H6:=HS6 x w6 hx hpk6 hbut6
   have H7:=jH (H6.out.2.2.2 k hk)
   rw[←hk]
   have z1:=H7.out.2.2.2.2.2.2.1
   have y0:=H7.out.2.2.2.2.2.2.2.1
   have y1:=H7.out.2.2.2.2.2.2.2.2
   clear hk hx hpk6 hbut6 hcut H6 HS6 CP c0 c1
   go_wp2_with fail
   go_roundg (gk - 1)
   case measure=>have h1:=hgk.out;omega
   case rel=>exact⟨j + 1,_,by go_num,(by show _=_;have:=hgk.out;omega),H7.out.1,H7.out.2.1,H7.out.2.2.1,H7.out.2.2.2.1,H7.out.2.2.2.2.1,H7.out.2.2.2.2.2.1⟩
  ·have hj:j=L:=by have:=hgk.out;omega
   have hdL:decide ((j:Int) < (L:Int))=false:=decide_eq_false (by omega)
   have CC:=jH (oV wr hrel.out.2.2.2.1)
   clear hj
   go_wp2_with fail
   refine CC.out.mono ?_
   rintro e w7 ⟨rfl,hmc,hb7,hs7⟩
   obtain⟨mc,hmce⟩:∃mc,mc=wr.heap.size:=⟨_,rfl⟩
   rw[←hmce] at hmc⊢
   have H7:Hid (ar w7 aa d mn ms {D with fs:=fsj}∧Fr [102,111,23] [] aa w w7∧aL w7 Value.string aY aW mq D.sure∧aL w7 Value.string aY aW mc D.sure∧mq≠mc∧w.heap.size≤mc):=by
    obtain⟨g1,g2,g3,g4,g5⟩:=hrel.out
    have h1:=g4.lt
    exact⟨g1.made hb7,g3.made hb7 g1.hi,g4.below hb7 g4.lt,hmc,by omega,by have:=g3.size;omega⟩
   clear hmc hb7 hs7 CC hrel hmce
   obtain⟨cv,hbk,hcv⟩:=H7.out.1.blk
   have z1:=hbk.frozen 1
   have y1:=hbk.cell 1
   have k1:=hbk.set_ 1 (.map (some mq))
   have z2:=k1.frozen 2
   have y2:=k1.cell 2
   have k2:=k1.set_ 2 (.map (some mc))
   have z3:=k2.frozen 3
   have y3:=k2.cell 3
   have k3:=k2.set_ 3 (G none 0 0)
   have z5:=k3.frozen 5
   have y5:=k3.cell 5
   have k5:=k3.set_ 5 (X Y 0)
   have hfr:Fr [102] [] aa w7 ((((w7.setCell ⟨d,1,none⟩ (.map (some mq))).setCell ⟨d,2,none⟩ (.map (some mc))).setCell ⟨d,3,none⟩ (G none 0 0)).setCell ⟨d,5,none⟩ (X Y 0)):=((((Fr.refl _ _ aa w7).set_ hbk (by decide) H7.out.1.lod 1 _).set_ k1 (by decide) H7.out.1.lod 2 _).set_ k2 (by decide) H7.out.1.lod 3 _).set_ k3 (by decide) H7.out.1.lod 5 _
   have HX:(fun Vv:World=>Hid (ar Vv aa d mq mc {D with now:=D.sure,chg:=[],fail:=0,fs:=fsj}∧Fr [102,111,23] [] aa w Vv)) ((((w7.setCell ⟨d,1,none⟩ (.map (some mq))).setCell ⟨d,2,none⟩ (.map (some mc))).setCell ⟨d,3,none⟩ (G none 0 0)).setCell ⟨d,5,none⟩ (X Y 0)):=by
    obtain⟨g1,g2,g3,g4,g5,g6⟩:=H7.out
    obtain⟨⟨p1,p2⟩,p3⟩:=HPK.out
    exact⟨{lod:=g1.lod,lon:=by omega,los:=by omega,hi:=nT g1.hi hfr.size,ne:=g5,blk:=⟨G none 0 0,k5,World.ownsRow_nil _ _ _ _⟩,now:=hfr.mapIs g3 (by simp),sure:=hfr.mapIs g4 (by simp),files:=g1.files.fr hfr (by decide) (by decide),ids:=g1.ids,nowIn:=g1.sureIn,sureIn:=g1.sureIn,chgIn:=fun c hc=>by simp at hc,quotaB:=g1.quotaB,opsB:=g1.opsB,failB:=Nat.zero_le _},g2.trans (hfr.mono (by decide) (by simp))⟩
   clear hbk hcv k1 k2 k3 k5 hfr
   simp only[ga,gz,gN,Array.setIfInBounds,List.set_toArray,List.set_cons_zero,List.set_cons_succ,List.size_toArray,List.length_cons,List.length_nil] at y1 y2 y3 y5
   go_wp2_with fail
   go_end0
   exact⟨rfl,mq,mc,fsj,HPK.out.1.2,H7.out.2.2.2.2.2,hcut.out,HX.out⟩
end
section
open Go.RowKit Go.Maps Go.Sort
theorem rI {fl:List Nat}{fm:Nat}{s:ByteArray}{f:Nat}(h:(s,f)∈dn fl fm):s=(⟨#[109]⟩:ByteArray)∨∃x,s=aN x∧1≤x∧x≤fl.length:=by
 cases fl with
 |nil=>left;have:=List.mem_singleton.1 h;injection this
 |cons a r=>
  rcases List.mem_cons.1 h with h|h
  ·injection h with h;exact .inr ⟨1,h,by omega,by simp⟩
  ·rcases List.mem_cons.1 h with h|h
   ·injection h with h;exact .inl h
   ·obtain⟨i,hi,he⟩:=List.mem_mapIdx.1 h
    injection he with he
    exact .inr ⟨i + 2,he.symm,by omega,by simp;omega⟩
theorem wY {k x:Nat}(h1:1≤x)(h2:x≤k):x∈bJ k:=List.mem_map.2 ⟨x - 1,List.mem_range.2 (by omega),by omega⟩
theorem DW (aa lg d mn ms size V nx fm:Nat)(fl:List Nat)(D:aF)(w:World)(hL:bQ w aa lg d size V nx (bJ fl.length) false)(hD:ar w aa d mn ms D)(aV:D.now=dn fl fm)(hfl:fl.length≤3)(hf0:fl≠[]):
  Calls Pg 100 #[PT (some ⟨lg,0,none⟩)] w fun e w'=>e=rT (X Y 0)∧Below w.heap.size w w':=by
 have hl5:D.now.length≤4:=by rw[aV,nJ hf0];omega
 have CN:=jH (ze aa d mn ms D (by omega) w hD)
 have HL:=jH hL
 obtain⟨-,A,c,hb,ho⟩:=hL
 have c0:=hb.c1
 clear hD hb ho
 go_enter func100,ntmps100
 go_wp2_with fail
 refine CN.out.mono ?_
 rintro e w1 ⟨v,rfl,hown,ae⟩
 obtain⟨A1,c1,rfl⟩:=cV hown
 obtain⟨L,hLn⟩:∃L,L=(ez D.now).length:=⟨_,rfl⟩
 have hL2:L≤4:=by rw[hLn,ez,List.length_mergeSort];simp[fB];exact hl5
 have HX:=jH ae
 have hL1:=HL.out.made ae
 obtain⟨-,A,c,hb,ho⟩:=hL1
 obtain⟨k,hk⟩:∃k,k=(bJ fl.length).length:=⟨_,rfl⟩
 have hk3:k≤3:=by rw[hk,fT];exact hfl
 rw[←hk] at hb ho
 have x4:w1.cell? ⟨lg,4,none⟩=some (G A k c):=hb.cell 4
 have HCC:=jH (fun x h1 h2=>DA A k c w1.heap.size x (bJ fl.length) w1 (Reads.of_own ho) (wY h1 h2) (by omega))
 have HO:=jH hown
 have HN:=jH (aI aV hLn)
 have hhd:((⟨#[109]⟩:ByteArray).toList==(⟨#[109,46,110,101,119]⟩:ByteArray).toList)=false:=by decide +kernel
 rw[←hLn]
 clear hb ho hown ae CN HL c0 hk hLn aV
 go_wp2_with fail
 go_loopg [3,16] L (fun gk n3 at_ wr=>∃(j:Nat),n3=X Y 0∧at_=X Y j∧Hid (j + gk=L)∧wr=w1)
 case atStart=>exact⟨0,rfl,rfl,(by show _=_;omega),rfl⟩
 case round=>
  obtain⟨j,rfl,rfl,hgk,rfl⟩:=hrel
  by_cases au:j < L
  ·obtain⟨nm,hnj⟩:∃nm,(ez D.now)[j]? =some nm:=⟨_,List.getElem?_eq_getElem (by have:=HN.out.2;omega)⟩
   obtain⟨s,f0,rfl,hmem⟩:=rM (List.mem_of_getElem? hnj)
   rw[HN.out.1] at hmem
   have hoo:=HO.out
   rw[←HN.out.2] at hoo
   obtain⟨bn,on,hAn,hbn,hcn⟩:=(Reads.of_own hoo).plain (by omega) (by omega)
   subst hAn
   have hcj:=hcn j (.string s) (by rw[List.getElem?_map,hnj];rfl)
   have hs:=rI hmem
   clear hcn hoo hnj hmem
   rcases hs with rfl|⟨x,rfl,hx1,hx2⟩
   ·go_wp2_with fail
    refine(yS wr).mono ?_
    rintro e w' ⟨rfl,rfl⟩
    go_wp2_with fail
    go_roundg (gk - 1)
    case measure=>have h1:=hgk.out;omega
    case rel=>exact⟨j + 1,rfl,by go_num,(by show _=_;have:=hgk.out;omega),rfl⟩
   ·have CS:=jH (yR x hx1 (by omega) wr)
    have CC:=jH (HCC.out x hx1 hx2)
    have hnf:((aN x).toList==[109,46,110,101,119])=false:=by
     obtain rfl|rfl|rfl:x=1∨x=2∨x=3:=by omega
     all_goals decide +kernel
    generalize aN x=nm at *
    go_wp2_with fail
    refine CS.out.mono ?_
    rintro e w' ⟨rfl,rfl⟩
    go_wp2_with fail
    refine CC.out.mono ?_
    rintro e w' ⟨rfl,rfl⟩
    go_wp2_with fail
    go_roundg (gk - 1)
    case measure=>have h1:=hgk.out;omega
    case rel=>exact⟨j + 1,rfl,by go_num,(by show _=_;have:=hgk.out;omega),rfl⟩
  ·have hj:j=L:=by have:=hgk.out;omega
   subst hj
   have hdL:decide ((j:Int) < (j:Int))=false:=decide_eq_false (by omega)
   go_wp2_with fail
   go_ret
   exact⟨rfl,HX.out⟩
end
section
open Go.RowKit Go.Maps
structure SC (D:aF)(Q V size:Nat)(fs:List (Nat×List Nat))(cs:List (List (Nat×List Nat)))(la:List (Nat×List Nat))(t:List Nat)(s:Nat)(fl:List Nat)(fm:Nat):Prop where
 ld:dt D Q V (cs.map (aH V)) (aH V la++t) s fl fm
 all:(cs++[la]).flatten=fs
 torn:t=[]∨iy V t
 ta:ay t
 big:∀c∈cs,size / 43≤c.length
 frs:∀f∈fs,gq f
 lim:(aH V la++t).length≤1000
 small:Small D.fs
 V1:1≤V
 V3:V≤3
 s1:43≤size
 s2:size≤957
 q:10000≤Q
theorem Fb {l:List Nat}(h:ay l)(k:Nat):ay (l.take k):=fun x hx=>h x (List.mem_of_mem_take hx)
theorem qe (v:Nat):∀(la:List (Nat×List Nat)) (k:Nat),(∀f∈la,gq f)→k≤(aH v la).length→
  ∃j t,j≤la.length∧(aH v la).take k=aH v (la.take j)++t∧(t=[]∨iy v t)∧ay t∧∀m,m≤la.length→(aH v (la.take m)).length≤k→m≤j
 |[],k,_,hk=>⟨0,[],nR _,by simp[aH],.inl rfl,fun x hx=>by simp at hx,fun m hm _=>hm⟩
 |f::la,k,hf,hk=>by
  have h0:=hf f List.mem_cons_self
  have hl:=fO f.1 v f.2
  by_cases au:k < (df f.1 v f.2).length
  ·refine⟨0,(df f.1 v f.2).take k,Nat.zero_le _,?_,?_,Fb (kC _ _ h0.2.2.2) k,fun m hm hmk=>?_⟩
   ·rw[iu,List.take_append_of_le_length (by omega)]
    simp[aH]
   ·by_cases h16:k < 16
    ·exact .inr (.inl (by rw[List.length_take];omega))
    ·refine .inr (.inr ⟨f.1,f.2,f.2.take (k - 16),h0.1,h0.2.1,by have:=h0.2.2.1;omega,h0.2.2.2,by rw[List.length_take];omega,?_⟩)
     have e:df f.1 v f.2=(cF f.1 v f.2.length++be (bV (cF f.1 v f.2.length)) 4++be (bV f.2) 4)++f.2:=rfl
     have h:(cF f.1 v f.2.length++be (bV (cF f.1 v f.2.length)) 4++be (bV f.2) 4).length=16:=by simp[be_length,gZ]
     unfold eC
     rw[e,List.take_append,h,List.take_of_length_le (by omega)]
   ·cases m with
    |zero=>exact nR _
    |succ m=>
     rw[List.take_succ_cons,iu,List.length_append] at hmk
     omega
  ·rw[iu,List.length_append] at hk
   obtain⟨j,t,h1,h2,h3,h4,h5⟩:=qe v la (k - (df f.1 v f.2).length) (fun g hg=>hf g (List.mem_cons_of_mem _ hg)) (by omega)
   refine⟨j + 1,t,by rw[List.length_cons];omega,?_,h3,h4,fun m hm hmk=>?_⟩
   ·rw[List.take_succ_cons,iu,iu,List.take_append,List.take_of_length_le (by omega),h2,List.append_assoc]
   ·cases m with
    |zero=>exact Nat.zero_le _
    |succ m=>
     rw[List.take_succ_cons,iu,List.length_append] at hmk
     rw[List.length_cons] at hm
     have:=h5 m (by omega) (by omega)
     omega
theorem gu.whole {fs fs':List (Nat×bM)}(h:gu fs fs'){f:Nat}{b:List Nat}(hp:av fs f=some ⟨b,b.length⟩):av fs' f=some ⟨b,b.length⟩:=by
 obtain⟨p',h1,h2⟩:=h.2 f _ hp
 rcases h2 with rfl|⟨k,g1,g2,rfl⟩
 ·exact h1
 ·dsimp only at g1 g2
  obtain rfl:k=b.length:=by omega
  rw[List.take_length] at h1
  exact h1
theorem SL.crash {D:aF}{Q V size n m fm:Nat}{fs:List (Nat×List Nat)}{cs:List (List (Nat×List Nat))}{la:List (Nat×List Nat)}{fl:List Nat}(h:SL D Q V size fs n cs la m fl fm){fs':List (Nat×bM)}(hc:gu D.fs fs'):
  ∃M la' t s',n≤M∧M≤fs.length∧SC {D with now:=D.sure,chg:=[],fail:=0,fs:=fs'} Q V size (fs.take M) cs la' t s' fl fm:=by
 obtain⟨f,hf,hp⟩:=h.ld.last
 obtain⟨k,s',hk1,hk2,hp'⟩:∃k s',(aH V (la.take m)).length≤k∧k≤(aH V la).length∧av fs' f=some ⟨(aH V la).take k,s'⟩:=by
  obtain⟨p',h1,h2⟩:=hc.2 f _ hp
  rcases h2 with rfl|⟨k,g1,g2,rfl⟩
  ·refine⟨(aH V la).length,_,?_,nR _,by rw[List.take_length];exact h1⟩
   have:=og V la m
   rw[this,List.length_append]
   omega
  ·exact⟨k,k,g1,g2,h1⟩
 obtain⟨j,t,j1,j2,j3,j4,j5⟩:=qe V la k h.las hk2
 have hall:(cs++[la.take j]).flatten=fs.take (cs.flatten.length + j):=by
  rw[h.all,List.flatten_append,show [la.take j].flatten=la.take j by simp]
  generalize cs.flatten=Xs
  rw[List.take_append,Nat.add_sub_cancel_left,List.take_of_length_le (l:=Xs) (Nat.le_add_right _ _)]
 have hmj:=j5 m h.mle hk1
 refine⟨cs.flatten.length + j,la.take j,t,s',by have:=h.sure;omega,by rw[h.all,List.length_append];omega,?_⟩
 have hsm:Small fs':=by
  intro g p' hg
  obtain⟨p,hpp⟩:=jc (m:=D.fs) (x:=g) (by rw[←hc.1];exact nV hg)
  obtain⟨p2,e1,e2⟩:=hc.2 g p hpp
  rw[hg] at e1
  injection e1 with e1
  subst e1
  have hs:=h.small g p hpp
  rcases e2 with rfl|⟨k,g1,g2,rfl⟩
  ·exact hs
  ·show (p.b.take k).length≤1000
   rw[List.length_take];omega
 exact{
  ld:={
   quota:=h.ld.quota,fail:=rfl,chg:=rfl,now:=h.ld.sure,sure:=h.ld.sure,len:=h.ld.len,few:=h.ld.few
   segs:=fun i hi=>by
    obtain⟨g,g1,g2⟩:=h.ld.segs i hi
    exact⟨g,g1,hc.whole g2⟩
   last:=⟨f,hf,by rw[←j2];exact hp'⟩
   man:=hc.whole h.ld.man
   nod:=h.ld.nod}
  all:=hall,torn:=j3,ta:=j4,big:=h.big
  frs:=fun g hg=>h.frs g (List.mem_of_mem_take hg)
  lim:=by rw[←j2,List.length_take];have:=h.lim;omega
  small:=hsm
  V1:=h.V1,V3:=h.V3,s1:=h.s1,s2:=h.s2,q:=h.q}
theorem SC.opened {D D':aF}{Q V size s fm:Nat}{fs:List (Nat×List Nat)}{cs:List (List (Nat×List Nat))}{la:List (Nat×List Nat)}{t fl:List Nat}(h:SC D Q V size fs cs la t s fl fm)(hl:dt D' Q V (cs.map (aH V)) (aH V la) (aH V la).length fl fm)(hs:Small D'.fs):SL D' Q V size fs fs.length cs la la.length fl fm:=by
 have hall:fs=cs.flatten++la:=by rw[←h.all];simp
 exact{
  ld:=by rw[List.take_length];exact hl
  all:=hall
  sure:=by rw[hall,List.length_append];exact nR _
  mle:=nR _
  big:=h.big,frs:=h.frs
  lim:=by have:=h.lim;rw[List.length_append] at this;omega
  small:=hs
  V1:=h.V1,V3:=h.V3,s1:=h.s1,s2:=h.s2,q:=h.q}
theorem yc (V:Nat)(rs:List aE):∀x:Nat×List Be×List (Tu×Fl),(∀r∈rs,r.Ok V)→dD x.2.1∧dz x.2.1.length x.2.1→dD (rs.foldl aE.step x).2.1∧dz (rs.foldl aE.step x).2.1.length (rs.foldl aE.step x).2.1:=by
 induction rs with
 |nil=>intro x _ h;exact h
 |cons r rs ih=>
  intro x hr h
  rw[List.foldl_cons]
  refine ih _ (fun r' h'=>hr r' (List.mem_cons_of_mem _ h')) ?_
  have h0:=hr r List.mem_cons_self
  cases r with
  |gen g l=>exact⟨h0.2.1,h0.2.2.1⟩
  |put f=>exact h
theorem ra {V:Nat}(rs:List aE)(hok:∀r∈rs,r.Ok V):dD (aS rs).2.1∧dz (aS rs).2.1.length (aS rs).2.1:=
 yc V rs (0,[],[]) hok ⟨fun b h=>by simp at h,⟨by simp,fun j h=>by simp at h⟩⟩
theorem vO (aa d mn ms size Q V s fm:Nat)(D:aF)(rs:List aE)(cs:List (List (Nat×List Nat)))(la:List (Nat×List Nat))(t fl:List Nat)(w:World)(hC:SC D Q V size (rs.map (aE.fr V)) cs la t s fl fm)(hok:∀r∈rs,r.Ok V)(ax:rs.length≤200)
  (hD:ar w aa d mn ms D)(aP:D.ops≤700000000000):
  Calls Pg 38 #[PT (some ⟨d,0,none⟩),X Y 3,X Y size] w fun e w'=>∃ss lg sp sd sf,e=rT (tU #[PT (some ⟨ss,0,none⟩),X Y 0])∧dw w' aa ss lg sp sd sf d mn size Q V (D.ops + 3) rs rs.length [mn,sd,sf]∧w.heap.size≤sd∧w.heap.size≤sf∧sd≠sf∧Fr (192::KD) [mn,sf] aa w w':=by
 have v1:=hC.V1
 have v3:=hC.V3
 have hfew:=hC.ld.few
 have hfl:=hC.ld.len
 have hman:=hC.ld.man
 rw[List.length_map] at hfew hfl hman
 have CP:=jH (yl aa d mn ms fm V (cs.length + 2) (bJ (cs.length + 1)) D _ w hD hC.ld.hd hman rfl (nO v1 v3 hfew))
 have H0:=jH hD
 have HL:=jH (aI hC (aI hfl hfew))
 have HX:=jH (aI aP (aI hok ax))
 have hs2:size≤957:=hC.s2
 have hs1:43≤size:=hC.s1
 have hdv:decide ((3:Int) < (V:Int))=false:=decide_eq_false (by omega)
 clear hD aP hok ax hfl hman hC hfew
 go_enter func38,ntmps38
 go_wp2_with fail
 refine CP.out.mono ?_
 rintro e w1 ⟨rfl,ae⟩
 go_wp2_with fail
 refine(qK w1).mono ?_
 rintro e w2 ⟨sp,sd,sf,rfl,hst,af⟩
 obtain⟨q,hq⟩:∃q,q=w2.heap.size:=⟨_,rfl⟩
 go_wp2_with fail
 rw[←hq]
 have H2:Hid (ar (w2.alloc (cL #[PT (some ⟨sp,0,none⟩)] 188)) aa d mn ms D∧bP (w2.alloc (cL #[PT (some ⟨sp,0,none⟩)] 188)) aa sp sd sf 0 [] []∧ab (w2.alloc (cL #[PT (some ⟨sp,0,none⟩)] 188)) q 188 #[PT (some ⟨sp,0,none⟩)]∧Below w.heap.size w (w2.alloc (cL #[PT (some ⟨sp,0,none⟩)] 188))∧aa≤w.heap.size∧w.heap.size≤sd∧w.heap.size≤sf∧sd≠sf∧mn < w.heap.size∧ms < w.heap.size∧mn≠ms):=by
  have al:Below w2.heap.size w2 (w2.alloc (cL #[PT (some ⟨sp,0,none⟩)] 188)):=(bR _ _).alloc (nR _) _
  have s1:=ae.size
  have hb13:Below w1.heap.size w1 (w2.alloc (cL #[PT (some ⟨sp,0,none⟩)] 188)):=af.trans (al.mono af.size)
  have hb03:=ae.trans (hb13.mono s1)
  have e1:=H0.out.hi
  have e2:=hst.lod
  have e3:=hst.lof
  exact⟨H0.out.made hb03,(hst.low (by omega)).made al,hq▸ab.new w2 _ _,hb03,e1,by omega,by omega,hst.ne,H0.out.now.lt,H0.out.sure.lt,H0.out.ne⟩
 clear hst ae af CP hq H0
 generalize (w2.alloc (cL #[PT (some ⟨sp,0,none⟩)] 188))=w3 at *
 have hfrm:jk (cs++[la]).flatten:=by rw[HL.out.1.all];exact gq.ok HL.out.1.frs
 have CO:=jH (wu aa d mn ms size Q V sp sf s fm D cs la t fl (fun j W=>bP W aa sp sd sf (aS (rs.take j)).1 (aS (rs.take j)).2.1 (aS (rs.take j)).2.2) w3 H2.out.1 HL.out.1.ld HL.out.1.torn HL.out.1.ta hfrm v1 v3 (by omega) (by omega) HX.out.1 (by have:=HL.out.1.lim;omega) (by have:=H2.out;omega) (by have:=H2.out;omega)
  (by simpa [aS] using H2.out.2.1) (fun j W W' h k=>h.made k) (fun j W W' h k=>h.fr k (by decide) (by decide) (by have:=H2.out;simp;omega) (by have:=H2.out;simp;omega))
  (fun j k l A1 c1 W hj hJ hr bI=>xP aa sp sd sf V v1 v3 rs HX.out.2.1 HX.out.2.2 j k l A1 c1 W (by rw[←HL.out.1.all];exact hj) hJ hr bI))
 refine CO.out.mono ?_
 rintro e w4 ⟨lg,ms',D',rfl,hJ,hms',hlg,hD4,hLd,hop4,hsm4,hL4,hF4⟩
 have H4:Hid (bP w4 aa sp sd sf (aS rs).1 (aS rs).2.1 (aS rs).2.2∧w3.heap.size≤ms'∧ar w4 aa d mn ms' D'∧bQ w4 aa lg d size V (cs.length + 2) (bJ (cs.length + 1)) false∧Fr (192::KD) [mn,sf] aa w w4∧ab w4 q 188 #[PT (some ⟨sp,0,none⟩)]):=by
  obtain⟨g1,g2,g3,g4,g5,g6⟩:=H2.out
  refine⟨?_,hms',hD4,hL4,(Fr.of_below _ _ g4 g5).trans hF4,hF4.blk _ _ _ g3 (by decide)⟩
  rw[HL.out.1.all,List.length_map,List.take_length] at hJ
  exact hJ
 have HS4:Hid (SL D' Q V size (rs.map (aE.fr V)) rs.length cs la la.length fl fm∧D'.ops≤D.ops + 3):=by
  have hs:=hsm4 HL.out.1.small (by have:=HL.out.1.lim;rw[List.length_append] at this;omega)
  have:=HL.out.1.opened hLd hs
  rw[List.length_map] at this
  exact⟨this,hop4⟩
 clear CO hJ hms' hlg hD4 hL4 hF4 hLd hop4 hsm4
 go_wp2_with fail
 refine(DW aa lg d mn ms' size V (cs.length + 2) fm fl D' w4 (by rw[HL.out.2.1];exact H4.out.2.2.2.1) H4.out.2.2.1 HS4.out.1.ld.now (by have:=HL.out.2;omega) (fun e=>by have:=HL.out.2.1;rw[e] at this;simp at this)).mono ?_
 rintro e w5 ⟨rfl,aK⟩
 have H5:Hid (bP w5.drew aa sp sd sf (aS rs).1 (aS rs).2.1 (aS rs).2.2∧ar w5.drew aa d mn ms' D'∧bQ w5.drew aa lg d size V (cs.length + 2) (bJ (cs.length + 1)) false∧Fr (192::KD) [mn,sf] aa w w5.drew∧ab w5.drew q 188 #[PT (some ⟨sp,0,none⟩)]):=by
  obtain⟨g1,g2,g3,g4,g5,g6⟩:=H4.out
  have hb6:Below w4.heap.size w4 w5.drew:=aK.drew
  have e0:=H2.out.2.2.2.2.1
  exact⟨g1.made hb6,g3.made hb6,g4.made hb6,g5.made hb6 (nT e0 g5.size),g6.below hb6 g6.lt⟩
 have d0:w5.drew.cell? ⟨q,0,none⟩=some (PT (some ⟨sp,0,none⟩)):=H5.out.2.2.2.2.cell 0
 have hlb:(aS rs).2.1.length≤1000:=by have:=(ra rs HX.out.2.1).2.1;omega
 have hlf:(aS rs).2.2.length≤1000000:=by have:=jy rs;have:=HX.out.2.2;omega
 have CV:=jH (ll aa sp sd sf (aS rs).1 (aS rs).2.1 (aS rs).2.2 w5.drew H5.out.1 hlb hlf)
 clear hlb hlf aK
 generalize hg:(aS rs).1=g at *
 generalize hbl:(aS rs).2.1=bl at *
 generalize hfm:(aS rs).2.2=fmm at *
 have HG:=jH (aI hg (aI hbl hfm))
 clear hg hbl hfm
 go_wp2_with fail
 go_region_held3 (fun wS=>wS.cell? ⟨q,0,none⟩=some (PT (some ⟨sp,0,none⟩))) (first|with_reducible exact d0|with_reducible exact d1|with_reducible exact d2 _|fail)
  (first
   |(go_at_call 40;(with_reducible refine CV.out.mono ?_);rintro e w6 ⟨A1,c1,v1,fs,rfl,aQ,cK,bH,hb6⟩;obtain⟨A2,c2,rfl⟩:=cV bH;have k6:=H5.out.2.2.2.2.below hb6 H5.out.2.2.2.2.lt;have d1:w6.cell? ⟨q,0,none⟩=some (PT (some ⟨sp,0,none⟩)):=k6.cell 0;have d2:∀o,(w6.alloc o).cell? ⟨q,0,none⟩=some (PT (some ⟨sp,0,none⟩)):=fun o=>(k6.alloc o).cell 0))
 have au:=fs.length
 have HF:Hid (dw (w6.alloc (cL #[PT (some ⟨lg,0,none⟩),PT (some ⟨sp,0,none⟩),X Y g,G A1 bl.length c1,G none 0 0,G A2 fs.length c2] 175)) aa w6.heap.size lg sp sd sf d mn size Q V (D.ops + 3) rs rs.length [mn,sd,sf]∧w.heap.size≤sd∧w.heap.size≤sf∧sd≠sf∧Fr (192::KD) [mn,sf] aa w (w6.alloc (cL #[PT (some ⟨lg,0,none⟩),PT (some ⟨sp,0,none⟩),X Y g,G A1 bl.length c1,G none 0 0,G A2 fs.length c2] 175))):=by
  obtain⟨g1,g2,g3,g4,g5⟩:=H5.out
  obtain⟨-,-,-,j4,j5,j6,j7,j8,j9,j10,j11⟩:=H2.out
  have e1:=H4.out.2.1
  have e2:=j4.size
  have hb7:Below w5.drew.heap.size w5.drew (w6.alloc (cL #[PT (some ⟨lg,0,none⟩),PT (some ⟨sp,0,none⟩),X Y g,G A1 bl.length c1,G none 0 0,G A2 fs.length c2] 175)):=hb6.alloc hb6.size _
  have e3:aa≤w5.drew.heap.size:=nT j5 g4.size
  have e4:=hb6.size
  have e5:sd < w3.heap.size:=H2.out.2.1.dr.lt
  have e6:sf < w3.heap.size:=H2.out.2.1.fm.lt
  have e7:=(g1.made hb7).dr.lt
  have e8:=(g1.made hb7).fm.lt
  have e9:=(g2.made hb7).now.lt
  obtain⟨q1,q2,q3⟩:=HG.out
  refine⟨⟨⟨by omega,_,_,_,_,ab.new _ _ _⟩,by rw[q1,q2,q3];exact g1.made hb7,⟨ms',D',cs,la,la.length,fl,fm,g2.made hb7,g3.made hb7,HS4.out.1,HS4.out.2,by simp only[List.mem_cons,List.not_mem_nil,or_false,not_or];omega,fun x hx=>?_⟩,HX.out.2.1,by simp,by simp,by omega,by omega⟩,j6,j7,j8,g4.made hb7 e3⟩
  simp only[List.mem_cons,List.not_mem_nil,or_false] at hx
  rcases hx with rfl|rfl|rfl
  ·exact e9
  ·exact e7
  ·exact e8
 clear H5 H4 H2 CV d0 d1 d2 aQ bH hb6 k6 cK HX
 go_wp2_with fail
 go_ret2
 exact⟨_,lg,sp,sd,sf,rfl,HF.out⟩
theorem ue {w:World}{bp ag fl ah aj quota V d ss now:Nat}{v10 v11 v12 v13 v14:Value}{t:TypeId}(h:ab w bp t (dR ag fl ah aj quota V d ss v10 v11 v12 v13 v14 now)):w.cell? ⟨bp,8,none⟩=some (PT (some ⟨d,0,none⟩))∧w.cell? ⟨bp,5,none⟩=some (X Y aj):=
 ⟨by have:=h.cell 8;simpa [dR] using this,by have:=h.cell 5;simpa [dR] using this⟩
def KA:List TypeId:=(192::KD)++KH
theorem Fr.off {K:List TypeId}{M M':List Nat}{aa:Nat}{w w':World}(h:Fr K M aa w w')(hM:∀b∈M,b∈M'∨w.heap.size≤b):Fr K M' aa w w':=
 ⟨h.below,h.blk,fun b es c h0 h1=>h.map b es c h0 (fun e=>by rcases hM b e with h2|h2;exact h1 h2;have:=(Array.getElem?_eq_some_iff.1 h0).1;omega)⟩
theorem E8 (aa bp ag fl ah aj quota V d ss now mn ms s fmn:Nat)(D:aF)(v10 v11 v12 v13 v14:Value)(rs:List aE)(cs:List (List (Nat×List Nat)))(la:List (Nat×List Nat))(t fls:List Nat)(w:World)
  (hb:ab w bp 69 (dR ag fl ah aj quota V d ss v10 v11 v12 v13 v14 now))(hlo:aa≤bp)
  (hC:SC D quota V aj (rs.map (aE.fr V)) cs la t s fls fmn)(hok:∀r∈rs,r.Ok V)(ax:rs.length≤200)(hD:ar w aa d mn ms D)(aP:D.ops≤700000000000)
  (hfok:∀f∈(aS rs).2.2.map (·.2),cI f)(hnd:(((aS rs).2.2.map (·.2)).map Fl.k).Nodup)(hmost:(aS rs).2.2.length≤fl)(aV:now≤1099511627776)(h16:(aS rs).2.1.length≤16)(hmn:dd ag=true)(hsl:ag≤1000000)(hfl:fl≤256)(hi1:1≤ah)(hi2:ah≤1099511627776):
  Calls Pg 17 #[PT (some ⟨bp,0,none⟩)] w fun e w'=>e=rT (X Y 0)∧(∃p il fs,p.bp=bp∧fs.Perm ((aS rs).2.2.map (·.2))∧aM w' aa p ag fl ah aj quota V (aS rs).1 now (D.ops + 3) rs rs.length (aS rs).2.1 (bA (seenAt now fs)) il 1)∧Fr KA [mn] aa w w':=by
 have an:=hD.hi
 have hlb:=(ra rs hok)
 have hlf:(aS rs).2.2.length≤1000000:=by have:=jy rs;omega
 have CO:=jH (vO aa d mn ms aj quota V s fmn D rs cs la t fls w.drew hC hok ax (hD.made (bR _ _).drew) aP)
 have d0:=ue hb.drew
 have H0:=jH (aI hb (aI hlo (aI an (aI hlb hlf))))
 have HX:=jH (aI hfok (aI hnd (aI hmost (aI aV (aI h16 (aI hmn (aI hsl (aI hfl (aI hi1 hi2)))))))))
 clear hb hlo an hlb hlf hC hok ax hD aP hfok hnd hmost aV h16 hmn hsl hfl hi1 hi2
 generalize hg:(aS rs).1=g at *
 generalize hbl:(aS rs).2.1=bl at *
 generalize hfm:(aS rs).2.2=fm at *
 have HG:=jH (aI hg (aI hbl hfm))
 clear hg hbl hfm
 go_enter func17,ntmps17
 go_wp2_with fail
 go_region_held3 (fun wS=>wS.cell? ⟨bp,8,none⟩=some (PT (some ⟨d,0,none⟩))∧wS.cell? ⟨bp,5,none⟩=some (X Y aj)) (first|with_reducible exact d0|with_reducible exact d1|fail)
  (first
   |(go_at_call 38;(with_reducible refine CO.out.mono ?_);rintro e w1 ⟨ss',lg,sp,sd,sf,rfl,hst,q1,q2,q3,hf⟩;have k1:=hf.blk _ _ _ H0.out.1.drew (by decide);have d1:=ue k1))
 obtain⟨-,-,-,-,-,-,-,-,-,z9,-,-,-,-,-,-,-,z17,z18⟩:=k1.f19
 have y9:=k1.cell 9
 have y17:=k1.cell 17
 have y18:=k1.cell 18
 have H1:=jH (aI hst (aI k1 hf))
 unfold dR at y9 y17 y18
 simp only[ga,gz,gN] at y9 y17 y18
 have hsf:w.heap.size≤sf:=q2
 clear hst hf k1 d0 d1 CO q1 q2 q3
 go_wp2_with fail
 have H2:(fun Vv:World=>Hid (ab Vv bp 69 (dR ag fl ah aj quota V d ss' v10 v11 v12 v13 v14 now)∧dw Vv aa ss' lg sp sd sf d mn aj quota V (D.ops + 3) rs rs.length [mn,sd,sf]∧aa≤Vv.heap.size∧Fr KA [mn] aa w Vv)) (((w1.setCell ⟨bp,18,none⟩ (bL false)).setCell ⟨bp,9,none⟩ (PT (some ⟨ss',0,none⟩))).setCell ⟨bp,17,none⟩ (bL false)):=by
  obtain⟨g1,g2,g3⟩:=H1.out
  obtain⟨j1,j2,j3,j4⟩:=H0.out
  have hf:Fr [69] [] aa w1 (((w1.setCell ⟨bp,18,none⟩ (bL false)).setCell ⟨bp,9,none⟩ (PT (some ⟨ss',0,none⟩))).setCell ⟨bp,17,none⟩ (bL false)):=(((Fr.refl _ _ aa w1).set_ g2 (by simp) j2 18 _).set_ (g2.set_ 18 _) (by simp) j2 9 _).set_ ((g2.set_ 18 _).set_ 9 _) (by simp) j2 17 _
  have e1:Fr KA [mn,sf] aa w (((w1.setCell ⟨bp,18,none⟩ (bL false)).setCell ⟨bp,9,none⟩ (PT (some ⟨ss',0,none⟩))).setCell ⟨bp,17,none⟩ (bL false)):=((Fr.of_below _ _ (bR w.heap.size w).drew j3).trans (g3.mono (by decide) (fun b hb=>hb))).trans (hf.mono (by decide) (by simp))
  refine⟨((g2.set_ 18 _).set_ 9 _).set_ 17 _,g1.fr hf (by decide) (by decide) (by decide) (by decide) (by simp) (by simp) (by simp) (by simp),nT j3 e1.size,e1.off (fun b hb=>?_)⟩
  simp only[List.mem_cons,List.not_mem_nil,or_false] at hb
  rcases hb with rfl|rfl
  ·exact .inl (by simp)
  ·exact .inr hsf
 generalize (((w1.setCell ⟨bp,18,none⟩ (bL false)).setCell ⟨bp,9,none⟩ (PT (some ⟨ss',0,none⟩))).setCell ⟨bp,17,none⟩ (bL false))=w2 at H2⊢
 clear H1 z9 z17 z18 y9 y17 y18
 refine(vM aa ss' lg sp w2 H2.out.2.1.sto).mono ?_
 rintro e w2' ⟨rfl,rfl⟩
 go_wp2_with fail
 refine(ll aa sp sd sf g bl fm w2 (by have h:=H2.out.2.1.st;obtain⟨q1,q2,q3⟩:=HG.out;rw[q1,q2,q3] at h;exact h) (by have:=HX.out.2.2.2.2.1;omega) H0.out.2.2.2.2).mono ?_
 rintro e w3 ⟨A1,c1,v1,fs,rfl,aQ,cK,bH,al⟩
 obtain⟨A2,c2,rfl⟩:=cV bH
 have H3:Hid (ab w3 bp 69 (dR ag fl ah aj quota V d ss' v10 v11 v12 v13 v14 now)∧dw w3 aa ss' lg sp sd sf d mn aj quota V (D.ops + 3) rs rs.length [mn,sd,sf]∧aa≤w3.heap.size∧Fr KA [mn] aa w w3):=by
  obtain⟨g1,g2,g3,g4⟩:=H2.out
  exact⟨g1.below al g1.lt,g2.made al,nT g3 al.size,g4.made al g3⟩
 have CH:=jH (tT aa bp ag fl ah aj quota V d ss' now g v10 v11 v12 v13 v14 A1 c1 w2.heap.size bl A2 c2 w2.heap.size fs true lg sp sd sf mn (D.ops + 3) rs.length rs w3 H3.out.1 H0.out.2.1 H3.out.2.2.1 aQ bH
  (fun f hf=>HX.out.1 f (cK.mem_iff.1 hf)) ((cK.map Fl.k).nodup_iff.2 HX.out.2.1) (by have:=cK.length_eq;have:=HX.out.2.2.1;simp at *;omega) (.inr rfl) HX.out.2.2.2.1 H3.out.2.1 (by rw[HG.out.2.1];exact HX.out.2.2.2.2.1) H0.out.2.2.2.1.1 H0.out.2.2.2.1.2 HX.out.2.2.2.2.2.1 HX.out.2.2.2.2.2.2.1 HX.out.2.2.2.2.2.2.2.1 HX.out.2.2.2.2.2.2.2.2.1 HX.out.2.2.2.2.2.2.2.2.2)
 clear aQ bH al H2
 go_wp2_with fail
 refine CH.out.mono ?_
 rintro e w4 ⟨rfl,⟨tp,tm,tk,qp,qm,chp,dp,dm,qp2,qm2,il,hbal⟩,hf4⟩
 have HF:=jH (aI hbal (H3.out.2.2.2.trans (hf4.mono (by decide) (by simp))))
 have HP:=jH cK
 clear hbal hf4 cK CH H3 H0 HX HG
 go_wp2
 go_ret
 exact⟨rfl,⟨_,il,fs,rfl,HP.out,HF.out.1⟩,HF.out.2⟩
theorem uf {w:World}{bp ag fl ah aj quota V d ss now:Nat}{v10 v11 v12 v13 v14:Value}{t:TypeId}(h:ab w bp t (dR ag fl ah aj quota V d ss v10 v11 v12 v13 v14 now)):w.cell? ⟨bp,8,none⟩=some (PT (some ⟨d,0,none⟩)):=by have:=h.cell 8;simpa [dR] using this
theorem EI (aa bp:Nat)(A:Option Addr)(n c:Nat)(K1 K:List TypeId)(M:List Nat)(P1 P:World→Prop)(w:World){ag fl ah aj quota V d ss now:Nat}{v10 v11 v12 v13 v14:Value}(hb:ab w bp 69 (dR ag fl ah aj quota V d ss v10 v11 v12 v13 v14 now))(an:aa≤w.heap.size)(hK1:69∉K1)(hK2:37∉K1)(hK3:28∉K1)(hP:∀a b,P a→Fr [28] [] aa a b→P b)
  (CK:∀W,Below w.heap.size w W→Calls Pg 16 #[PT (some ⟨d,0,none⟩),G A n c] W fun e w'=>e=rT (tU #[])∧P1 w'∧Fr K1 [] aa W w')
  (CA:∀W,P1 W→Calls Pg 17 #[PT (some ⟨bp,0,none⟩)] W fun e w'=>e=rT (X Y 0)∧P w'∧Fr K M aa w w'∧∀g cs,ab W g 28 cs→ab w' g 28 cs):
  Calls Pg 7 #[PT (some ⟨bp,0,none⟩),aG #[X Y 8,G none 0 0,X Y 0,X Y 0,X Y 0,G none 0 0,G A n c]] w fun e w'=>e=rT fW∧P w'∧Fr K M aa w w':=by
 unfold fW
 have hx:=(ab.new w 37 #[X Y 8,G none 0 0,X Y 0,X Y 0,X Y 0,G none 0 0,G A n c]).alloc (cL #[X Y 0,X Y 0,X Y 0,G none 0 0] 28)
 obtain⟨x0,x1,x2,x3,x4,x5,x6⟩:=hx.c7
 have ho:=ab.new (w.alloc (cL #[X Y 8,G none 0 0,X Y 0,X Y 0,X Y 0,G none 0 0,G A n c] 37)) 28 #[X Y 0,X Y 0,X Y 0,G none 0 0]
 have ae:=(hb.alloc (cL #[X Y 8,G none 0 0,X Y 0,X Y 0,X Y 0,G none 0 0,G A n c] 37)).alloc (cL #[X Y 0,X Y 0,X Y 0,G none 0 0] 28)
 have hbl:Below w.heap.size w ((w.alloc (cL #[X Y 8,G none 0 0,X Y 0,X Y 0,X Y 0,G none 0 0,G A n c] 37)).alloc (cL #[X Y 0,X Y 0,X Y 0,G none 0 0] 28)):=((bR w.heap.size w).alloc (nR _) _).alloc (by simp) _
 have hz:(w.alloc (cL #[X Y 8,G none 0 0,X Y 0,X Y 0,X Y 0,G none 0 0,G A n c] 37)).heap.size=w.heap.size + 1:=by simp
 rw[hz] at ho
 have HC:=jH (CK _ hbl.drew)
 have HCA:=jH CA
 have H:=jH (aI ho (aI hbl (aI hx ae)))
 clear CK CA hx hb ae ho hbl
 go_enter func7,ntmps7
 go_wp2_with fail
 generalize ((w.alloc (cL #[X Y 8,G none 0 0,X Y 0,X Y 0,X Y 0,G none 0 0,G A n c] 37)).alloc (cL #[X Y 0,X Y 0,X Y 0,G none 0 0] 28))=w0 at *
 have d0:w0.drew.cell? ⟨bp,8,none⟩=some (PT (some ⟨d,0,none⟩))∧w0.drew.cell? ⟨w.heap.size,6,none⟩=some (G A n c):=⟨uf H.out.2.2.2.drew,x6⟩
 go_region_held3 (fun wS=>wS.cell? ⟨bp,8,none⟩=some (PT (some ⟨d,0,none⟩))∧wS.cell? ⟨w.heap.size,6,none⟩=some (G A n c)) (first|with_reducible exact d0|with_reducible exact d1|fail)
  (first
   |(go_at_call 16;(with_reducible refine HC.out.mono ?_);rintro e w1 ⟨rfl,hP1,hF⟩;have d1:w1.cell? ⟨bp,8,none⟩=some (PT (some ⟨d,0,none⟩))∧w1.cell? ⟨w.heap.size,6,none⟩=some (G A n c):=⟨uf (hF.blk _ _ _ H.out.2.2.2.drew hK1),(hF.blk _ _ _ H.out.2.2.1.drew hK2).cell 6⟩))
 have H1:Hid (ab w1 (w.heap.size + 1) 28 #[X Y 0,X Y 0,X Y 0,G none 0 0]∧P1 w1):=⟨hF.blk _ _ _ H.out.1.drew hK3,hP1⟩
 clear hF hP1 HC H d0 d1 x0 x1 x2 x3 x4 x5 x6
 go_wp2_with fail
 refine(HCA.out _ H1.out.2).mono ?_
 rintro e w2 ⟨rfl,hP2,hF2,hB2⟩
 have HF:Hid (ab w2 (w.heap.size + 1) 28 #[X Y 0,X Y 0,X Y 0,G none 0 0]∧P w2∧Fr K M aa w w2):=⟨hB2 _ _ H1.out.1,hP2,hF2⟩
 clear hP2 hF2 hB2 H1 HCA
 obtain⟨o0,o1,o2,o3⟩:=HF.out.1.c4
 obtain⟨z0,z1,z2,z3⟩:=HF.out.1.f4
 go_wp2_with fail
 have hbq:aa≤w.heap.size + 1:=nT an (nS _)
 have hfr:=(((((Fr.refl [28] [] aa w2).set_ HF.out.1 (by simp) hbq 0 (X Y 0)).set_ (HF.out.1.set_ 0 (X Y 0)) (by simp) hbq 1 (X Y 0)).set_ ((HF.out.1.set_ 0 (X Y 0)).set_ 1 (X Y 0)) (by simp) hbq 2 (X Y 0)).set_ (((HF.out.1.set_ 0 (X Y 0)).set_ 1 (X Y 0)).set_ 2 (X Y 0)) (by simp) hbq 3 (G none 0 0))
 refine bodyPost_ret (fU rfl _ _ (w.heap.size + 1) 28 #[X Y 0,X Y 0,X Y 0,G none 0 0] (0,0) _ rfl ((((HF.out.1.set_ 0 (X Y 0)).set_ 1 (X Y 0)).set_ 2 (X Y 0)).set_ 3 (G none 0 0)) underlying28 rfl iK) rfl ?_
 exact⟨rfl,hP _ _ HF.out.2.1 hfr,((((HF.out.2.2.set_new (nS _) an 0 (X Y 0)).set_new (nS _) an 1 (X Y 0)).set_new (nS _) an 2 (X Y 0)).set_new (nS _) an 3 (G none 0 0))⟩
def KC:List TypeId:=[102,111,23]++KA
theorem qj {w:World}{aa:Nat}{p:BP}{ag fl ah aj quota V gen now ops n0:Nat}{rs:List aE}{bl:List Be}{fm:List (Tu×Fl)}{il:List It}{made:Int}(h:aM w aa p ag fl ah aj quota V gen now ops rs n0 bl fm il made)(A:Option Addr)(n c B:Nat)(l:List Nat)(hr:Reads w B 1 A n (bv l))(hB:B≤aa)(hnc:n≤c)(hn:n≤140737488355328)(hal:ay l)
  (ax:rs.length≤200)(aP:ops≤700000000000)
  (hst:∀M,n0≤M→M≤rs.length→(∀f∈(aS (rs.take M)).2.2.map (·.2),cI f)∧(((aS (rs.take M)).2.2.map (·.2)).map Fl.k).Nodup∧(aS (rs.take M)).2.2.length≤fl∧(aS (rs.take M)).2.1.length≤16)(aV:now≤1099511627776)(hsl:ag≤1000000)(hfl:fl≤256)(hi1:1≤ah)(hi2:ah≤1099511627776):
  Calls Pg 7 #[PT (some ⟨p.bp,0,none⟩),aG #[X Y 8,G none 0 0,X Y 0,X Y 0,X Y 0,G none 0 0,G A n c]] w fun e w'=>e=rT fW∧(∃M ops' p' il' fs,n0≤M∧M≤rs.length∧ops'≤ops + 3∧p'.bp=p.bp∧fs.Perm ((aS (rs.take M)).2.2.map (·.2))∧aM w' aa p' ag fl ah aj quota V (aS (rs.take M)).1 now ops' (rs.take M) M (aS (rs.take M)).2.1 (bA (seenAt now fs)) il' 1)∧Fr KC [] aa w w':=by
 obtain⟨A0,c0,k1,k2⟩:=h.blk
 have an:=h.hi
 obtain⟨ms,D,cs,la,m,fls,fmn,x1,x2,x3,x4,x5,x6⟩:=h.sto.lx
 refine EI aa p.bp A n c [102,111,23] KC [] (fun W=>∃mq mc D' M la' t s,n0≤M∧M≤rs.length∧SC D' quota V aj ((rs.take M).map (aE.fr V)) cs la' t s fls fmn∧D'.ops≤ops∧ar W aa p.d mq mc D'∧Fr [102,111,23] [] aa w W∧w.heap.size≤mq) (fun w'=>∃M ops' p' il' fs,n0≤M∧M≤rs.length∧ops'≤ops + 3∧p'.bp=p.bp∧fs.Perm ((aS (rs.take M)).2.2.map (·.2))∧aM w' aa p' ag fl ah aj quota V (aS (rs.take M)).1 now ops' (rs.take M) M (aS (rs.take M)).2.1 (bA (seenAt now fs)) il' 1) w (v10:=PT (some ⟨p.tp,0,none⟩)) (v11:=PT (some ⟨p.chp,0,none⟩)) (v12:=PT (some ⟨p.dp,0,none⟩)) (v13:=X Y gen) (v14:=G A0 bl.length c0) k1 an (by decide) (by decide) (by decide) ?_ ?_ ?_
 ·rintro a b ⟨M,ops',p',il',fs,q1,q2,q3,q4,q5,q6⟩ hf
  exact⟨M,ops',p',il',fs,q1,q2,q3,q4,q5,q6.fr hf (by decide)⟩
 ·intro W hW
  have hsl3:D.sure.length≤100000:=by
   have e1:=x3.ld.sure
   have e2:=x3.ld.few
   have e3:=x3.ld.len
   rw[List.length_map] at e2 e3
   rw[e1,nJ (fun e=>by rw[e] at e3;simp at e3)]
   omega
  refine(Du aa p.d p.mn ms B D A n c l W (x1.made hW) x3.ld.chg hsl3 ?_ (hr.below (hW.mono (nT hB an))) hB hnc hn hal).mono ?_
  ·intro q hq
   rw[x3.ld.sure] at hq
   rcases rI hq with e|⟨x,e,-,-⟩
   ·rw[e]
    show (⟨#[109]⟩:ByteArray).size≤4096
    decide
   ·rw[e]
    exact fe (fK x)
  ·rintro e w' ⟨rfl,mq,mc,fs',e1,e2,hcut,hD,hf⟩
   obtain⟨M,la',t,s',y1,y2,y3⟩:=x3.crash hcut
   rw[List.length_map] at y2
   rw[←List.map_take] at y3
   exact⟨rfl,⟨mq,mc,_,M,la',t,s',y1,y2,y3,x4,hD,(Fr.of_below _ _ hW an).trans hf,nT hW.size e1⟩,hf⟩
 ·rintro W ⟨mq,mc,D',M,la',t,s,y1,y2,y3,y4,hD,hf,hq⟩
  obtain⟨g1,g2,g3,g4⟩:=hst M y1 y2
  have au:(rs.take M).length=M:=by rw[List.length_take];omega
  refine(E8 aa p.bp ag fl ah aj quota V p.d p.ss now mq mc s fmn D' (PT (some ⟨p.tp,0,none⟩)) (PT (some ⟨p.chp,0,none⟩)) (PT (some ⟨p.dp,0,none⟩)) (X Y gen) (G A0 bl.length c0) (rs.take M) cs la' t fls W (hf.blk _ _ _ k1 (by decide)) h.lob y3 (fun r hr=>h.sto.ok r (List.mem_of_mem_take hr)) (by omega) hD (by omega) g1 g2 g3 aV g4 h.mayn hsl hfl hi1 hi2).mono ?_
  rintro e w' ⟨rfl,⟨p',il',fs,z1,z2,z3⟩,q2⟩
  rw[au] at z3
  refine⟨rfl,⟨M,_,p',il',fs,y1,y2,Nat.add_le_add_right y4 3,z1,z2,z3⟩,?_,fun g cs hg=>q2.blk _ _ _ hg (by decide)⟩
  have q3:Fr KC [mq] aa w w':=(hf.mono (by decide) (by simp)).trans (q2.mono (by decide) (fun b hb=>hb))
  exact q3.offM (fun b hb=>by simp at hb;subst hb;exact hq)
structure fD (F:List Fl):Prop where
 nd:(F.map Fl.k).Nodup
 ok:∀f∈F,cI f∧f.seen=0∧(f.be=1∨f.be=2)
def ml (bl:List Be):Prop:=0 < bl.length∧(∀b∈bl,b.id=1∨b.id=2)∧∀n:Nat,n=1∨n=2→∃b,b∈bl∧dT bl (n:Int)=(b,true)∧b.id=(n:Int)
theorem zo (F:List Fl):aU (bA F)=F.map Fl.k:=by unfold aU bA;rw[List.map_map];rfl
theorem nW {F:List Fl}(hn:(F.map Fl.k).Nodup){f:Fl}(h:f∈F):av (bA F) f.k=some f:=
 rQ (by rw[zo];exact hn) (List.mem_map.2 ⟨f,h,rfl⟩)
theorem sV {F:List Fl}(hn:(F.map Fl.k).Nodup){f g:Fl}(hf:f∈F)(hg:g∈F)(e:f.k=g.k):f=g:=by
 have h1:=nW hn hf
 have h2:=nW hn hg
 rw[e,h2] at h1
 injection h1 with h1
 exact h1.symm
theorem zk {F:List Fl}(hn:(F.map Fl.k).Nodup){f:Fl}(h:f∈F):aw (bA F) f.k f=bA F:=by
 unfold aw
 have h1:(bA F).any (fun p=>p.1=f.k)=true:=List.any_eq_true.2 ⟨(f.k,f),List.mem_map.2 ⟨f,h,rfl⟩,by simp⟩
 rw[h1,if_pos rfl]
 have h2:∀p∈bA F,(if p.1=f.k then (f.k,f) else p)=p:=fun p hp=>by
  obtain⟨g,hg,rfl⟩:=List.mem_map.1 hp
  dsimp only
  split
  ·rename_i e
   rw[sV hn hg h e]
  ·rfl
 rw[List.map_congr_left h2,List.map_id']
theorem qW {f:Fl}(h:f.seen=0):({f with seen:=0}:Fl)=f:=by cases f;dsimp only at h;rw[h]
theorem xd {F:List Fl}(h:∀f∈F,f.seen=0):seenAt 0 F=F:=by
 unfold seenAt
 rw[List.map_congr_left (fun f hf=>qW (h f hf)),List.map_id']
theorem qk {w:World}{aa:Nat}{p:BP}{ag fl ah aj quota V gen ops n0:Nat}{rs:List aE}{bl:List Be}{F:List Fl}{il:List It}{made:Int}(h:aM w aa p ag fl ah aj quota V gen 0 ops rs n0 bl (bA F) il made)(hF:fD F)(h2:ml bl)(f:Fl)(hf:f∈F)(A:Option Addr)(N c B:Nat)(hr:Reads w B 1 A N (bv (bU f.k 9)))(hB:B≤w.heap.size)(hnc:N≤c):
  Calls Pg 7 #[PT (some ⟨p.bp,0,none⟩),ik (G A N c)] w fun e w'=>(∃A' n' c',e=rT (tU #[aG #[X Y 2,X Y 0,X Y f.be,G A' n' c'],X Y 0]))∧(∃il',aM w' aa p ag fl ah aj quota V gen 0 ops rs n0 bl (bA F) il' made)∧Fr KB p.maps aa w w':=by
 obtain⟨g1,g2,g3⟩:=hF.ok f hf
 obtain⟨b,b1,b2,b3⟩:=h2.2.2 f.be g3
 refine(vv h f.k f 9 g1.k g1.may (by decide) (by decide) A N c B hr hB hnc (nW hF.nd hf) rfl b b1 b2 b3 (by omega) (by decide)).mono ?_
 rintro e w' ⟨q1,⟨l',-,q2⟩,q3⟩
 rw[qW g2,zk hF.nd hf] at q2
 exact⟨q1,⟨l',q2⟩,q3⟩
theorem vy {w:World}{aa:Nat}{p:BP}{ag fl ah aj quota V gen ops n0:Nat}{R:List aE}{bl:List Be}{F:List Fl}{il:List It}{made:Int}(h:aM w aa p ag fl ah aj quota V gen 0 ops (R++F.map fun f=>aE.put (aT V f)) n0 bl (bA F) il made)(hF:fD F)(h2:ml bl)(k:Tu)(hk:bT k)(A:Option Addr)(N c B:Nat)(hr:Reads w B 1 A N (bv (bU k 9)))(hB:B≤w.heap.size)(hnc:N≤c)(au:F.length < fl)(hgen:gen≤1000000)(aP:ops≤600000000000)(hcap:R.length + F.length < 3 * (aj / 43))(hr200:R.length + F.length < 200):
  Calls Pg 7 #[PT (some ⟨p.bp,0,none⟩),ik (G A N c)] w fun e w'=>(∃v,e=rT v)∧(∃F' ops' il',F'.take F.length=F∧F.length≤F'.length∧F'.length≤F.length + 1∧ops'≤ops + 9∧fD F'∧aM w' aa p ag fl ah aj quota V gen 0 ops' (R++F'.map fun f=>aE.put (aT V f)) n0 bl (bA F') il' made)∧Fr KB p.maps aa w w':=by
 have hsame:∀w',(∃il',aM w' aa p ag fl ah aj quota V gen 0 ops (R++F.map fun f=>aE.put (aT V f)) n0 bl (bA F) il' made)→∃F' ops' il',F'.take F.length=F∧F.length≤F'.length∧F'.length≤F.length + 1∧ops'≤ops + 9∧fD F'∧aM w' aa p ag fl ah aj quota V gen 0 ops' (R++F'.map fun f=>aE.put (aT V f)) n0 bl (bA F') il' made:=fun w' ⟨il',q⟩=>⟨F,ops,il',List.take_length,nR _,nS _,by omega,hF,q⟩
 rcases zq k hk with⟨e1,k1,k2⟩|e1
 ·rw[e1] at hr
  by_cases hm:fA k∈F.map Fl.k
  ·obtain⟨f,hf,hfk⟩:=List.mem_map.1 hm
   rw[←hfk] at hr
   refine(qk h hF h2 f hf A N c B hr hB hnc).mono ?_
   rintro e w' ⟨⟨A',n',c',rfl⟩,q2,q3⟩
   exact⟨⟨_,rfl⟩,hsame w' q2,q3⟩
  ·obtain⟨bid,⟨b,b1,b2,b3⟩,hfo,HD⟩:=qh h (fA k) 9 k1 k2 (by decide) (by decide) A N c B hr hB hnc (sU hm) (by unfold bA;rw[List.length_map];exact au) h2.1 hgen (by decide) aP (by rw[List.length_append,List.length_map];exact hcap) (by rw[List.length_append,List.length_map];exact hr200)
   refine HD.mono ?_
   rintro e w' ⟨⟨A',n',c',rfl⟩,⟨l',-,q2⟩,q3⟩
   have hb:bid=1∨bid=2:=by
    have:=h2.2.1 b b1
    omega
   have hsn:aw (bA F) (fA k) ⟨fA k,bid,gen,0⟩=bA (F++[⟨fA k,bid,gen,0⟩]):=oM (f:=⟨fA k,bid,gen,0⟩) hm
   rw[hsn] at q2
   refine⟨⟨_,rfl⟩,⟨F++[⟨fA k,bid,gen,0⟩],ops + 9,l',List.take_left,by simp,by simp,nR _,⟨?_,?_⟩,?_⟩,q3⟩
   ·rw[List.map_append,List.nodup_append]
    refine⟨hF.nd,by simp,fun a ha b hb e=>?_⟩
    simp only[List.map_cons,List.map_nil,List.mem_singleton] at hb
    exact hm (hb▸e▸ha)
   ·intro g hg
    rcases List.mem_append.1 hg with h0|h0
    ·exact hF.ok g h0
    ·rw[List.mem_singleton] at h0
     subst h0
     exact⟨hfo,rfl,hb⟩
   ·rw[List.map_append,←List.append_assoc]
    exact q2
 ·refine(vw h k e1 A N c B hr hB hnc (by decide)).mono ?_
  rintro e w' ⟨q1,q2,q3⟩
  exact⟨q1,hsame w' ⟨il,q2⟩,q3⟩
theorem keys_in (V:Nat)(F:List Fl):(F.map (aT V)).map Fl.k=F.map Fl.k:=by rw[List.map_map];rfl
theorem q7 (V g:Nat)(l:List Be):∀(F E0:List Fl),((E0++F).map Fl.k).Nodup→(F.map fun f=>aE.put (aT V f)).foldl aE.step (g,l,bA (E0.map (aT V)))=(g,l,bA ((E0++F).map (aT V)))
 |[],E0,_=>by simp
 |f::F,E0,h=>by
  have h2:((E0++[f]++F).map Fl.k).Nodup:=by rw[List.append_assoc];exact h
  have hn:(aT V f).k∉(E0.map (aT V)).map Fl.k:=by
   rw[keys_in]
   rw[List.map_append,List.nodup_append] at h
   intro hm
   exact h.2.2 _ hm f.k (by simp) rfl
  have hs:aE.step (g,l,bA (E0.map (aT V))) (aE.put (aT V f))=(g,l,bA ((E0++[f]).map (aT V))):=by
   show (g,l,aw (bA (E0.map (aT V))) (aT V f).k (aT V f))=_
   rw[oM hn,List.map_append]
   rfl
  rw[List.map_cons,List.foldl_cons,hs,q7 V g l F (E0++[f]) h2,List.append_assoc]
  rfl
theorem yd (V g:Nat)(l:List Be)(F:List Fl)(h:(F.map Fl.k).Nodup):aS ([aE.gen g l]++F.map fun f=>aE.put (aT V f))=(g,l,bA (F.map (aT V))):=by
 unfold aS
 rw[List.foldl_append]
 exact q7 V g l F [] h
theorem kG (F:List Fl):(bA F).map (·.2)=F:=by unfold bA;rw[List.map_map];exact List.map_id' F
theorem qv (V g:Nat)(l:List Be)(F:List Fl)(M:Nat)(h:1≤M):([aE.gen g l]++F.map fun f=>aE.put (aT V f)).take M=[aE.gen g l]++(F.take (M - 1)).map fun f=>aE.put (aT V f):=by
 obtain⟨m,rfl⟩:∃m,M=m + 1:=⟨M - 1,by omega⟩
 rw[List.map_take]
 simp
theorem fD.take {F:List Fl}(h:fD F)(V m:Nat):fD ((F.take m).map (aT V)):=by
 refine⟨?_,fun f hf=>?_⟩
 ·rw[keys_in,List.map_take]
  exact h.nd.sublist (List.take_sublist _ _)
 ·obtain⟨g,hg,rfl⟩:=List.mem_map.1 hf
  obtain⟨g1,g2,g3⟩:=h.ok g (List.mem_of_mem_take hg)
  refine⟨ow g1,?_,g3⟩
  show (if V < 3 then 0 else g.seen)=0
  split
  ·rfl
  ·exact g2
theorem fD.perm {F E0:List Fl}(h:fD F)(hp:E0.Perm F):fD E0:=⟨((hp.map Fl.k).nodup_iff).2 h.nd,fun f hf=>h.ok f (hp.mem_iff.1 hf)⟩
theorem vx {w:World}{aa:Nat}{p:BP}{ag fl ah aj quota V gen ops m0 g:Nat}{l bl:List Be}{F:List Fl}{il:List It}{made:Int}(h:aM w aa p ag fl ah aj quota V gen 0 ops ([aE.gen g l]++F.map fun f=>aE.put (aT V f)) (1 + m0) bl (bA F) il made)(hF:fD F)(A:Option Addr)(n c B:Nat)(pk:List Nat)(hr:Reads w B 1 A n (bv pk))(hB:B≤aa)(hnc:n≤c)(hn:n≤140737488355328)(hal:ay pk)
  (hm0:m0≤F.length)(ax:F.length≤fl)(aP:ops≤700000000000)(hl:l.length≤16)(hsl:ag≤1000000)(hfl:fl≤100)(hi1:1≤ah)(hi2:ah≤1099511627776):
  Calls Pg 7 #[PT (some ⟨p.bp,0,none⟩),aG #[X Y 8,G none 0 0,X Y 0,X Y 0,X Y 0,G none 0 0,G A n c]] w fun e w'=>e=rT fW∧(∃m ops' p' il' F',m0≤m∧m≤F.length∧F'.Perm ((F.take m).map (aT V))∧fD F'∧p'.bp=p.bp∧aM w' aa p' ag fl ah aj quota V g 0 ops' ([aE.gen g l]++(F.take m).map fun f=>aE.put (aT V f)) (1 + m) l (bA F') il' 1)∧Fr KC [] aa w w':=by
 have hL:([aE.gen g l]++F.map fun f=>aE.put (aT V f)).length=1 + F.length:=by simp;omega
 have hst:∀M,1 + m0≤M→M≤1 + F.length→aS (([aE.gen g l]++F.map fun f=>aE.put (aT V f)).take M)=(g,l,bA ((F.take (M - 1)).map (aT V))):=fun M h1 h2=>by
  rw[qv V g l F M (by omega),yd V g l _ (by rw[List.map_take];exact hF.nd.sublist (List.take_sublist _ _))]
 refine(qj h A n c B pk hr hB hnc hn hal (by rw[hL];omega) aP (fun M h1 h2=>?_) (by decide) hsl (by omega) hi1 hi2).mono ?_
 ·rw[hL] at h2
  rw[hst M h1 h2]
  have hF':=hF.take V (M - 1)
  dsimp only
  rw[kG]
  refine⟨fun f hf=>(hF'.ok f hf).1,hF'.nd,?_,hl⟩
  unfold bA
  rw[List.length_map,List.length_map,List.length_take]
  omega
 ·rintro e w' ⟨rfl,⟨M,ops',p',il',fs,g1,g2,g3,g4,g5,g6⟩,g7⟩
  rw[hL] at g2
  rw[hst M g1 g2] at g5 g6
  rw[qv V g l F M (by omega)] at g6
  dsimp only at g5 g6
  rw[kG] at g5
  have hF':=(hF.take V (M - 1)).perm g5
  rw[xd (fun f hf=>(hF'.ok f hf).2.1)] at g6
  obtain⟨m,rfl⟩:∃m,M=1 + m:=⟨M - 1,by omega⟩
  rw[Nat.add_sub_cancel_left] at g5 g6
  exact⟨rfl,⟨m,ops',p',il',fs,by omega,by omega,g5,hF',g4,g6⟩,g7⟩
theorem xo (a c:Tu)(W:World):(binOp .eql 39 (.agg a.vals) (.agg c.vals)).run Pg W=.ok (bL (decide (a=c))) W:=by
 obtain⟨a1,a2,a3,a4,a5⟩:=a
 obtain⟨b1,b2,b3,b4,b5⟩:=c
 unfold Tu.vals
 dsimp only
 have e:decide ((⟨a1,a2,a3,a4,a5⟩:Tu)=⟨b1,b2,b3,b4,b5⟩)=(decide ((a1:Int)=b1)&&decide ((a2:Int)=b2)&&decide (a3=b3)&&decide (a4=b4)&&decide (a5=b5)):=by
  rw[Bool.eq_iff_iff]
  simp
  omega
 rw[e]
 by_cases h1:(a1:Int)=b1
 ·by_cases h2:(a2:Int)=b2
  ·by_cases h3:a3=b3
   ·by_cases h4:a4=b4
    ·by_cases h5:a5=b5
     ·simp[go_sem,h1,h2,h3,h4,h5,underlying39]
     ·simp[go_sem,h1,h2,h3,h4,h5,underlying39]
    ·simp[go_sem,h1,h2,h3,h4,underlying39]
   ·simp[go_sem,h1,h2,h3,underlying39]
  ·simp[go_sem,h1,h2,underlying39]
 ·simp[go_sem,h1,underlying39]
def fP (fs:List Fl)(k:Tu):Nat×Bool:=match fs.find? (fun f=>decide (f.k=k)) with
 |some f=>(f.be,true)
 |none=>(0,false)
theorem Ci {fs:List Fl}{k:Tu}{m:Nat}{f:Fl}(h:∀g∈fs.take m,g.k≠k)(hf:fs[m]? =some f)(hk:f.k=k):fP fs k=(f.be,true):=by
 have au:m < fs.length:=(List.getElem?_eq_some_iff.1 hf).1
 have e:fs=fs.take m++f::fs.drop (m + 1):=by
  conv=>lhs;rw[←List.take_append_drop m fs]
  rw[List.drop_eq_getElem_cons au,(List.getElem?_eq_some_iff.1 hf).2]
 have h1:(fs.take m).find? (fun f=>decide (f.k=k))=none:=List.find?_eq_none.2 fun g hg=>by simpa using h g hg
 unfold fP
 rw[e,List.find?_append,h1,Option.none_or,List.find?_cons_of_pos (by simpa using hk)]
theorem Cg {fs:List Fl}{k:Tu}(h:∀g∈fs,g.k≠k):fP fs k=(0,false):=by
 unfold fP
 rw[List.find?_eq_none.2 fun g hg=>by simpa using h g hg]
theorem sZ (A:Option Addr)(c B:Nat)(fs:List Fl)(c1 c2:Nat)(c3 c4 c5:Int)(w:World)(ho:w.ownsRow B 47 8 (G A fs.length c) fs.length (bE fs))(hB:B≤w.heap.size)(hn:fs.length≤1000000):
  Calls Pg 10 #[G A fs.length c,aG #[X Z c1,X Z c2,X Y c3,X Y c4,X Y c5]] w fun e w'=>e=rT (tU #[X Y ((fP fs (⟨c1,c2,c3,c4,c5⟩:Tu)).1),bL (fP fs (⟨c1,c2,c3,c4,c5⟩:Tu)).2])∧Below w.heap.size w w':=by
 have hx:=ab.new w 39 #[X Z c1,X Z c2,X Y c3,X Y c4,X Y c5]
 have hb:=(bR w.heap.size w).alloc (nR _) (cL #[X Z c1,X Z c2,X Y c3,X Y c4,X Y c5] 39)
 have au:=hx.lt
 obtain⟨q,hq⟩:∃q,q=w.heap.size:=⟨_,rfl⟩
 rw[←hq] at hx au
 have hle:w.heap.size≤(w.alloc (cL #[X Z c1,X Z c2,X Y c3,X Y c4,X Y c5] 39)).heap.size:=hb.size
 have HX:=jH (aI hx (aI hb (aI (aJ ho hb) (aI au hle))))
 clear hx hb ho au hle
 go_enter func10,ntmps10
 go_wp2_with fail
 rw[←hq]
 clear hq
 generalize (w.alloc (cL #[X Z c1,X Z c2,X Y c3,X Y c4,X Y c5] 39))=w1 at *
 go_loopg [10] fs.length (fun gk i wr=>∃(m:Nat),i=X Y m∧Hid (m + gk=fs.length)∧Hid (Below w1.heap.size w1 wr∧∀g∈fs.take m,g.k≠(⟨c1,c2,c3,c4,c5⟩:Tu)))
 case atStart=>exact⟨0,rfl,(by show _=_;omega),bR _ _,fun g hg=>by simp at hg⟩
 case round=>
  obtain⟨m,rfl,hgk,hbr⟩:=hrel
  by_cases au:m < fs.length
  ·obtain⟨f,hfj⟩:∃f,fs[m]? =some f:=⟨_,List.getElem?_eq_getElem au⟩
   obtain⟨b4,hA4,hc4⟩:=lF (f:=f) (j:=m) (aJ HX.out.2.2.1 hbr.out.1) hfj
   subst hA4
   have r0:=hc4 0 _ rfl
   have r1:=hc4 1 _ rfl
   have r2:=hc4 2 _ rfl
   have r3:=hc4 3 _ rfl
   have r4:=hc4 4 _ rfl
   have r5:=hc4 5 _ rfl
   have r6:=hc4 6 _ rfl
   have r7:=hc4 7 _ rfl
   simp only[Nat.add_zero] at r0
   have hq:=xo f.k (⟨c1,c2,c3,c4,c5⟩:Tu)
   have hbq:=((HX.out.1.below hbr.out.1 HX.out.2.2.2.1).alloc (cL #[X Z f.k.src,X Z f.k.dst,X Y f.k.proto,X Y f.k.sport,X Y f.k.dport,X Y f.be,X Y f.gen,X Y f.seen] 47))
   obtain⟨y0,y1,y2,y3,y4⟩:=hbq.c5
   unfold Tu.vals at hq
   dsimp only at hq
   have HB2:=jH (hbr.out.1.alloc hbr.out.1.size (cL #[X Z f.k.src,X Z f.k.dst,X Y f.k.proto,X Y f.k.sport,X Y f.k.dport,X Y f.be,X Y f.gen,X Y f.seen] 47))
   have HJ:=jH hfj
   clear hc4 hfj hbq
   by_cases hfk:f.k=(⟨c1,c2,c3,c4,c5⟩:Tu)
   ·rw[decide_eq_true hfk] at hq
    have HF:=jH (Ci hbr.out.2 HJ.out hfk)
    have HK:=jH hfk
    clear hfk
    go_wp2_with fail
    go_ret2
    rw[HF.out]
    exact⟨rfl,HX.out.2.1.trans (HB2.out.mono HX.out.2.2.2.2)⟩
   ·rw[decide_eq_false hfk] at hq
    have HF:Hid (∀g∈fs.take (m + 1),g.k≠(⟨c1,c2,c3,c4,c5⟩:Tu)):=by
     intro g hg
     rw[List.take_add_one,HJ.out] at hg
     rcases List.mem_append.1 hg with h|h
     ·exact hbr.out.2 g h
     ·simp at h;subst h;exact hfk
    have HK:=jH hfk
    clear hfk
    go_wp2_with fail
    go_roundg (gk - 1)
    case measure=>have h1:=hgk.out;omega
    case rel=>exact⟨m + 1,by go_num,(by show _=_;have:=hgk.out;omega),HB2.out,HF.out⟩
  ·have hm:m=fs.length:=by have:=hgk.out;omega
   have HF:Hid (fP fs (⟨c1,c2,c3,c4,c5⟩:Tu)=(0,false)):=Cg (by have:=hbr.out.2;rw[hm,List.take_length] at this;exact this)
   have HB2:=jH hbr.out.1
   subst hm
   have hdL:decide (((fs.length:Nat):Int) < (fs.length:Int))=false:=decide_eq_false (by omega)
   clear hbr
   go_wp2_with fail
   go_ret2
   rw[HF.out]
   exact⟨rfl,HX.out.2.1.trans (HB2.out.mono HX.out.2.2.2.2)⟩
def cN:List Be:=[⟨1,1,1⟩,⟨2,2,3⟩]
theorem EL:dD cN:=fun b hb=>by
 simp only[cN,List.mem_cons,List.not_mem_nil,or_false] at hb
 rcases hb with rfl|rfl<;>simp
theorem EM:dz cN.length cN:=by
 refine⟨by decide,fun j hj=>?_⟩
 have:j=0∨j=1:=by simp[cN] at hj;omega
 rcases this with rfl|rfl<;>simp[dy,cN]
theorem u6:ml cN:=by
 refine⟨by decide,fun b hb=>?_,fun n hn=>?_⟩
 ·simp only[cN,List.mem_cons,List.not_mem_nil,or_false] at hb
  rcases hb with rfl|rfl
  ·exact .inl rfl
  ·exact .inr rfl
 ·rcases hn with rfl|rfl
  ·exact⟨⟨1,1,1⟩,by simp[cN],rfl,rfl⟩
  ·exact⟨⟨2,2,3⟩,by simp[cN],rfl,rfl⟩
theorem uY (V:Nat)(h1:1≤V)(h3:V≤3):ml (cN.map (aX V)):=by
 obtain rfl|rfl|rfl:V=1∨V=2∨V=3:=by omega
 all_goals
  refine⟨by decide,fun b hb=>?_,fun n hn=>?_⟩
  ·simp only[cN,List.map_cons,List.map_nil,List.mem_cons,List.not_mem_nil,or_false] at hb
   rcases hb with rfl|rfl
   ·exact .inl rfl
   ·exact .inr rfl
  ·rcases hn with rfl|rfl
   ·exact⟨_,List.mem_cons_self,rfl,rfl⟩
   ·exact⟨_,List.mem_cons_of_mem _ List.mem_cons_self,rfl,rfl⟩
theorem td {fs:List Fl}(hn:(fs.map Fl.k).Nodup){f:Fl}(h:f∈fs):fP fs f.k=(f.be,true):=by
 unfold fP
 have h1:fs.find? (fun g=>decide (g.k=f.k))=some f:=by
  cases hf:fs.find? (fun g=>decide (g.k=f.k)) with
  |none=>exact absurd (by simp) (List.find?_eq_none.1 hf f h)
  |some g=>
   have hg:=List.mem_of_find?_eq_some hf
   have hk:g.k=f.k:=by simpa using List.find?_some hf
   rw[sV hn hg h hk]
 rw[h1]
theorem Dx {F1 F2 fs1 fs3 F':List Fl}{V m:Nat}(h2:F2.take F1.length=F1)(hm:F1.length≤m)(p1:fs1.Perm F1)(hp:F'.Perm ((F2.take m).map (aT V)))(p3:fs3.Perm F')(hn:(F'.map Fl.k).Nodup)(f:Fl)(hf:f∈fs1):fP fs3 f.k=(f.be,true):=by
 have e1:f∈F2.take F1.length:=by rw[h2];exact p1.mem_iff.1 hf
 have e2:f∈F2.take m:=(List.take_subset_take_left F2 hm) e1
 have e3:aT V f∈fs3:=p3.mem_iff.2 (hp.mem_iff.2 (List.mem_map.2 ⟨f,e2,rfl⟩))
 exact td (f:=aT V f) (((p3.map Fl.k).nodup_iff).2 hn) e3
theorem Dv {F2 fs2 fs3 F':List Fl}{V m:Nat}(p2:fs2.Perm F2)(hn2:(F2.map Fl.k).Nodup)(hp:F'.Perm ((F2.take m).map (aT V)))(p3:fs3.Perm F')(f:Fl)(hf:f∈fs3):fP fs2 f.k=(f.be,true):=by
 obtain⟨g,hg,rfl⟩:=List.mem_map.1 (hp.mem_iff.1 (p3.mem_iff.1 hf))
 exact td (f:=g) (((p2.map Fl.k).nodup_iff).2 hn2) (p2.mem_iff.2 (List.mem_of_mem_take hg))
def fw (w wr:World)(aa:Nat)(p:BP)(z:Int)(V n0:Nat)(F:List Fl)(ob:Nat):Prop:=
 fD F∧(∃ops il,ops≤ob∧aM wr aa p (eN z) 19 51 316 32000 V 1 0 ops ([aE.gen 1 (cN.map (aX V))]++F.map fun f=>aE.put (aT V f)) n0 cN (bA F) il 2)∧Below w.heap.size w wr∧w.heap.size≤aa
theorem fw.made {w wr w':World}{aa:Nat}{p:BP}{z:Int}{V n0:Nat}{F:List Fl}{ob:Nat}(h:fw w wr aa p z V n0 F ob)(hb:Below wr.heap.size wr w'):fw w w' aa p z V n0 F ob:=by
 obtain⟨h1,⟨ops,il,h2,h3⟩,h4,h5⟩:=h
 exact⟨h1,⟨ops,il,h2,h3.made hb⟩,h4.trans (hb.mono h4.size),h5⟩
theorem fw.hi {w wr:World}{aa:Nat}{p:BP}{z:Int}{V n0:Nat}{F:List Fl}{ob:Nat}(h:fw w wr aa p z V n0 F ob):aa≤wr.heap.size:=by
 obtain⟨h1,⟨ops,il,h2,h3⟩,h4,h5⟩:=h
 exact h3.hi
theorem tE {w wr:World}{aa:Nat}{p:BP}{z:Int}{V n0:Nat}{F:List Fl}{ob:Nat}(h:fw w wr aa p z V n0 F ob)(k:Tu)(hk:bT k)(A:Option Addr)(N c:Nat)(ho:Reads wr wr.heap.size 1 A N (bv (bU k 9)))(hnc:N≤c)(au:F.length < 17)(hob:ob≤10000):
  Calls Pg 7 #[PT (some ⟨p.bp,0,none⟩),ik (G A N c)] wr fun e w'=>(∃v,e=rT v)∧(∃F',F'.take F.length=F∧F.length≤F'.length∧F'.length≤F.length + 1∧fw w w' aa p z V n0 F' (ob + 9))∧Fr KB p.maps aa wr w':=by
 obtain⟨h1,⟨ops,il,h2,h3⟩,h4,h5⟩:=h
 refine(vy h3 h1 u6 k hk A N c wr.heap.size ho (nR _) hnc (by omega) (by decide) (by omega) (by show 1 + F.length < 21;omega) (by show 1 + F.length < 200;omega)).mono ?_
 rintro e w' ⟨q1,⟨F',ops',il',g1,g2,g3,g4,g5,g6⟩,q3⟩
 exact⟨q1,⟨F',g1,g2,g3,g5,⟨ops',il',by omega,g6⟩,h4.trans (q3.below.mono h5),h5⟩,q3⟩
theorem Dw {w wr:World}{aa:Nat}{p:BP}{z:Int}{V n0:Nat}{F:List Fl}{ob:Nat}(h:fw w wr aa p z V n0 F ob)(au:F.length≤17)(hob:ob≤10000):
  Calls Pg 7 #[PT (some ⟨p.bp,0,none⟩),aG #[X Y 6,G none 0 0,X Y 0,X Y 0,X Y 0,G none 0 0,G none 0 0]] wr fun e w'=>e=rT fW∧fw w w' aa p z V (1 + F.length) F (ob + 1)∧Fr iU p.maps aa wr w':=by
 obtain⟨h1,⟨ops,il,h2,h3⟩,h4,h5⟩:=h
 have hL:([aE.gen 1 (cN.map (aX V))]++F.map fun f=>aE.put (aT V f)).length=1 + F.length:=by simp;omega
 refine(qg h3 (by omega) (by have:=jy ([aE.gen 1 (cN.map (aX V))]++F.map fun f=>aE.put (aT V f));rw[hL] at this;omega)).mono ?_
 rintro e w' ⟨rfl,q2,q3⟩
 rw[hL] at q2
 exact⟨rfl,⟨h1,⟨ops + 1,il,by omega,q2⟩,h4.trans (q3.below.mono h5),h5⟩,q3⟩
end
section
open Go.ChangeShapes Go.WideShapes Go.ChangeAt Go.RowKit Go.Deep
def Tu.cells (k:Tu):List Value:=[X Z k.src,X Z k.dst,X Y k.proto,X Y k.sport,X Y k.dport]
def fG (l:List Tu):List Value:=l.flatMap Tu.cells
theorem mT (l:List Tu):(fG l).length=l.length * 5:=by
 induction l with
 |nil=>rfl
 |cons b r ih=>simp[fG,Tu.cells] at *;omega
theorem mU:∀(l:List Tu) (j:Nat) (h:j < l.length),(fG l)[j * 5]? =some (X Z (l[j].src))∧(fG l)[j * 5 + 1]? =some (X Z (l[j].dst))∧(fG l)[j * 5 + 2]? =some (X Y l[j].proto)∧(fG l)[j * 5 + 3]? =some (X Y l[j].sport)∧(fG l)[j * 5 + 4]? =some (X Y l[j].dport)
 |[],_,h=>by simp at h
 |b::r,0,_=>⟨rfl,rfl,rfl,rfl,rfl⟩
 |b::r,j + 1,h=>by
  have ih:=mU r j (by simpa using h)
  have e:∀k,(fG (b::r))[(j + 1) * 5 + k]? =(fG r)[j * 5 + k]?:=by
   intro k
   rw[show (j + 1) * 5 + k=j * 5 + k + 1 + 1 + 1 + 1 + 1 from by omega]
   rfl
  have e0:=e 0
  simp only[Nat.add_zero] at e0
  rw[e0,e 1,e 2,e 3,e 4]
  exact ih
theorem Reads.tu_length {w:World}{B:Nat}{A:Option Addr}{n:Nat}{l:List Tu}(h:Reads w B 5 A n (fG l)):l.length=n:=by have:=h.1;rw[mT] at this;omega
theorem Reads.tu {w:World}{B:Nat}{A:Option Addr}{n:Nat}{l:List Tu}(h:Reads w B 5 A n (fG l)){j:Nat}(hj:j < n):
  ∃(b off:Nat) (hl:j < l.length),A=some ⟨b,off,none⟩∧w.cell? ⟨b,off + j * 5,none⟩=some (X Z (l[j].src))∧w.cell? ⟨b,off + j * 5 + 1,none⟩=some (X Z (l[j].dst))∧w.cell? ⟨b,off + j * 5 + 2,none⟩=some (X Y l[j].proto)∧w.cell? ⟨b,off + j * 5 + 3,none⟩=some (X Y l[j].sport)∧w.cell? ⟨b,off + j * 5 + 4,none⟩=some (X Y l[j].dport):=by
 obtain⟨b,off,ha,_,hc⟩:=h.plain (by omega) (by omega)
 have hl:j < l.length:=by have:=h.tu_length;omega
 obtain⟨h0,h1,h2,h3,h4⟩:=mU l j hl
 exact⟨b,off,hl,ha,hc _ _ h0,hc _ _ h1,hc _ _ h2,hc _ _ h3,hc _ _ h4⟩
structure kQ (w:World)(a:Option Addr)(n c:Nat)(l:List Tu):Prop where
 ok:∀k∈l,bT k
 le:n≤c
 reach:c * 32≤140737488351232
 reads:Reads w w.heap.size 5 a n (fG l)
theorem u7 {l:List Tu}{w:World}{a:Addr}(h:∀i (hi:i < l.length),w.cell? (a.add (i * 5 + 0))=some (X Z (l[i].src))∧w.cell? (a.add (i * 5 + 1))=some (X Z (l[i].dst))∧w.cell? (a.add (i * 5 + 2))=some (X Y l[i].proto)∧w.cell? (a.add (i * 5 + 3))=some (X Y l[i].sport)∧w.cell? (a.add (i * 5 + 4))=some (X Y l[i].dport)):
  ∀j u,(fG l)[j]? =some u→w.cell? (a.add j)=some u:=by
 intro j u hu
 have hj:j < l.length * 5:=by
  have:=(List.getElem?_eq_some_iff.1 hu).1
  rwa [mT] at this
 have hq:j / 5 < l.length:=by omega
 obtain⟨h0,h1,h2,h3,h4⟩:=h _ hq
 obtain⟨g0,g1,g2,g3,g4⟩:=mU l _ hq
 have:j=j / 5 * 5 + 0∨j=j / 5 * 5 + 1∨j=j / 5 * 5 + 2∨j=j / 5 * 5 + 3∨j=j / 5 * 5 + 4:=by omega
 rcases this with e|e|e|e|e
 ·rw[e] at hu⊢
  rw[Nat.add_zero,g0] at hu
  rw[h0];exact hu
 ·rw[e] at hu⊢
  rw[g1] at hu
  rw[h1];exact hu
 ·rw[e] at hu⊢
  rw[g2] at hu
  rw[h2];exact hu
 ·rw[e] at hu⊢
  rw[g3] at hu
  rw[h3];exact hu
 ·rw[e] at hu⊢
  rw[g4] at hu
  rw[h4];exact hu
theorem rF {H:Type}{enc:TypeId×Value→H}{W:World}{d:DataW H}{ps:List MemPlace}{a:Option Addr}{n c j:Nat}{ts:List TypeId}{ds:List (DataW H)}
  (hz:(DataW.weightsEach Pg ts ds).all (·≤reachBytes)=true)(ht:ts[j]? =some 22)(hd:ds[j]? =some d)
  (h:DataW.Trod enc Pg W 0 (fun _=>true) true 22 (G a n c) d ps):∃l:List Tu,kQ W a n c l:=by
 have U:=underlying22
 obtain⟨fuel,hf⟩:=h
 rcases yI U underlying39 (by kernel_rfl) (by kernel_rfl) hf with⟨hcs,_⟩|⟨x,l,c',m,D,Pl,hcs,_,hl,hm,hml,hx,hcell⟩
 ·simp[Value.cells] at hcs
  obtain⟨rfl,rfl,rfl⟩:=hcs
  exact⟨[],(by intro x hx;cases hx),nR _,by decide,Reads.none_⟩
 ·simp[Value.cells] at hcs
  obtain⟨rfl,rfl,rfl⟩:=hcs
  simp only[if_true] at hml
  have hml2:=hml.symm
  subst hml2
  have hreach:c * 32≤reachBytes:=by
   simp only[Prod.mk.injEq] at hx
   obtain⟨rfl,_⟩:=hx
   have:=sized_slice hz ht hd U
   rw[show Pg.bytesOf 39=32 from by kernel_rfl] at this
   simp at this
   have:n + (c - n)=c:=by omega
   rename_i h2
   rw[this] at h2
   omega
  have hone:∀i,i < c→∃k:Tu,bT k∧
    W.cell? (x.add (i * 5 + 0))=some (X Z k.src)∧W.cell? (x.add (i * 5 + 1))=some (X Z k.dst)∧W.cell? (x.add (i * 5 + 2))=some (X Y k.proto)∧W.cell? (x.add (i * 5 + 3))=some (X Y k.sport)∧W.cell? (x.add (i * 5 + 4))=some (X Y k.dport):=by
   intro i hi
   obtain⟨ys,n',_,_,_,hg⟩:=hcell i hi
   obtain⟨v0,y0,h0,_,t0⟩:=hg 0 _ rfl
   obtain⟨v1,y1,h1,_,t1⟩:=hg 1 _ rfl
   obtain⟨v2,y2,h2,_,t2⟩:=hg 2 _ rfl
   obtain⟨v3,y3,h3,_,t3⟩:=hg 3 _ rfl
   obtain⟨v4,y4,h4,_,t4⟩:=hg 4 _ rfl
   obtain⟨z0,e0,_,w0⟩:=DataW.trod_int underlying32 t0
   obtain⟨z1,e1,_,w1⟩:=DataW.trod_int underlying32 t1
   obtain⟨z2,e2,_,w2⟩:=DataW.trod_int underlying3 t2
   obtain⟨z3,e3,_,w3⟩:=DataW.trod_int underlying3 t3
   obtain⟨z4,e4,_,w4⟩:=DataW.trod_int underlying3 t4
   simp only[List.cons.injEq,and_true] at e0 e1 e2 e3 e4
   subst e0 e1 e2 e3 e4
   obtain⟨q0,rfl,u0⟩:=rL w0
   obtain⟨q1,rfl,u1⟩:=rL w1
   exact⟨⟨q0,q1,z2,z3,z4⟩,⟨u0,u1,wf_i64 w2,wf_i64 w3,wf_i64 w4⟩,h0,h1,h2,h3,h4⟩
  have hch:∃F:Nat→Tu,∀i,i < c→bT (F i)∧
    W.cell? (x.add (i * 5 + 0))=some (X Z ((F i).src))∧W.cell? (x.add (i * 5 + 1))=some (X Z ((F i).dst))∧W.cell? (x.add (i * 5 + 2))=some (X Y (F i).proto)∧W.cell? (x.add (i * 5 + 3))=some (X Y (F i).sport)∧W.cell? (x.add (i * 5 + 4))=some (X Y (F i).dport):=
   ⟨fun i=>if hi:i < c then (hone i hi).choose else ⟨0,0,0,0,0⟩,fun i hi=>by simp only[dif_pos hi];exact(hone i hi).choose_spec⟩
  obtain⟨F,hF⟩:=hch
  refine⟨(List.range n).map F,?_,hl,hreach,⟨by rw[mT];simp,fun hn=>⟨x,rfl,?_,u7 ?_⟩⟩⟩
  ·intro b hb
   obtain⟨i,hi,rfl⟩:=List.mem_map.1 hb
   exact(hF i (by have:=List.mem_range.1 hi;omega)).1
  ·have:=(hF 0 (by omega)).2.1
   rw[Nat.zero_mul,Addr.add_zero'] at this
   exact World.block_lt_of_cell? W x this
  ·intro i hi
   have hi':i < n:=by simpa using hi
   simp only[List.getElem_map,List.getElem_range]
   exact(hF i (by omega)).2
end
section
open Go.RowKit Go.Maps
theorem Dt (z v:Int)(A1:Option Addr)(n1 c1:Nat)(ta:List Tu)(A2:Option Addr)(n2 c2:Nat)(tb:List Tu)(A3:Option Addr)(n3 c3:Nat)(pk:List Nat)(w:World)(h1:8 < n1)(HA:∀W,Below w.heap.size w W→Calls Pg 5 #[] W fun e w'=>e=rT (bL true)∧Below W.heap.size W w'):
  Calls Pg 3 #[X Y z,X Y v,G A1 n1 c1,G A2 n2 c2,G A3 n3 c3] w fun e w'=>e=rT (bL true)∧Below w.heap.size w w':=by
 have d1:decide ((8:Int) < (n1:Int))=true:=decide_eq_true (by omega)
 have C:=jH (HA w (bR _ _))
 clear HA
 go_enter func3,ntmps3
 go_wp2_with fail
 refine C.out.mono ?_
 rintro e w1 ⟨rfl,hb⟩
 have HB:=jH hb
 clear hb C
 go_wp2_with fail
 go_ret
 exact⟨rfl,HB.out⟩
theorem Ds (z v:Int)(A1:Option Addr)(n1 c1:Nat)(ta:List Tu)(A2:Option Addr)(n2 c2:Nat)(tb:List Tu)(A3:Option Addr)(n3 c3:Nat)(pk:List Nat)(w:World)(h1:n1≤8)(h2:8 < n2)(HA:∀W,Below w.heap.size w W→Calls Pg 5 #[] W fun e w'=>e=rT (bL true)∧Below W.heap.size W w'):
  Calls Pg 3 #[X Y z,X Y v,G A1 n1 c1,G A2 n2 c2,G A3 n3 c3] w fun e w'=>e=rT (bL true)∧Below w.heap.size w w':=by
 have d1:decide ((8:Int) < (n1:Int))=false:=decide_eq_false (by omega)
 have d2:decide ((8:Int) < (n2:Int))=true:=decide_eq_true (by omega)
 have C:=jH (HA w (bR _ _))
 clear HA
 go_enter func3,ntmps3
 go_wp2_with fail
 refine C.out.mono ?_
 rintro e w1 ⟨rfl,hb⟩
 have HB:=jH hb
 clear hb C
 go_wp2_with fail
 go_ret
 exact⟨rfl,HB.out⟩
theorem Dq (z v:Int)(A1:Option Addr)(n1 c1:Nat)(ta:List Tu)(A2:Option Addr)(n2 c2:Nat)(tb:List Tu)(A3:Option Addr)(n3 c3:Nat)(pk:List Nat)(w:World)(ha:kQ w A1 n1 c1 ta)(hb:kQ w A2 n2 c2 tb)(hp:pC w A3 n3 c3 pk)(h1:n1≤8)(h2:n2≤8)(HA:∀W,Below w.heap.size w W→Calls Pg 5 #[] W fun e w'=>e=rT (bL true)∧Below W.heap.size W w'):
  Calls Pg 3 #[X Y z,X Y v,G A1 n1 c1,G A2 n2 c2,G A3 n3 c3] w fun e w'=>e=rT (bL true)∧Below w.heap.size w w':=by
 have d1:decide ((8:Int) < (n1:Int))=false:=decide_eq_false (by omega)
 have d2:decide ((8:Int) < (n2:Int))=false:=decide_eq_false (by omega)
 have HT:=jH (aI ha (aI hb (aI hp HA)))
 clear ha hb hp HA
 go_enter func3,ntmps3
 go_wp2_with fail
 refine(zG z v w).mono ?_
 rintro e w1 ⟨⟨aa,p,il0,rfl,an,hbal⟩,ae⟩
 have HV:=jH (mC v)
 generalize gw v=V at *
 have h6:=hbal.made ((bR w1.heap.size w1).alloc (nR _) (cL #[X Y 1,X Z 1,X Y 1,X Y 2,X Z 2,X Y 3] 34))
 have r6:Reads (w1.alloc (cL #[X Y 1,X Z 1,X Y 1,X Y 2,X Z 2,X Y 3] 34)) (w1.heap.size + 1) 3 (some ⟨w1.heap.size,0,none⟩) 2 (aC cN):=eo _ _ _ _ 2 3 _ _ (by rfl) rfl rfl _ (by rfl)
 have CG:=jH (qi h6 (some ⟨w1.heap.size,0,none⟩) 2 2 cN (by omega) EL EM (by omega) (by decide) (by omega) (by decide) (fun W hW=>Bs (some ⟨w1.heap.size,0,none⟩) 2 (w1.heap.size + 1) ⟨1,1,1⟩ ⟨2,2,3⟩ (by decide) W (r6.below (hW.mono (by simp))) (nT (by simp) hW.size) (by omega) (fun e=>by cases e)))
 have H6:Hid (Below w.heap.size w (w1.alloc (cL #[X Y 1,X Z 1,X Y 1,X Y 2,X Z 2,X Y 3] 34))∧w.heap.size≤aa):=⟨ae.alloc ae.size _,an⟩
 clear hbal ae an h6 r6
 go_wp2_with fail
 refine CG.out.mono ?_
 rintro e w2 ⟨rfl,hbal,hf⟩
 have HL:Hid (fw w (w2.alloc (cL #[X Y 0,X Y 0,X Y 0,G none 0 0] 28)) aa p z V 0 [] 100):=by
  have hbO:Below w2.heap.size w2 (w2.alloc (cL #[X Y 0,X Y 0,X Y 0,G none 0 0] 28)):=(bR _ _).alloc (nR _) _
  have hlow:=H6.out.1.trans (hf.below.mono H6.out.2)
  exact⟨⟨by simp,fun f hf=>by simp at hf⟩,⟨6 + 9,il0,by omega,hbal.made hbO⟩,hlow.alloc hlow.size _,H6.out.2⟩
 clear hbal hf CG H6
 unfold fW
 go_wp2_with fail
 generalize (w2.alloc (cL #[X Y 0,X Y 0,X Y 0,G none 0 0] 28))=w3 at *
 go_loopg [63] n1 (fun gk i wr=>∃(j:Nat) (F:List Fl),i=X Y j∧Hid (j + gk=n1)∧Hid (fw w wr aa p z V 0 F (100 + 9 * j)∧F.length≤j))
 case atStart=>exact⟨0,[],rfl,(by show _=_;omega),HL.out,nR _⟩
 case round=>
  clear HL
  obtain⟨j,F,rfl,hgk,hI⟩:=hrel
  by_cases au:j < n1
  ·obtain⟨b4,off,hl,hAe,t0,t1,t2,t3,t4⟩:=(HT.out.1.reads.below hI.out.1.2.2.1).tu au
   have hkk:=HT.out.1.ok _ (List.getElem_mem hl)
   subst hAe
   obtain⟨k,hk⟩:∃k,k=ta[j]:=⟨_,rfl⟩
   rw[←hk] at t0 t1 t2 t3 t4 hkk
   clear hk
   obtain⟨s1,s2,s3,s4,s5⟩:=k
   dsimp only at t0 t1 t2 t3 t4
   have hbT:Below wr.heap.size wr (wr.alloc (cL #[X Z s1,X Z s2,X Y s3,X Y s4,X Y s5] 39)):=(bR _ _).alloc (nR _) _
   have HK:=jH hkk
   have HI:=jH (aI (hI.out.1.made hbT) hI.out.2)
   clear hI hbT hkk
   go_wp2_with fail
   generalize (wr.alloc (cL #[X Z s1,X Z s2,X Y s3,X Y s4,X Y s5] 39))=w6 at *
   refine(mX (⟨s1,s2,s3,s4,s5⟩:Tu) HK.out w6).mono ?_
   rintro e w7 ⟨A7,N7,c7,rfl,hN7,cT,hb7⟩
   have C7:=jH (tE (HI.out.1.made hb7) (⟨s1,s2,s3,s4,s5⟩:Tu) HK.out A7 N7 c7 (Reads.of_own cT) (dN cT).1 (by have:=HI.out.2;have:=hgk.out;omega) (by have:=hgk.out;omega))
   have H7:=jH (aI HI.out.2 trivial)
   clear hN7 cT hb7 HI t0 t1 t2 t3 t4
   go_wp2_with fail
   refine C7.out.mono ?_
   rintro e w8 ⟨⟨v8,rfl⟩,⟨F',q1,q2,q3,hI8⟩,hf⟩
   have HF:=jH (aI hI8 (show F'.length≤j + 1 by have:=H7.out.1;omega))
   clear q1 q2 q3 hI8 hf H7 C7
   go_wp2_with fail
   go_roundg (gk - 1)
   case measure=>have h1:=hgk.out;omega
   case rel=>exact⟨j + 1,F',by go_num,(by show _=_;have:=hgk.out;omega),(by have:=HF.out;exact⟨by have h:=this.1;rw[show 100 + 9 * (j + 1)=100 + 9 * j + 9 by omega];exact h,this.2⟩)⟩
  ·have hj:j=n1:=by have:=hgk.out;omega
   have hdL:decide ((j:Int) < (n1:Int))=false:=decide_eq_false (by omega)
   have HI:=jH (aI hI.out.1 (show F.length≤8 by have:=hI.out.2;omega))
   have hob:100 + 9 * j≤200:=by omega
   have CS:=jH (Dw HI.out.1 (by have:=HI.out.2;omega) (by omega))
   clear hI hj
   go_wp2_with fail
   refine CS.out.mono ?_
   rintro e w4 ⟨rfl,hI4,hf4⟩
   have H4:Hid (fw w (w4.alloc (cL #[X Y 0,X Y 0,X Y 0,G none 0 0] 28)) aa p z V (1 + F.length) F 300∧F.length≤8):=by
    have hbO:Below w4.heap.size w4 (w4.alloc (cL #[X Y 0,X Y 0,X Y 0,G none 0 0] 28)):=(bR _ _).alloc (nR _) _
    obtain⟨q1,⟨ops,il,q2,q3⟩,q4,q5⟩:=hI4.made hbO
    exact⟨⟨q1,⟨ops,il,by omega,q3⟩,q4,q5⟩,HI.out.2⟩
   clear hI4 hf4 CS HI hob
   unfold fW
   go_wp2_with fail
   generalize (w4.alloc (cL #[X Y 0,X Y 0,X Y 0,G none 0 0] 28))=w5 at *
   have hfd:∀(v0 v1 v2 v3:Value) W,(Instr.field 44 (aG #[v0,v1,v2,v3]) 3).run Pg W=.ok v3 W:=fun v0 v1 v2 v3 W=>by kernel_rfl
   obtain⟨o5,i5,-,aK⟩:=H4.out.1.2.1
   have CS:=jH (kP aK)
   clear aK
   refine CS.out.mono ?_
   rintro e w6 ⟨A5,c5,v5,fs1,rfl,-,cK,hown,hb6⟩
   obtain⟨A4,n4,rfl⟩:=cV hown
   rw[kG] at cK
   have H6:Hid (fw w w6 aa p z V (1 + F.length) F 300∧F.length≤8∧fs1.Perm F∧w6.ownsRow aa 47 8 (G A4 fs1.length n4) fs1.length (bE fs1)):=⟨H4.out.1.made hb6,H4.out.2,cK,cO hown H4.out.1.hi⟩
   obtain⟨F1,hF1⟩:∃F1,F1=F:=⟨_,rfl⟩
   rw[←hF1] at H6
   clear cK hown hb6 CS H4 hF1
   go_wp2_with fail
   obtain⟨g9,hg9⟩:∃g9,g9=gk:=⟨_,rfl⟩
   have HG9:=jH hg9
   clear hg9
   go_loopg [85] n2 (fun gk i wr=>∃(j:Nat) (F:List Fl),i=X Y j∧Hid (j + gk=n2)∧Hid (fw w wr aa p z V (1 + F1.length) F (300 + 9 * j)∧F.take F1.length=F1∧F1.length≤F.length∧F.length≤F1.length + j∧wr.ownsRow aa 47 8 (G A4 fs1.length n4) fs1.length (bE fs1)))
   case atStart=>exact⟨0,F1,rfl,(by show _=_;omega),H6.out.1,List.take_length,nR _,nR _,H6.out.2.2.2⟩
   case round=>
    have HS:Hid (F1.length≤8∧fs1.Perm F1):=⟨H6.out.2.1,H6.out.2.2.1⟩
    clear H6
    obtain⟨j,F,rfl,hgk,hI⟩:=hrel
    by_cases au:j < n2
    ·obtain⟨b4,off,hl,hAe,t0,t1,t2,t3,t4⟩:=(HT.out.2.1.reads.below hI.out.1.2.2.1).tu au
     have hkk:=HT.out.2.1.ok _ (List.getElem_mem hl)
     subst hAe
     obtain⟨k,hk⟩:∃k,k=tb[j]:=⟨_,rfl⟩
     rw[←hk] at t0 t1 t2 t3 t4 hkk
     clear hk
     obtain⟨s1,s2,s3,s4,s5⟩:=k
     dsimp only at t0 t1 t2 t3 t4
     have hbT:Below wr.heap.size wr (wr.alloc (cL #[X Z s1,X Z s2,X Y s3,X Y s4,X Y s5] 39)):=(bR _ _).alloc (nR _) _
     have HK:=jH hkk
     have HI:=jH (aI (hI.out.1.made hbT) (aI hI.out.2.1 (aI hI.out.2.2.1 (aI hI.out.2.2.2.1 (aJ hI.out.2.2.2.2 hbT)))))
     clear hI hbT hkk
     go_wp2_with fail
     generalize (wr.alloc (cL #[X Z s1,X Z s2,X Y s3,X Y s4,X Y s5] 39))=w6 at *
     refine(mX (⟨s1,s2,s3,s4,s5⟩:Tu) HK.out w6).mono ?_
     rintro e w7 ⟨A7,N7,c7,rfl,hN7,cT,hb7⟩
     have C7:=jH (tE (HI.out.1.made hb7) (⟨s1,s2,s3,s4,s5⟩:Tu) HK.out A7 N7 c7 (Reads.of_own cT) (dN cT).1 (by have:=HI.out.2;have:=hgk.out;have:=HS.out.1;omega) (by have:=hgk.out;omega))
     have H7:=jH (aI HI.out.2.1 (aI HI.out.2.2.1 (aI HI.out.2.2.2.1 (aJ HI.out.2.2.2.2 hb7))))
     clear hN7 cT hb7 HI t0 t1 t2 t3 t4
     go_wp2_with fail
     refine C7.out.mono ?_
     rintro e w8 ⟨⟨v8,rfl⟩,⟨F',q1,q2,q3,hI8⟩,hf⟩
     have HF:=jH (aI hI8 (aI (show F'.take F1.length=F1 by have e:F'.take F1.length=(F'.take F.length).take F1.length:=(by rw[List.take_take,Nat.min_eq_left H7.out.2.1]);rw[e,q1];exact H7.out.1) (aI (show F1.length≤F'.length by have:=H7.out.2.1;omega) (aI (show F'.length≤F1.length + (j + 1) by have:=H7.out.2.2.1;omega) (hf.own H7.out.2.2.2 (by decide))))))
     clear q1 q2 q3 hI8 hf H7 C7
     go_wp2_with fail
     go_roundg (gk - 1)
     case measure=>have h1:=hgk.out;omega
     case rel=>exact⟨j + 1,F',by go_num,(by show _=_;have:=hgk.out;omega),(by have:=HF.out;exact⟨by have h:=this.1;rw[show 300 + 9 * (j + 1)=300 + 9 * j + 9 by omega];exact h,this.2⟩)⟩
    ·have hj:j=n2:=by have:=hgk.out;omega
     have hdL:decide ((j:Int) < (n2:Int))=false:=decide_eq_false (by omega)
     have hob:300 + 9 * j≤400:=by omega
     obtain⟨o5,i5,ho5,aK⟩:=hI.out.1.2.1
     have CS:=jH (kP aK)
     have HI:=jH (aI hI.out.1 (aI hI.out.2.1 (aI hI.out.2.2.1 (aI (show F.length≤16 by have:=hI.out.2.2.2.1;have:=HS.out.1;omega) (aI hI.out.2.2.2.2 hob)))))
     clear hI hj aK ho5 hob
     go_wp2_with fail
     refine CS.out.mono ?_
     rintro e w7 ⟨A6,c6,v6,fs2,rfl,-,cK,hown,hb7⟩
     obtain⟨A8,n8,rfl⟩:=cV hown
     rw[kG] at cK
     have H7:Hid (fw w w7 aa p z V (1 + F1.length) F (300 + 9 * j)∧w7.ownsRow aa 47 8 (G A4 fs1.length n4) fs1.length (bE fs1)∧w7.ownsRow aa 47 8 (G A8 fs2.length n8) fs2.length (bE fs2)∧fs2.Perm F):=⟨HI.out.1.made hb7,aJ HI.out.2.2.2.2.1 hb7,cO hown HI.out.1.hi,cK⟩
     obtain⟨qF,⟨o7,i7,ho7,hb7'⟩,qw,qb⟩:=H7.out.1
     have hpl:=HT.out.2.2.1.reads
     have CC:=jH (vx hb7' qF A3 n3 c3 w.heap.size pk (hpl.below qw) qb HT.out.2.2.1.le (by have h1:=HT.out.2.2.1.le;have h2:=HT.out.2.2.1.reach;omega) HT.out.2.2.1.all HI.out.2.2.1 (by have:=HI.out.2.2.2.1;omega) (by have:=HI.out.2.2.2.2.2;omega) (by simp[cN]) (by have:=rk z;simp at this;omega) (by omega) (by omega) (by omega))
     clear cK hown hb7 CS qF ho7 hb7' hpl
     go_wp2_with fail
     refine CC.out.mono ?_
     rintro e w8 ⟨rfl,⟨m,o8,p',i8,F',m1,m2,hF',hFk,hbp,hbal⟩,hf8⟩
     have hbO:Below w8.heap.size w8 (w8.alloc (cL #[X Y 0,X Y 0,X Y 0,G none 0 0] 28)):=(bR _ _).alloc (nR _) _
     have H8:(fun Vv:World=>Hid ((∃ops il,aM Vv aa p' (eN z) 19 51 316 32000 V 1 0 ops ([aE.gen 1 (cN.map (aX V))]++(F.take m).map fun f=>aE.put (aT V f)) (1 + m) (cN.map (aX V)) (bA F') il 1)∧fD F'∧Vv.ownsRow aa 47 8 (G A4 fs1.length n4) fs1.length (bE fs1)∧Vv.ownsRow aa 47 8 (G A8 fs2.length n8) fs2.length (bE fs2)∧Below w.heap.size w Vv∧w.heap.size≤aa∧(∀fs3:List Fl,fs3.Perm F'→fs1.length≤fs3.length∧fs3.length≤fs2.length∧(∀f∈fs1,fP fs3 f.k=(f.be,true))∧∀f∈fs3,fP fs2 f.k=(f.be,true))∧fs1.length≤8∧fs2.length≤16)) (w8.alloc (cL #[X Y 0,X Y 0,X Y 0,G none 0 0] 28)):=by
      have hlow:=qw.trans (hf8.below.mono qb)
      have e1:=HS.out.2.length_eq
      have e2:=H7.out.2.2.2.length_eq
      have e3:=hF'.length_eq
      rw[List.length_map,List.length_take] at e3
      have e4:=HI.out.2.2.2.1
      have e5:=HS.out.1
      refine⟨⟨o8,i8,hbal.made hbO⟩,hFk,aJ (hf8.own H7.out.2.1 (by decide)) hbO,aJ (hf8.own H7.out.2.2.1 (by decide)) hbO,hlow.alloc hlow.size _,qb,fun fs3 p3=>?_,by omega,by omega⟩
      have e6:=p3.length_eq
      exact⟨by omega,by omega,fun f hf=>Dx HI.out.2.1 m1 HS.out.2 hF' p3 hFk.nd f hf,fun f hf=>Dv H7.out.2.2.2 H7.out.1.1.nd hF' p3 f hf⟩
     rw[←hbp]
     clear hbal hf8 CC HI H7 m1 m2 hF' hFk hbp hbO HS qw qb
     unfold fW
     go_wp2_with fail
     generalize (w8.alloc (cL #[X Y 0,X Y 0,X Y 0,G none 0 0] 28))=w9 at *
     obtain⟨o9,i9,hb9⟩:=H8.out.1
     have CS:=jH (kP hb9)
     clear hb9
     refine CS.out.mono ?_
     rintro e wa ⟨Aa,ca,va,fs3,rfl,-,cK,hown,hba⟩
     obtain⟨Ab,nb3,rfl⟩:=cV hown
     rw[kG] at cK
     have hl2:(cN.map (aX V)).length=2:=rfl
     rw[hl2]
     obtain⟨qs,hqs⟩:∃qs,qs=wa.heap.size:=⟨_,rfl⟩
     have hbS:Below wa.heap.size wa (wa.alloc (cL #[X Y (1:Nat),G Aa 2 ca,G none 0 0,G Ab fs3.length nb3] 44)):=(bR _ _).alloc (nR _) _
     have Ha:(fun Vv:World=>Hid ((∃ops il,aM Vv aa p' (eN z) 19 51 316 32000 V 1 0 ops ([aE.gen 1 (cN.map (aX V))]++(F.take m).map fun f=>aE.put (aT V f)) (1 + m) (cN.map (aX V)) (bA F') il 1)∧Vv.ownsRow aa 47 8 (G A4 fs1.length n4) fs1.length (bE fs1)∧Vv.ownsRow aa 47 8 (G A8 fs2.length n8) fs2.length (bE fs2)∧Vv.ownsRow aa 47 8 (G Ab fs3.length nb3) fs3.length (bE fs3)∧ab Vv qs 44 #[X Y (1:Nat),G Aa 2 ca,G none 0 0,G Ab fs3.length nb3]∧Below w.heap.size w Vv)) (wa.alloc (cL #[X Y (1:Nat),G Aa 2 ca,G none 0 0,G Ab fs3.length nb3] 44)):=by
      obtain⟨⟨ops,il,g1⟩,g2,g3,g4,g5,g6,-⟩:=H8.out
      have g7:=(g5.trans (hba.mono g5.size))
      exact⟨⟨ops,il,(g1.made hba).made hbS⟩,aJ (aJ g3 hba) hbS,aJ (aJ g4 hba) hbS,aJ (cO hown g1.hi) hbS,hqs▸ab.new wa _ _,g7.alloc g7.size _⟩
     obtain⟨r1,r2,r3,r4⟩:=H8.out.2.2.2.2.2.2.1 fs3 cK
     have HR:=jH (aI r3 (aI r4 (aI cK (aI H8.out.2.1 H8.out.2.2.2.2.2.1))))
     have HM:=jH H8.out.2.2.2.2.2.2.2
     have hlen3:fs3.length≤16:=by have:=HM.out.2;omega
     have hlen1:fs1.length≤8:=HM.out.1
     have e13:decide (((fs3.length:Nat):Int) < (fs1.length:Int))=false:=decide_eq_false (by omega)
     have e32:decide (((fs2.length:Nat):Int) < (fs3.length:Int))=false:=decide_eq_false (by omega)
     have n13:¬fs3.length < fs1.length:=by omega
     have n32:¬fs2.length < fs3.length:=by omega
     clear r3 r4 cK hown hba hbS CS H8
     go_upto_region 28 with fail
     rw[←hqs]
     clear hqs
     generalize (wa.alloc (cL #[X Y (1:Nat),G Aa 2 ca,G none 0 0,G Ab fs3.length nb3] 44))=wb at *
     obtain⟨-,u1,-,u3⟩:=Ha.out.2.2.2.2.1.c4
     go_wp2_with fail
     clear e13 e32 u1 u3 n13 n32 r1 r2
     obtain⟨g7,hg7⟩:∃g7,g7=gk:=⟨_,rfl⟩
     have HG7:=jH hg7
     clear hg7
     go_loopg [130] fs1.length (fun gk i wr=>∃(j:Nat),i=X Y j∧Hid (j + gk=fs1.length)∧Hid (Below wb.heap.size wb wr))
     case atStart=>exact⟨0,rfl,(by show _=_;omega),bR _ _⟩
     case round=>
      obtain⟨j,rfl,hgk,hI⟩:=hrel
      by_cases au:j < fs1.length
      ·obtain⟨f,hfj⟩:∃f,fs1[j]? =some f:=⟨_,List.getElem?_eq_getElem au⟩
       obtain⟨b4,hA4,hc4⟩:=lF (f:=f) (j:=j) (aJ Ha.out.2.1 hI.out) hfj
       subst hA4
       have r0:=hc4 0 _ rfl
       have r1:=hc4 1 _ rfl
       have r2:=hc4 2 _ rfl
       have r3:=hc4 3 _ rfl
       have r4:=hc4 4 _ rfl
       have r5:=hc4 5 _ rfl
       have r6:=hc4 6 _ rfl
       have r7:=hc4 7 _ rfl
       simp only[Nat.add_zero] at r0
       have hbF:=hI.out.alloc hI.out.size (cL #[X Z f.k.src,X Z f.k.dst,X Y f.k.proto,X Y f.k.sport,X Y f.k.dport,X Y f.be,X Y f.gen,X Y f.seen] 47)
       have u3:=(Ha.out.2.2.2.2.1.below hbF Ha.out.2.2.2.2.1.lt).cell 3
       simp only[ga,gz,gN] at u3
       have x5:(wr.alloc (cL #[X Z f.k.src,X Z f.k.dst,X Y f.k.proto,X Y f.k.sport,X Y f.k.dport,X Y f.be,X Y f.gen,X Y f.seen] 47)).cell? ⟨wr.heap.size,1 + 4,none⟩=some (X Y f.be):=(ab.new wr 47 #[X Z f.k.src,X Z f.k.dst,X Y f.k.proto,X Y f.k.sport,X Y f.k.dport,X Y f.be,X Y f.gen,X Y f.seen]).cell 5
       have hFN:=HR.out.1 f (List.mem_of_getElem? hfj)
       have CF:=jH (sZ Ab nb3 aa fs3 f.k.src f.k.dst f.k.proto f.k.sport f.k.dport (wr.alloc (cL #[X Z f.k.src,X Z f.k.dst,X Y f.k.proto,X Y f.k.sport,X Y f.k.dport,X Y f.be,X Y f.gen,X Y f.seen] 47)) (aJ Ha.out.2.2.2.1 hbF) (by have h1:=hbF.size;have h2:=Ha.out.1;obtain⟨_,_,h3⟩:=h2;have h4:=h3.hi;omega) (by omega))
       rw[show (⟨f.k.src,f.k.dst,f.k.proto,f.k.sport,f.k.dport⟩:Tu)=f.k from rfl,hFN] at CF
       have HBF:=jH hbF
       have HX:=jH (ab.new wr 47 #[X Z f.k.src,X Z f.k.dst,X Y f.k.proto,X Y f.k.sport,X Y f.k.dport,X Y f.be,X Y f.gen,X Y f.seen])
       clear hc4 hfj hFN hbF x5
       go_wp2_with fail
       generalize (wr.alloc (cL #[X Z f.k.src,X Z f.k.dst,X Y f.k.proto,X Y f.k.sport,X Y f.k.dport,X Y f.be,X Y f.gen,X Y f.seen] 47))=wc at *
       generalize wr.heap.size=qf at *
       refine CF.out.mono ?_
       rintro e wd ⟨rfl,hbd⟩
       have x5:=(HX.out.below hbd HX.out.lt).cell 5
       simp only[ga,gz,gN] at x5
       have HD:=jH (HBF.out.trans (hbd.mono HBF.out.size))
       have hee:((f.be:Int)==(f.be:Int))=true:=by simp
       clear hbd CF HBF HX r0 r1 r2 r3 r4 r5 r6 r7 u3
       go_wp2_with fail
       go_roundg (gk - 1)
       case measure=>have h1:=hgk.out;omega
       case rel=>exact⟨j + 1,by go_num,(by show _=_;have:=hgk.out;omega),HD.out⟩
      ·have hj:j=fs1.length:=by have:=hgk.out;omega
       have hdL:decide ((j:Int) < (fs1.length:Int))=false:=decide_eq_false (by omega)
       have HB:Hid ((∃ops il,aM wr aa p' (eN z) 19 51 316 32000 V 1 0 ops ([aE.gen 1 (cN.map (aX V))]++(F.take m).map fun f=>aE.put (aT V f)) (1 + m) (cN.map (aX V)) (bA F') il 1)∧wr.ownsRow aa 47 8 (G A8 fs2.length n8) fs2.length (bE fs2)∧wr.ownsRow aa 47 8 (G Ab fs3.length nb3) fs3.length (bE fs3)∧ab wr qs 44 #[X Y (1:Nat),G Aa 2 ca,G none 0 0,G Ab fs3.length nb3]∧Below w.heap.size w wr):=by
        obtain⟨⟨ops,il,g1⟩,g2,g3,g4,g5,g6⟩:=Ha.out
        exact⟨⟨ops,il,g1.made hI.out⟩,aJ g3 hI.out,aJ g4 hI.out,g5.below hI.out g5.lt,g6.trans (hI.out.mono g6.size)⟩
       have u3:=HB.out.2.2.2.1.cell 3
       simp only[ga,gz,gN] at u3
       clear hj hI Ha
       go_wp2_with fail
       clear u3
       obtain⟨g6,hg6⟩:∃g6,g6=gk:=⟨_,rfl⟩
       have HG6:=jH hg6
       clear hg6
       obtain⟨wS,hwS⟩:∃wS,wS=wr:=⟨_,rfl⟩
       rw[←hwS] at HB⊢
       clear hwS
       go_loopg [155] fs3.length (fun gk i wr=>∃(j:Nat),i=X Y j∧Hid (j + gk=fs3.length)∧Hid ((∃ops il,aM wr aa p' (eN z) 19 51 316 32000 V 1 0 ops ([aE.gen 1 (cN.map (aX V))]++(F.take m).map fun f=>aE.put (aT V f)) (1 + m) (cN.map (aX V)) (bA F') il 1)∧wr.ownsRow aa 47 8 (G A8 fs2.length n8) fs2.length (bE fs2)∧wr.ownsRow aa 47 8 (G Ab fs3.length nb3) fs3.length (bE fs3)∧Below w.heap.size w wr))
       case atStart=>exact⟨0,rfl,(by show _=_;omega),HB.out.1,HB.out.2.1,HB.out.2.2.1,HB.out.2.2.2.2⟩
       case round=>
        clear HB
        obtain⟨j,rfl,hgk,hI⟩:=hrel
        by_cases au:j < fs3.length
        ·obtain⟨f,hfj⟩:∃f,fs3[j]? =some f:=⟨_,List.getElem?_eq_getElem au⟩
         obtain⟨b4,hA4,hc4⟩:=lF (f:=f) (j:=j) hI.out.2.2.1 hfj
         subst hA4
         have r0:=hc4 0 _ rfl
         have r1:=hc4 1 _ rfl
         have r2:=hc4 2 _ rfl
         have r3:=hc4 3 _ rfl
         have r4:=hc4 4 _ rfl
         have r5:=hc4 5 _ rfl
         have r6:=hc4 6 _ rfl
         have r7:=hc4 7 _ rfl
         simp only[Nat.add_zero] at r0
         have hbF:Below wr.heap.size wr (wr.alloc (cL #[X Z f.k.src,X Z f.k.dst,X Y f.k.proto,X Y f.k.sport,X Y f.k.dport,X Y f.be,X Y f.gen,X Y f.seen] 47)):=(bR _ _).alloc (nR _) _
         have hmf:=List.mem_of_getElem? hfj
         have hFN:=HR.out.2.1 f hmf
         have aA:aa≤(wr.alloc (cL #[X Z f.k.src,X Z f.k.dst,X Y f.k.proto,X Y f.k.sport,X Y f.k.dport,X Y f.be,X Y f.gen,X Y f.seen] 47)).heap.size:=by obtain⟨_,_,h3⟩:=hI.out.1;have h1:=hbF.size;have h4:=h3.hi;omega
         have CF:=jH (sZ A8 n8 aa fs2 f.k.src f.k.dst f.k.proto f.k.sport f.k.dport (wr.alloc (cL #[X Z f.k.src,X Z f.k.dst,X Y f.k.proto,X Y f.k.sport,X Y f.k.dport,X Y f.be,X Y f.gen,X Y f.seen] 47)) (aJ hI.out.2.1 hbF) aA (by have:=HM.out.2;omega))
         rw[show (⟨f.k.src,f.k.dst,f.k.proto,f.k.sport,f.k.dport⟩:Tu)=f.k from rfl,hFN] at CF
         have HBF:=jH hbF
         have HX:=jH (ab.new wr 47 #[X Z f.k.src,X Z f.k.dst,X Y f.k.proto,X Y f.k.sport,X Y f.k.dport,X Y f.be,X Y f.gen,X Y f.seen])
         have hmF:f∈F':=HR.out.2.2.1.mem_iff.1 hmf
         have HMF:=jH hmF
         have HI:=jH (show (∃ops il,aM (wr.alloc (cL #[X Z f.k.src,X Z f.k.dst,X Y f.k.proto,X Y f.k.sport,X Y f.k.dport,X Y f.be,X Y f.gen,X Y f.seen] 47)) aa p' (eN z) 19 51 316 32000 V 1 0 ops ([aE.gen 1 (cN.map (aX V))]++(F.take m).map fun f=>aE.put (aT V f)) (1 + m) (cN.map (aX V)) (bA F') il 1)∧(wr.alloc (cL #[X Z f.k.src,X Z f.k.dst,X Y f.k.proto,X Y f.k.sport,X Y f.k.dport,X Y f.be,X Y f.gen,X Y f.seen] 47)).ownsRow aa 47 8 (G A8 fs2.length n8) fs2.length (bE fs2)∧(wr.alloc (cL #[X Z f.k.src,X Z f.k.dst,X Y f.k.proto,X Y f.k.sport,X Y f.k.dport,X Y f.be,X Y f.gen,X Y f.seen] 47)).ownsRow aa 47 8 (G (some ⟨b4,0,none⟩) fs3.length nb3) fs3.length (bE fs3)∧Below w.heap.size w (wr.alloc (cL #[X Z f.k.src,X Z f.k.dst,X Y f.k.proto,X Y f.k.sport,X Y f.k.dport,X Y f.be,X Y f.gen,X Y f.seen] 47)) from by
          obtain⟨⟨ops,il,g1⟩,g2,g3,g4⟩:=hI.out
          exact⟨⟨ops,il,g1.made hbF⟩,aJ g2 hbF,aJ g3 hbF,g4.trans (hbF.mono g4.size)⟩)
         clear hc4 hfj hFN hbF hmf hmF hI aA
         go_wp2_with fail
         generalize (wr.alloc (cL #[X Z f.k.src,X Z f.k.dst,X Y f.k.proto,X Y f.k.sport,X Y f.k.dport,X Y f.be,X Y f.gen,X Y f.seen] 47))=wc at *
         generalize wr.heap.size=qf at *
         refine CF.out.mono ?_
         rintro e wd ⟨rfl,hbd⟩
         have HXd:=jH (HX.out.below hbd HX.out.lt)
         have hee:((f.be:Int)==(f.be:Int))=true:=by simp
         obtain⟨x0,x1,x2,x3,x4,x5⟩:=HXd.out.c6
         have HJ:=jH (show (∃ops il,aM wd aa p' (eN z) 19 51 316 32000 V 1 0 ops ([aE.gen 1 (cN.map (aX V))]++(F.take m).map fun f=>aE.put (aT V f)) (1 + m) (cN.map (aX V)) (bA F') il 1)∧wd.ownsRow aa 47 8 (G A8 fs2.length n8) fs2.length (bE fs2)∧wd.ownsRow aa 47 8 (G (some ⟨b4,0,none⟩) fs3.length nb3) fs3.length (bE fs3)∧Below w.heap.size w wd from by
          obtain⟨⟨ops,il,g1⟩,g2,g3,g4⟩:=HI.out
          exact⟨⟨ops,il,g1.made hbd⟩,aJ g2 hbd,aJ g3 hbd,g4.trans (hbd.mono g4.size)⟩)
         clear hbd CF HBF HX HI r0 r1 r2 r3 r4 r5 r6 r7
         go_wp2_with fail
         refine(mX f.k ((HR.out.2.2.2.1.ok f HMF.out).1.k) wd).mono ?_
         rintro e we ⟨A7,N7,c7,rfl,hN7,cT,hb7⟩
         obtain⟨o7,i7,hbal7⟩:=HJ.out.1
         have C7:=jH (qk (hbal7.made hb7) HR.out.2.2.2.1 (uY V HV.out.1 HV.out.2) f HMF.out A7 N7 c7 we.heap.size (Reads.of_own cT) (nR _) (dN cT).1)
         have HK:=jH (aI (aJ HJ.out.2.1 hb7) (aI (aJ HJ.out.2.2.1 hb7) (aI (HJ.out.2.2.2.trans (hb7.mono HJ.out.2.2.2.size)) (HXd.out.below hb7 HXd.out.lt))))
         clear hN7 cT hb7 hbal7 HJ HXd x0 x1 x2 x3 x4 x5
         go_wp2_with fail
         refine C7.out.mono ?_
         rintro e wf ⟨⟨A9,N9,c9,rfl⟩,⟨i9,hbal9⟩,hf9⟩
         have hbO:Below wf.heap.size wf (wf.alloc (cL #[X Y 2,X Y 0,X Y f.be,G A9 N9 c9] 28)):=(bR _ _).alloc (nR _) _
         have hX9:=(hf9.blk _ _ _ HK.out.2.2.2 (by decide)).alloc (cL #[X Y 2,X Y 0,X Y f.be,G A9 N9 c9] 28)
         have x5:=hX9.cell 5
         simp only[ga,gz,gN] at x5
         have HE:=jH (show (∃ops il,aM (wf.alloc (cL #[X Y 2,X Y 0,X Y f.be,G A9 N9 c9] 28)) aa p' (eN z) 19 51 316 32000 V 1 0 ops ([aE.gen 1 (cN.map (aX V))]++(F.take m).map fun f=>aE.put (aT V f)) (1 + m) (cN.map (aX V)) (bA F') il 1)∧(wf.alloc (cL #[X Y 2,X Y 0,X Y f.be,G A9 N9 c9] 28)).ownsRow aa 47 8 (G A8 fs2.length n8) fs2.length (bE fs2)∧(wf.alloc (cL #[X Y 2,X Y 0,X Y f.be,G A9 N9 c9] 28)).ownsRow aa 47 8 (G (some ⟨b4,0,none⟩) fs3.length nb3) fs3.length (bE fs3)∧Below w.heap.size w (wf.alloc (cL #[X Y 2,X Y 0,X Y f.be,G A9 N9 c9] 28)) from by
          obtain⟨g1,g2,g3,g4⟩:=HK.out
          have g5:=g3.trans (hf9.below.mono HR.out.2.2.2.2)
          exact⟨⟨o7,i9,hbal9.made hbO⟩,aJ (hf9.own g1 (by decide)) hbO,aJ (hf9.own g2 (by decide)) hbO,g5.trans (hbO.mono g5.size)⟩)
         clear hbO hX9 hbal9 hf9 HK C7
         go_wp2_with fail
         go_roundg (gk - 1)
         case measure=>have h1:=hgk.out;omega
         case rel=>exact⟨j + 1,by go_num,(by show _=_;have:=hgk.out;omega),HE.out⟩
        ·have hj:j=fs3.length:=by have:=hgk.out;omega
         have hdL:decide ((j:Int) < (fs3.length:Int))=false:=decide_eq_false (by omega)
         have CA:=jH (HT.out.2.2.2 wr hI.out.2.2.2)
         have HW:=jH hI.out.2.2.2
         clear hj hI
         go_wp2_with fail
         refine CA.out.mono ?_
         rintro e wz ⟨rfl,hbz⟩
         have HZ:=jH (HW.out.trans (hbz.mono HW.out.size))
         clear hbz CA HW
         go_wp2_with fail
         go_ret
         exact⟨rfl,HZ.out⟩
theorem Dr (z v:Int)(A1:Option Addr)(n1 c1:Nat)(ta:List Tu)(A2:Option Addr)(n2 c2:Nat)(tb:List Tu)(A3:Option Addr)(n3 c3:Nat)(pk:List Nat)(w:World)(ha:kQ w A1 n1 c1 ta)(hb:kQ w A2 n2 c2 tb)(hp:pC w A3 n3 c3 pk)(HA:∀W,Below w.heap.size w W→Calls Pg 5 #[] W fun e w'=>e=rT (bL true)∧Below W.heap.size W w'):
  Calls Pg 3 #[X Y z,X Y v,G A1 n1 c1,G A2 n2 c2,G A3 n3 c3] w fun e w'=>e=rT (bL true)∧Below w.heap.size w w':=by
 by_cases h1:n1≤8
 ·by_cases h2:n2≤8
  ·exact Dq z v A1 n1 c1 ta A2 n2 c2 tb A3 n3 c3 pk w ha hb hp h1 h2 HA
  ·exact Ds z v A1 n1 c1 ta A2 n2 c2 tb A3 n3 c3 pk w h1 (by omega) HA
 ·exact Dt z v A1 n1 c1 ta A2 n2 c2 tb A3 n3 c3 pk w (by omega) HA
end
section
open Go.RowKit
def gx (sport dport:Int):List Nat:=[]++be (ai sport) 2++be (ai dport) 2++be (ai 8) 2++be (ai 0) 2
theorem jT (a b:Int):(gx a b).length=8:=by simp[gx,be_length]
theorem pU (src dst:Nat)(sport dport:Int):bW ⟨0,0,28,0,0,0,64,17,0,src,dst⟩++gx sport dport=bU ⟨src,dst,17,sport,dport⟩ 64:=by
 have e:cR ⟨src,dst,17,sport,dport⟩ 0 []=gx sport dport:=by
  unfold cR gx
  simp[eY,en,ua,ai]
 unfold bU cW
 rw[e]
 have e2:gX ⟨src,dst,17,sport,dport⟩ ((64:Nat):Int) (gx sport dport).length=⟨0,0,28,0,0,0,64,17,0,src,dst⟩:=by rw[jT];rfl
 rw[e2]
theorem Dy (src dst:Nat)(sport dport:Int)(hs:src < 4294967296)(hd:dst < 4294967296)(w:World):
  Calls Pg 76 #[aG #[X Z src,X Z dst,X Y 17,X Y sport,X Y dport]] w fun e w'=>∃A N c,e=rT (G A N c)∧N=(bU ⟨src,dst,17,sport,dport⟩ 64).length∧w'.ownsRow w.heap.size 5 1 (G A N c) N (bv (bU ⟨src,dst,17,sport,dport⟩ 64))∧Below w.heap.size w w':=by
 have k1:=(ab.new w 39 #[X Z src,X Z dst,X Y 17,X Y sport,X Y dport]).alloc (cL #[G none 0 0] 251)
 have hb:Below w.heap.size w ((w.alloc (cL #[X Z src,X Z dst,X Y 17,X Y sport,X Y dport] 39)).alloc (cL #[G none 0 0] 251)):=((bR w.heap.size w).alloc (nR _) _).alloc (by simp) _
 have kw:=ab.new (w.alloc (cL #[X Z src,X Z dst,X Y 17,X Y sport,X Y dport] 39)) 251 #[G none 0 0]
 rw[show (w.alloc (cL #[X Z src,X Z dst,X Y 17,X Y sport,X Y dport] 39)).heap.size=w.heap.size + 1 by simp] at kw
 have hw:bh ((w.alloc (cL #[X Z src,X Z dst,X Y 17,X Y sport,X Y dport] 39)).alloc (cL #[G none 0 0] 251)) (w.heap.size + 1) (w.heap.size + 1) []:=⟨nR _,none,0,kw,World.ownsRow_nil _ _ _ _⟩
 obtain⟨x0,x1,x2,x3,x4⟩:=k1.c5
 have hsz:((w.alloc (cL #[X Z src,X Z dst,X Y 17,X Y sport,X Y dport] 39)).alloc (cL #[G none 0 0] 251)).heap.size=w.heap.size + 2:=by simp
 have H0:(fun Vv:World=>Hid (bh Vv (w.heap.size + 1) (w.heap.size + 1) []∧ab Vv w.heap.size 39 #[X Z src,X Z dst,X Y 17,X Y sport,X Y dport]∧Below w.heap.size w Vv∧w.heap.size + 1≤Vv.heap.size)) ((w.alloc (cL #[X Z src,X Z dst,X Y 17,X Y sport,X Y dport] 39)).alloc (cL #[G none 0 0] 251)):=⟨hw,k1,hb,by omega⟩
 clear k1 hb kw hw hsz
 go_enter func76,ntmps76
 go_wp2_with fail
 generalize ((w.alloc (cL #[X Z src,X Z dst,X Y 17,X Y sport,X Y dport] 39)).alloc (cL #[G none 0 0] 251))=w0 at *
 refine(iW (w.heap.size + 1) (w.heap.size + 1) sport ([]:List Nat) w0 (by simp[be_length]) H0.out.1 H0.out.2.2.2).mono ?_
 rintro e w1 ⟨rfl,hwb,aA⟩
 have H1:Hid (bh w1 (w.heap.size + 1) (w.heap.size + 1) (([]:List Nat)++be (ai sport) 2)∧ab w1 w.heap.size 39 #[X Z src,X Z dst,X Y 17,X Y sport,X Y dport]∧Below w.heap.size w w1∧w.heap.size + 1≤w1.heap.size):=⟨hwb,H0.out.2.1.below aA (by omega),H0.out.2.2.1.trans (aA.mono (by omega)),nT H0.out.2.2.2 aA.size⟩
 clear hwb aA H0 x0 x1 x2 x3 x4
 obtain⟨-,-,y2,y3,y4⟩:=H1.out.2.1.c5
 go_wp2_with fail
 clear y2 y3 y4
 refine(iW (w.heap.size + 1) (w.heap.size + 1) dport ([]++be (ai sport) 2) w1 (by simp[be_length]) H1.out.1 H1.out.2.2.2).mono ?_
 rintro e w2 ⟨rfl,hwb,aA⟩
 have H2:Hid (bh w2 (w.heap.size + 1) (w.heap.size + 1) (([]++be (ai sport) 2)++be (ai dport) 2)∧ab w2 w.heap.size 39 #[X Z src,X Z dst,X Y 17,X Y sport,X Y dport]∧Below w.heap.size w w2∧w.heap.size + 1≤w2.heap.size):=⟨hwb,H1.out.2.1.below aA (by omega),H1.out.2.2.1.trans (aA.mono (by omega)),nT H1.out.2.2.2 aA.size⟩
 clear hwb aA H1
 obtain⟨-,-,y2,y3,y4⟩:=H2.out.2.1.c5
 go_wp2_with fail
 clear y2 y3 y4
 refine(iW (w.heap.size + 1) (w.heap.size + 1) 8 ([]++be (ai sport) 2++be (ai dport) 2) w2 (by simp[be_length]) H2.out.1 H2.out.2.2.2).mono ?_
 rintro e w3 ⟨rfl,hwb,aA⟩
 have H3:Hid (bh w3 (w.heap.size + 1) (w.heap.size + 1) (([]++be (ai sport) 2++be (ai dport) 2)++be (ai 8) 2)∧ab w3 w.heap.size 39 #[X Z src,X Z dst,X Y 17,X Y sport,X Y dport]∧Below w.heap.size w w3∧w.heap.size + 1≤w3.heap.size):=⟨hwb,H2.out.2.1.below aA (by omega),H2.out.2.2.1.trans (aA.mono (by omega)),nT H2.out.2.2.2 aA.size⟩
 clear hwb aA H2
 obtain⟨-,-,y2,y3,y4⟩:=H3.out.2.1.c5
 go_wp2_with fail
 clear y2 y3 y4
 refine(iW (w.heap.size + 1) (w.heap.size + 1) 0 ([]++be (ai sport) 2++be (ai dport) 2++be (ai 8) 2) w3 (by simp[be_length]) H3.out.1 H3.out.2.2.2).mono ?_
 rintro e w4 ⟨rfl,hwb,aA⟩
 have H4:Hid (bh w4 (w.heap.size + 1) (w.heap.size + 1) (([]++be (ai sport) 2++be (ai dport) 2++be (ai 8) 2)++be (ai 0) 2)∧ab w4 w.heap.size 39 #[X Z src,X Z dst,X Y 17,X Y sport,X Y dport]∧Below w.heap.size w w4∧w.heap.size + 1≤w4.heap.size):=⟨hwb,H3.out.2.1.below aA (by omega),H3.out.2.2.1.trans (aA.mono (by omega)),nT H3.out.2.2.2 aA.size⟩
 clear hwb aA H3
 have H5:Hid (bh w4 (w.heap.size + 1) (w.heap.size + 1) (gx sport dport)∧ab w4 w.heap.size 39 #[X Z src,X Z dst,X Y 17,X Y sport,X Y dport]∧Below w.heap.size w w4∧w.heap.size + 1≤w4.heap.size):=H4.out
 clear H4
 have CL:Hid (Calls Pg 161 #[PT (some ⟨w.heap.size + 1,0,none⟩)] w4.drew fun e w'=>e=rT (X Y 8)∧w4.drew=w'):=by
  have h1:=uD (w.heap.size + 1) (w.heap.size + 1) (gx sport dport) w4.drew (H5.out.1.below (bR _ _).drew)
  rw[jT] at h1
  exact h1
 have CB:=jH (tL ⟨0,0,28,0,0,0,64,17,0,src,dst⟩ w4.drew ⟨by simp,by simp,by simp,by simp,by simp,by simp,by simp,by simp,by simp,hs,hd⟩)
 unfold Hd.vals at CB
 dsimp only at CB
 have e28:IntKind.i64.wrap 28=28:=by decide
 have d0:w4.drew.cell? ⟨w.heap.size,0,none⟩=some (X Z src)∧w4.drew.cell? ⟨w.heap.size,1,none⟩=some (X Z dst)∧w4.drew.cell? ⟨w.heap.size,2,none⟩=some (X Y 17):=⟨H5.out.2.1.drew.cell 0,H5.out.2.1.drew.cell 1,H5.out.2.1.drew.cell 2⟩
 go_wp2_with fail
 go_region_held3 (fun wS=>wS.cell? ⟨w.heap.size,0,none⟩=some (X Z src)∧wS.cell? ⟨w.heap.size,1,none⟩=some (X Z dst)∧wS.cell? ⟨w.heap.size,2,none⟩=some (X Y 17)) (first|with_reducible exact d0|with_reducible exact d1|fail)
  (first
   |(go_at_call 161;(with_reducible refine CL.out.mono ?_);rintro e w5 ⟨rfl,rfl⟩)
   |(go_at_call 160;(with_reducible refine CB.out.mono ?_);rintro e w6 ⟨A6,c6,rfl,cA,hb6⟩;have k6:=H5.out.2.1.drew.below hb6 H5.out.2.1.lt;have d1:w6.cell? ⟨w.heap.size,0,none⟩=some (X Z src)∧w6.cell? ⟨w.heap.size,1,none⟩=some (X Z dst)∧w6.cell? ⟨w.heap.size,2,none⟩=some (X Y 17):=⟨k6.cell 0,k6.cell 1,k6.cell 2⟩))
 have H6:Hid (bh w6 (w.heap.size + 1) (w.heap.size + 1) (gx sport dport)∧Below w.heap.size w w6∧w6.ownsRow w.heap.size 5 1 (G A6 20 c6) 20 (bv (bW ⟨0,0,28,0,0,0,64,17,0,src,dst⟩))):=by
  obtain⟨g1,g2,g3,g4⟩:=H5.out
  have hq:w.heap.size≤w4.drew.heap.size:=by show w.heap.size≤w4.heap.size;omega
  exact⟨(g1.below (bR _ _).drew).below hb6,g3.drew.trans (hb6.mono hq),cO cA hq⟩
 clear cA hb6 k6 d0 d1 CL CB H5 e28
 go_wp2_with fail
 refine(ia (w.heap.size + 1) (w.heap.size + 1) (gx sport dport) w6 H6.out.1 (by rw[jT];omega)).mono ?_
 rintro e w7 ⟨A7,c7,rfl,cT,hb7⟩
 rw[jT] at *
 have hbr:Below w7.heap.size w7 (w7.alloc (cL #[G A6 20 c6,G A7 8 c7] 23)):=(bR _ _).alloc (nR _) _
 have hz7:=H6.out.2.1.size
 have H7:(fun Vv:World=>Hid (Below w.heap.size w Vv∧ab Vv w7.heap.size 23 #[G A6 20 c6,G A7 8 c7]∧Reads Vv w7.heap.size 1 A6 20 (bv (bW ⟨0,0,28,0,0,0,64,17,0,src,dst⟩))∧Reads Vv w7.heap.size 1 A7 8 (bv (gx sport dport)))) (w7.alloc (cL #[G A6 20 c6,G A7 8 c7] 23)):=by
  have hl:=H6.out.2.1.trans (hb7.mono hz7)
  exact⟨hl.alloc hl.size _,ab.new _ _ _,(Reads.of_own (aJ H6.out.2.2 hb7)).alloc (nR _) _,(Reads.of_own cT).alloc (nR _) _⟩
 clear cT hb7 hbr hz7 H6
 go_wp2_with fail
 refine(DC w7.heap.size A6 A7 20 8 c6 c7 w7.heap.size _ _ _ H7.out.2.1 H7.out.2.2.1 H7.out.2.2.2 (by simp) (by omega) (by omega) (by omega)).mono ?_
 rintro e w8 ⟨A8,c8,rfl,hown8,hb8⟩
 have ax:(bU ⟨src,dst,17,sport,dport⟩ 64).length=28:=by rw[←pU,List.length_append,gK,jT]
 have H8:Hid ((20 + 8)=(bU ⟨src,dst,17,sport,dport⟩ 64).length∧w8.ownsRow w.heap.size 5 1 (G A8 (20 + 8) c8) (20 + 8) (bv (bU ⟨src,dst,17,sport,dport⟩ 64))∧Below w.heap.size w w8):=by
  rw[pU] at hown8
  exact⟨ax.symm,cO hown8 H7.out.1.size,H7.out.1.trans (hb8.mono H7.out.1.size)⟩
 clear hown8 hb8 ax H7
 go_wp2_with fail
 go_ret
 exact⟨A8,28,c8,rfl,H8.out⟩
end
end Go.Proofs.YtgjnoccflmjheaaGreatDoor
