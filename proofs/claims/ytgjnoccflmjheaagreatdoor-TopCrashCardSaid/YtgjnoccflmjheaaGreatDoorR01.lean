import Derived.Lib.SlBytesConst
import Derived.DeepKeys4
import Derived.Laws.CopyOwn
import Derived.Shelf.SlSortCmp.NoneTotal
import Derived.RangeFuncNested
import Derived.RangeFuncBound
import Derived.RangeFuncCalls
import Derived.RangeFuncLeaves
import Derived.Shelf.AbstractIn
import Derived.Shelf.RegionOpen
import Derived.OwnWalkIn
import Derived.TacticsInMore
import Derived.RegionIn
import Derived.LoopNIn
import Derived.LoopIn
import Derived.Sort.LoopGhostIn
import Derived.Test.YtgjnoccflmjheaaGreatDoorR00
namespace Go.Proofs.YtgjnoccflmjheaaGreatDoor
set_option linter.unusedVariables false
set_option linter.unusedSimpArgs false
set_option maxHeartbeats 8000000
set_option maxRecDepth 100000
open Value renaming int→X,slice→G,pointer→PT,bool→bL,agg→aG,tuple→tU
open Obj renaming cells→cL
open Ending renaming returned→rT
open Go.Proofs.Tryz
open Go.Proofs.Tryz renaming prog→Pg
open RowKit.Below renaming refl→bR
open IntKind renaming i64→Y,u32→Z
open List renaming getElem?_toArray→ga,getElem?_cons_zero→gz,getElem?_cons_succ→gN
open Lib renaming hid→jH
open Nat renaming le_refl→nR,le_trans→nT,le_succ→nS
open And renaming intro→aI
section
open Go.RowKit
def du (k:Tu):List Nat:=be k.src 4++be k.dst 4++be (ai k.proto) 1++be (ai k.sport) 2++be (ai k.dport) 2
theorem jW (k:Tu):(du k).length=13:=by simp[du,be_length]
theorem bY {a b:List Nat}(ha:ay a)(hb:ay b):ay (a++b):=fun x hx=>(List.mem_append.1 hx).elim (ha x) (hb x)
theorem jX (k:Tu):ay (du k):=bY (bY (bY (bY (bZ _ _) (bZ _ _)) (bZ _ _)) (bZ _ _)) (bZ _ _)
def iw (k:Tu):Nat:=ff 0 (du k)
theorem pI (p aa:Nat)(k:Tu)(hk:bT k)(w:World)(h:bh w aa p [])(an:aa≤w.heap.size):
  Calls Pg 318 #[PT (some ⟨p,0,none⟩),.agg k.vals] w fun e w'=>e=rT (tU #[])∧bh w' aa p (du k)∧Below aa w w':=by
 obtain⟨src,dst,proto,sport,dport⟩:=k
 obtain⟨k1,k2,k3,k4,k5⟩:=hk
 dsimp only[Tu.vals] at *
 have hx:=ab.new w 39 #[X Z src,X Z dst,X Y proto,X Y sport,X Y dport]
 have ao:=(bR w.heap.size w).alloc (nR _) (cL #[X Z src,X Z dst,X Y proto,X Y sport,X Y dport] 39)
 have hw0:=h.below ao
 have HE:Hid (du ⟨src,dst,proto,sport,dport⟩=be src 4++be dst 4++be (ai proto) 1++be (ai sport) 2++be (ai dport) 2):=rfl
 obtain⟨T,hT⟩:∃T,du ⟨src,dst,proto,sport,dport⟩=T:=⟨_,rfl⟩
 rw[hT] at HE⊢
 clear hT
 have ax:∀(n aO:Nat) (l:List Nat),(l++be n aO).length=l.length + aO:=fun n aO l=>by rw[List.length_append,be_length]
 have ht1:39≠251:=by decide
 have ht2:39≠5:=by decide
 have hbs:=nT an ao.size
 have C1:=jH (iV p aa src [] _ k1 (by simp) hw0 hbs)
 have HX:=jH hx
 have HB:=jH (ao.mono an)
 have HL:=jH ax
 have HS:=jH hbs
 clear hx ao hw0 ax hbs h
 go_enter func318,ntmps318
 obtain⟨q,hq⟩:∃q,q=w.heap.size:=⟨_,rfl⟩
 go_wp2_with fail
 generalize w.alloc (cL #[X Z src,X Z dst,X Y proto,X Y sport,X Y dport] 39)=w0 at *
 rw[←hq] at HX⊢
 clear hq
 refine C1.out.mono ?_
 rintro e w1 ⟨rfl,hw1,ae,hK1⟩
 have hx1:=hK1 _ _ _ HX.out ht1 ht2
 have hs1:=nT HS.out ae.size
 have C2:=jH (iV p aa dst _ w1 k2 (by rw[HL.out];simp) hw1 hs1)
 obtain⟨-,d1⟩:=hx1.c2
 have HX1:=jH hx1
 clear hx1
 go_wp2_with fail
 clear d1
 refine C2.out.mono ?_
 rintro e w2 ⟨rfl,hw2,af,hK2⟩
 have hx2:=hK2 _ _ _ HX1.out ht1 ht2
 have hs2:=nT hs1 af.size
 have C3:=jH (kY p aa proto _ w2 (by simp[be_length]) hw2 hs2)
 obtain⟨-,-,d2⟩:=hx2.c3
 have HX2:=jH hx2
 clear hx2
 go_wp2_with fail
 clear d2
 refine C3.out.mono ?_
 rintro e w3 ⟨rfl,hw3,al,hK3⟩
 have hx3:=hK3 _ _ _ HX2.out ht1 ht2
 have hs3:=nT hs2 al.size
 have C4:=jH (jn p aa sport _ w3 (by simp[be_length]) hw3 hs3)
 have d3:=hx3.cell 3
 simp only[ga,gz,gN] at d3
 have HX3:=jH hx3
 clear hx3
 go_wp2_with fail
 clear d3
 refine C4.out.mono ?_
 rintro e w4 ⟨rfl,hw4,aq,hK4⟩
 have hx4:=hK4 _ _ _ HX3.out ht1 ht2
 have hs4:=nT hs3 aq.size
 have C5:=jH (jn p aa dport _ w4 (by simp[be_length]) hw4 hs4)
 have d4:=hx4.cell 4
 simp only[ga,gz,gN] at d4
 have HX4:=jH hx4
 clear hx4
 go_wp2_with fail
 clear d4
 refine C5.out.mono ?_
 rintro e w5 ⟨rfl,hw5,aK,hK5⟩
 have hx5:=hK5 _ _ _ HX4.out ht1 ht2
 have hs5:=nT hs4 aK.size
 go_wp2_with fail
 go_end0
 refine⟨rfl,?_,((((HB.out.trans ae).trans af).trans al).trans aq).trans aK⟩
 rw[HE.out]
 simpa using hw5
theorem Bp (k:Tu)(hk:bT k)(w:World):
  Calls Pg 205 #[.agg k.vals] w fun e w'=>e=rT (X Z (iw k))∧Below w.heap.size w w':=by
 have HT:Hid (ff 0 (du k)=iw k):=rfl
 have hl:=jW k
 have ha:=jX k
 have ao:=((bR w.heap.size w).alloc (nR _) (.cells k.vals 39)).alloc (by simp) (cL #[G none 0 0] 251)
 have hs0:((w.alloc (.cells k.vals 39)).alloc (cL #[G none 0 0] 251)).heap.size=w.heap.size + 2:=by simp
 have C1:=jH (pI (w.heap.size + 1) (w.heap.size + 1) k hk ((w.alloc (.cells k.vals 39)).alloc (cL #[G none 0 0] 251))
  ⟨nR _,none,0,ab.new_ (by simp),World.ownsRow_nil _ _ _ _⟩ (by rw[hs0];omega))
 have hx0:=(ab.new w 39 k.vals).alloc (cL #[G none 0 0] 251)
 have HT2:=jH (aI ao hs0)
 obtain⟨src,dst,proto,sport,dport⟩:=k
 dsimp only[Tu.vals] at *
 obtain⟨c0,c1,c2,c3,c4⟩:=hx0.c5
 clear ao hs0 hx0
 generalize iw ⟨src,dst,proto,sport,dport⟩=hT at *
 generalize du ⟨src,dst,proto,sport,dport⟩=tb at *
 have HL:=jH hl
 clear hl
 go_enter func205,ntmps205
 go_wp2_with fail
 refine C1.out.mono ?_
 rintro e w1 ⟨rfl,hw1,ae⟩
 have hs1:w.heap.size + 2≤w1.heap.size:=by have:=ae.size;rw[HT2.out.2] at this;exact this
 have hB1:Below w.heap.size w w1:=HT2.out.1.trans (ae.mono (by omega))
 clear c0 c1 c2 c3 c4
 go_wp2_with fail
 refine(ia (w.heap.size + 1) (w.heap.size + 1) tb w1 hw1 (by rw[HL.out];omega)).mono ?_
 rintro e w2 ⟨A2,c2,rfl,bH,af⟩
 have hr2:=Reads.of_own bH
 rw[HL.out] at hr2 bH⊢
 have hB2:Below w.heap.size w w2:=hB1.trans (af.mono (by omega))
 clear bH af
 go_wp2_with fail
 refine(nQ 0 (by omega) _ _ _ _ _ tb hr2 (by omega) ha).mono ?_
 rintro e w' ⟨rfl,rfl⟩
 rw[HT.out]
 go_wp2_with fail
 go_ret
 exact⟨rfl,hB2⟩
def cF (k v n:Nat):List Nat:=[103,111,105,116]++be k 1++be v 1++be n 2
def df (k v:Nat)(l:List Nat):List Nat:=cF k v l.length++be (bV (cF k v l.length)) 4++be (bV l) 4++l
theorem gZ (k v n:Nat):(cF k v n).length=8:=by simp[cF,be_length]
theorem lS (k v n:Nat):ay (cF k v n):=bY (bY (bY (by intro x hx;simp at hx;omega) (bZ _ _)) (bZ _ _)) (bZ _ _)
theorem fO (k v:Nat)(l:List Nat):(df k v l).length=l.length + 16:=by simp[df,be_length,gZ];omega
theorem kC (k v:Nat){l:List Nat}(h:ay l):ay (df k v l):=bY (bY (bY (lS _ _ _) (bZ _ _)) (bZ _ _)) h
theorem run_convert_bytes_const_at {P:Program}(w:World)(t e:TypeId)(C:Array Value)(n c g:Nat)(hg:g=w.heap.size)(ht:P.underlying t=some (.slice e))(he:P.underlying e=some (.int .u8)):
  (convert t t (G (some ⟨g,0,none⟩) n c)).run P (w.alloc (.cells C e))=.ok (G (some ⟨g,0,none⟩) n c) (w.alloc (.cells C e (C.size,C.size + 1))):=by
 subst hg;exact Lib.run_convert_bytes_const w t e C n c ht he
theorem iY {w:World}{aa base' size n:Nat}{e:TypeId}{v:Value}{xs:List Value}(h:w.ownsRow aa e size v n xs)(hb:base'≤aa):w.ownsRow base' e size v n xs:=
 ⟨h.1,h.2.elim Or.inl (fun⟨g,cap,cur,hv,hg,r⟩=>Or.inr ⟨g,cap,cur,hv,nT hb hg,r⟩)⟩
theorem ri (k v:Nat)(l:List Nat)(A:Option Addr)(n c B:Nat)(w:World)(hk:k≤255)(hv:v≤255)(hn:n≤4096)(hr:Reads w B 1 A n (bv l))(hB:B≤w.heap.size)(ha:ay l):
  Calls Pg 238 #[aG #[X Y k,X Y v,G A n c]] w fun e w'=>∃A' c',e=rT (tU #[G A' (n + 16) c',X Y 0])∧w'.ownsRow w.heap.size 5 1 (G A' (n + 16) c') (n + 16) (bv (df k v l))∧Below w.heap.size w w':=by
 have hln:l.length=n:=by have:=hr.length;omega
 obtain⟨q,hq⟩:∃q,q=w.heap.size:=⟨_,rfl⟩
 have hbl:=(bR w.heap.size w).alloc (nR _) (cL #[X Y k,X Y v,G A n c] 284)
 have hb:=ab.new w 284 #[X Y k,X Y v,G A n c]
 have hsz:(w.alloc (cL #[X Y k,X Y v,G A n c] 284)).heap.size=q + 1:=by rw[hq];simp
 rw[←hq] at hbl hb
 have hr1:=hr.alloc hB (cL #[X Y k,X Y v,G A n c] 284)
 have d1:decide ((k:Int) < 0)=false:=decide_eq_false (by omega)
 have d2:decide ((255:Int) < (k:Int))=false:=decide_eq_false (by omega)
 have d3:decide ((v:Int) < 0)=false:=decide_eq_false (by omega)
 have d4:decide ((255:Int) < (v:Int))=false:=decide_eq_false (by omega)
 have d5:decide ((4096:Int) < (n:Int))=false:=decide_eq_false (by omega)
 obtain⟨c0,c1,c2⟩:=hb.c3
 have hqB:B≤q:=by omega
 have HQ:=jH hq
 have kc:=run_convert_bytes_const_at (P:=Pg) ((w.alloc (cL #[X Y k,X Y v,G A n c] 284)).alloc (cL #[G none 0 0] 251)) 23 5 #[X .u8 103,X .u8 111,X .u8 105,X .u8 116] 4 4 (w.heap.size + 1 + 1) (by simp) underlying23 underlying5
 have H:=jH (aI hb (aI hbl hr1))
 clear hb hbl hr1 hr hB
 go_enter func238,ntmps238
 go_wp2_with fail
 rw[←hq] at kc⊢
 generalize w.alloc (cL #[X Y k,X Y v,G A n c] 284)=w1 at *
 clear kc hq
 have ae:=H.out.1
 have hwb:bh (w1.alloc (cL #[G none 0 0] 251)) (q + 1) (q + 1) []:=⟨nR _,none,0,by have:=ab.new w1 251 #[G none 0 0];rw[hsz] at this;exact this,rfl,.inl ⟨rfl,rfl⟩⟩
 have aA:Below (q + 1) w1 (w1.alloc (cL #[G none 0 0] 251)):=by have:=(bR w1.heap.size w1).alloc (nR _) (cL #[G none 0 0] 251);rw[hsz] at this;exact this
 have hs2:(w1.alloc (cL #[G none 0 0] 251)).heap.size=q + 2:=by simp[hsz]
 generalize w1.alloc (cL #[G none 0 0] 251)=w2 at *
 have hb23:=(bR w2.heap.size w2).alloc (nR _) (cL #[X .u8 103,X .u8 111,X .u8 105,X .u8 116] 5 (4,5))
 have hwb3:=hwb.below hb23
 have hr3:Reads (w2.alloc (cL #[X .u8 103,X .u8 111,X .u8 105,X .u8 116] 5 (4,5))) (q + 3) 1 (some ⟨q + 1 + 1,0,none⟩) 4 (bv [103,111,105,116]):=dQ _ _ _ _ 4 _ _ (by rfl) (by omega) (by omega) _ (by simp[bv])
 have hs3:(w2.alloc (cL #[X .u8 103,X .u8 111,X .u8 105,X .u8 116] 5 (4,5))).heap.size=q + 3:=by simp[hs2]
 have hb13:Below (q + 1) w1 (w2.alloc (cL #[X .u8 103,X .u8 111,X .u8 105,X .u8 116] 5 (4,5))):=aA.trans (hb23.mono (by omega))
 generalize w2.alloc (cL #[X .u8 103,X .u8 111,X .u8 105,X .u8 116] 5 (4,5))=w3 at *
 have C1:=rh (q + 1) (q + 1) (q + 3) (some ⟨q + 1 + 1,0,none⟩) 4 4 [103,111,105,116] [] w3 (by simp) hwb3 (by omega) hr3
 refine C1.mono ?_
 rintro e w4 ⟨rfl,hwb4,hb34⟩
 rw[List.nil_append] at hwb4
 have hb14:=hb13.trans hb34
 have HF4:=ae.below hb14 (by omega)
 obtain⟨c0,c1,c2⟩:=HF4.c3
 have hs4:=hb34.size
 clear C1 hr3 hb23 hwb3 hb13 aA hwb hs2
 have C2:=jH (mE (q + 1) (q + 1) (k:Int) _ w4 (by simp) hwb4 (by omega))
 rw[fF k (by omega)] at C2
 go_wp2_with fail
 refine C2.out.mono ?_
 rintro e w5 ⟨rfl,hwb5,hb45⟩
 have hs5:=hb45.size
 have hb15:=hb14.trans hb45
 clear C2 hwb4 hb14 hb34 hb45 HF4 c0 c1 c2
 have HF5:=ae.below hb15 (by omega)
 obtain⟨-,c1⟩:=HF5.c2
 have C3:=jH (mE (q + 1) (q + 1) (v:Int) _ w5 (by simp[be_length]) hwb5 (by omega))
 rw[fF v (by omega)] at C3
 go_wp2_with fail
 refine C3.out.mono ?_
 rintro e w6 ⟨rfl,hwb6,hb56⟩
 have hs6:=hb56.size
 have hb16:=hb15.trans hb56
 clear C3 hwb5 hb15 hb56 HF5 c1
 have HF6:=ae.below hb16 (by omega)
 obtain⟨-,-,c2⟩:=HF6.c3
 have C4:=jH (iW (q + 1) (q + 1) (n:Int) _ w6 (by simp[be_length]) hwb6 (by omega))
 rw[fF n (by omega),show [103,111,105,116]++be k 1++be v 1++be n 2=cF k v n from rfl] at C4
 go_wp2_with fail
 refine C4.out.mono ?_
 rintro e w7 ⟨rfl,hwb7,hb67⟩
 have hs7:=hb67.size
 have hb17:=hb16.trans hb67
 clear C4 hwb6 hb16 hb67 HF6 c2
 have C5:=jH (ia (q + 1) (q + 1) _ w7 hwb7 (by rw[gZ];omega))
 go_wp2_with fail
 refine C5.out.mono ?_
 rintro e w8 ⟨A8,c8,rfl,hown8,hb78⟩
 have hwb8:=hwb7.below hb78
 have hs8:=hb78.size
 have C6:=jH (lW w8 w8.heap.size A8 _ c8 _ (Reads.of_own hown8) (by rw[gZ];omega) (lS k v n))
 have hb18:=hb17.trans (hb78.mono (by omega))
 clear C5 hwb7 hown8 hb17 hb78
 go_wp2_with fail
 refine C6.out.mono ?_
 rintro e w9 ⟨rfl,rfl⟩
 clear C6
 have hcl:∀m:List Nat,ay m→bV m < 4294967296:=fun m hm=>by unfold bV;omega
 have C7:=jH (jm (q + 1) (q + 1) (bV (cF k v n)) _ w8 (hcl _ (lS _ _ _)) (by rw[gZ];omega) hwb8 (by omega))
 go_wp2_with fail
 refine C7.out.mono ?_
 rintro e w9 ⟨rfl,hwb9,hb89⟩
 have hs9:=hb89.size
 have hb19:=hb18.trans hb89
 clear C7 hwb8 hb18 hb89
 have HF9:=ae.below hb19 (by omega)
 obtain⟨-,-,c2⟩:=HF9.c3
 have hr9:=H.out.2.2.below (hb19.mono (by omega))
 have C8:=jH (lW w9 B A n c l hr9 (by omega) ha)
 go_wp2_with fail
 refine C8.out.mono ?_
 rintro e w10 ⟨rfl,rfl⟩
 have C9:=jH (jm (q + 1) (q + 1) (bV l) _ w9 (hcl _ ha) (by rw[List.length_append,be_length,gZ];omega) hwb9 (by omega))
 clear C8 hr9 HF9 c2
 go_wp2_with fail
 refine C9.out.mono ?_
 rintro e w10 ⟨rfl,hwb10,hb910⟩
 have hs10:=hb910.size
 have hb110:=hb19.trans hb910
 clear C9 hwb9 hb19 hb910
 have HF10:=ae.below hb110 (by omega)
 obtain⟨-,-,c2⟩:=HF10.c3
 have hr10:=H.out.2.2.below (hb110.mono (by omega))
 have hfb:cF k v n++be (bV (cF k v n)) 4++be (bV l) 4++l=df k v l:=by unfold df;rw[hln]
 have C10:=jH (rh (q + 1) (q + 1) B A n c l _ w10 (by simp only[List.length_append,be_length,gZ];omega) hwb10 (by omega) hr10)
 rw[hfb] at C10
 go_wp2_with fail
 refine C10.out.mono ?_
 rintro e w11 ⟨rfl,hwb11,hb1011⟩
 have hs11:=hb1011.size
 have hb111:=hb110.trans hb1011
 clear C10 hwb10 hb110 hb1011 HF10 c2 hr10
 have C11:=jH (ia (q + 1) (q + 1) _ w11 hwb11 (by rw[fO];omega))
 have hfl:(df k v l).length=n + 16:=by rw[fO,hln]
 rw[hfl] at C11
 go_wp2_with fail
 refine C11.out.mono ?_
 rintro e w12 ⟨A12,c12,rfl,hown12,hb1112⟩
 have hB0:w.heap.size≤w11.heap.size:=by have:=HQ.out;omega
 have HE:=jH (aI (iY hown12 hB0) ((H.out.2.1.trans (hb111.mono (by omega))).trans (hb1112.mono (by omega))))
 clear C11 hwb11 hb111 hown12 hb1112
 go_wp2_with fail
 go_ret2
 exact⟨A12,c12,rfl,HE.out.1,HQ.out▸HE.out.2⟩
def dx (l:List Nat):List Nat:=l.flatMap fun x=>be x 4
theorem jx (l:List Nat):(dx l).length=l.length * 4:=by
 induction l with
 |nil=>rfl
 |cons x r ih=>rw[show dx (x::r)=be x 4++dx r from rfl,List.length_append,be_length,ih,List.length_cons];omega
theorem j0 (l:List Nat):ay (dx l):=fun x hx=>by
 obtain⟨y,_,hy⟩:=List.mem_flatMap.1 hx
 exact bZ _ _ x hy
theorem xc (l:List Nat)(k:Nat)(h:k < l.length):dx (l.take (k + 1))=dx (l.take k)++be l[k] 4:=by
 unfold dx
 rw[List.take_succ_eq_append_getElem h,List.flatMap_append]
 simp only[List.flatMap_cons,List.flatMap_nil,List.append_nil]
def fX (nx:Nat)(l:List Nat):List Nat:=be nx 4++be l.length 2++dx l
def ck (V nx:Nat)(l:List Nat):List Nat:=df 100 V (fX nx l)
theorem ir (nx:Nat)(l:List Nat):(fX nx l).length=6 + l.length * 4:=by simp[fX,be_length,jx];omega
theorem oa (nx:Nat)(l:List Nat):ay (fX nx l):=bY (bY (bZ _ _) (bZ _ _)) (j0 _)
theorem zw (V nx:Nat)(l:List Nat)(A:Option Addr)(n c B:Nat)(w:World)(ho:gQ V nx l)(hr:Reads w B 1 A n (nv l))(hB:B≤w.heap.size):
  Calls Pg 278 #[aG #[X Y V,X Y nx,G A n c]] w fun e w'=>∃A' c',e=rT (tU #[G A' (ck V nx l).length c',X Y 0])∧w'.ownsRow w.heap.size 5 1 (G A' (ck V nx l).length c') (ck V nx l).length (bv (ck V nx l))∧Below w.heap.size w w':=by
 have hln:l.length=n:=by have:=hr.1;rw[lG] at this;omega
 have hML:(ck V nx l).length=n * 4 + 6 + 16:=by unfold ck;rw[fO,ir,hln];omega
 rw[hML]
 obtain⟨v1,v3,l1,l64,n1,n2,inc⟩:=id ho
 obtain⟨q,hq⟩:∃q,q=w.heap.size:=⟨_,rfl⟩
 have hbl:=(bR w.heap.size w).alloc (nR _) (cL #[X Y V,X Y nx,G A n c] 259)
 have hb:=ab.new w 259 #[X Y V,X Y nx,G A n c]
 have hsz:(w.alloc (cL #[X Y V,X Y nx,G A n c] 259)).heap.size=q + 1:=by rw[hq];simp
 rw[←hq] at hbl hb
 have hr1:=hr.alloc hB (cL #[X Y V,X Y nx,G A n c] 259)
 obtain⟨c0,c1,c2⟩:=hb.c3
 have hqB:B≤q:=by omega
 have CM:=jH (rO V nx l A n c B _ ho hr1 (by rw[hsz];omega))
 have HQ:=jH hq
 have H:=jH (aI hb (aI hbl hr1))
 clear hb hbl hr1 hr hB ho hML
 go_enter func278,ntmps278
 go_wp2_with fail
 rw[←hq]
 generalize w.alloc (cL #[X Y V,X Y nx,G A n c] 259)=w1 at *
 refine CM.out.mono ?_
 rintro e w2 ⟨rfl,hb12⟩
 clear CM c0 c1 c2 hq
 have hs2:=hb12.size
 obtain⟨p,hp⟩:∃p,p=w2.heap.size:=⟨_,rfl⟩
 have hb1p:Below (q + 1) w1 (w2.alloc (cL #[G none 0 0] 251)):=(hb12.mono (by omega)).trans ((bR w2.heap.size w2).alloc (nR _) (cL #[G none 0 0] 251) |>.mono (by omega))
 have hwb:bh (w2.alloc (cL #[G none 0 0] 251)) p p []:=⟨nR _,none,0,hp▸ab.new w2 251 #[G none 0 0],rfl,.inl ⟨rfl,rfl⟩⟩
 have hs3:(w2.alloc (cL #[G none 0 0] 251)).heap.size=p + 1:=by simp[hp]
 have hpq:q + 1≤p:=by omega
 have C1:=jH (jm p p nx [] _ (by omega) (by simp) hwb (by omega))
 have al:=H.out.1.below hb1p (by omega)
 obtain⟨-,c1⟩:=al.c2
 have ew:IntKind.u32.wrap (nx:Int)=(nx:Int):=by rw[IntKind.wrap_u32'];omega
 go_wp2_with fail
 rw[←hp]
 generalize w2.alloc (cL #[G none 0 0] 251)=w3 at *
 refine C1.out.mono ?_
 rintro e w4 ⟨rfl,hwb4,hb34⟩
 have hb14:=hb1p.trans (hb34.mono hpq)
 have hs4:=hb34.size
 rw[List.nil_append] at hwb4
 have C2:=jH (iW p p (n:Int) _ w4 (by simp[be_length]) hwb4 (by omega))
 rw[fF n (by omega)] at C2
 clear C1 hb1p hwb al c1 ew hb34 hb12 hp
 have aq:=H.out.1.below hb14 (by omega)
 obtain⟨-,-,c2⟩:=aq.c3
 go_wp2_with fail
 refine C2.out.mono ?_
 rintro e w5 ⟨rfl,hwb5,hb45⟩
 have hb15:=hb14.trans (hb45.mono hpq)
 have hs5:=hb45.size
 clear C2 hwb4 hb14 aq c2 hb45
 have aK:=H.out.1.below hb15 (by omega)
 obtain⟨-,-,c2⟩:=aK.c3
 go_wp2_with fail
 go_loopw [25] (fun i wr=>∃k:Nat,k≤n∧i=X Y k∧bh wr p p (be nx 4++be n 2++dx (l.take k))∧Below (q + 1) w1 wr∧p < wr.heap.size) (fun i _=>n - (intOf i).toNat)
 case atStart=>exact⟨0,by omega,rfl,by simpa [dx] using hwb5,hb15,by omega⟩
 case round=>
  obtain⟨k,hk,rfl,hwr,hbr,hpr⟩:=hrel
  clear c2 hwb5 aK
  by_cases hkn:k < n
  ·obtain⟨b,off,hl,rfl,hbB,hcell⟩:=nG (H.out.2.2.below (hbr.mono (by omega))) hkn
   have au:l[k] < 1000000:=by have:=(inc k hl).2;omega
   have HT:Hid (be nx 4++be n 2++dx (l.take (k + 1))=(be nx 4++be n 2++dx (l.take k))++be l[k] 4):=by show _=_;rw[xc l k hl,List.append_assoc _ (dx _)]
   have ax:(be nx 4++be n 2++dx (l.take k)).length≤1099511627776:=by simp only[List.length_append,be_length,jx,List.length_take];omega
   generalize be nx 4++be n 2++dx (l.take k)=m at *
   generalize l[k]=x at *
   have ew:IntKind.u32.wrap (x:Int)=(x:Int):=by rw[IntKind.wrap_u32'];omega
   have CU:=jH (jm p p x m wr (by omega) ax hwr (by omega))
   have e3:decide ((k:Int) < (n:Int))=true:=decide_eq_true (by omega)
   clear hwr
   go_wp2_with fail
   refine CU.out.mono ?_
   rintro e w6 ⟨rfl,hwb6,hb6⟩
   have hs6:=hb6.size
   have HE:=jH (aI hwb6 (hbr.trans (hb6.mono hpq)))
   clear hwb6 hb6 hbr CU
   go_wp2_with fail
   go_roundw
   case rel=>exact⟨k + 1,by omega,by go_num,by rw[HT.out];exact HE.out.1,HE.out.2,by omega⟩
   case measure=>simp[intOf];omega
  ·have hkk:k=n:=by omega
   have e3:decide ((n:Int) < (n:Int))=false:=decide_eq_false (by omega)
   subst hkk
   rw[List.take_of_length_le (by omega),←hln,show be nx 4++be l.length 2++dx l=fX nx l from rfl] at hwr
   have hbk:=H.out.1.below hbr (by omega)
   have d0:=hbk.c1
   have hbd:=(hbr.drew)
   have CB:=jH (ia p p (fX nx l) wr.drew (hwr.below (bR _ _).drew) (by rw[ir];omega))
   rw[ir,hln] at CB
   have d0':wr.drew.cell? ⟨q,0,none⟩=some (X Y V):=d0
   have hbk':Hid (ab wr.drew q 259 #[X Y V,X Y nx,G A k c]):=hbk
   have hlw:q < wr.drew.heap.size:=hbk.lt
   clear hbk hwr
   go_wp2_with fail
   go_region_held3 (fun wS=>wS.cell? ⟨q,0,none⟩=some (X Y V)) (first|with_reducible exact d0'|with_reducible exact e0|with_reducible exact g0|fail)
    (first
     |(go_at_call 163;(with_reducible refine CB.out.mono ?_);rintro e w7 ⟨A7,c7,rfl,cT,hb7⟩;have e0:w7.cell? ⟨q,0,none⟩=some (X Y V):=by {have:=(hbk'.out.below hb7 hlw).cell 0;simpa using this};have CP:=ri 100 V (fX nx l) A7 (6 + k * 4) c7 w7.heap.size w7 (by omega) (by omega) (by omega) (Reads.of_own cT) (nR _) (oa _ _);rw[show ((100:Nat):Int)=100 from rfl] at CP)
     |(go_at_call 238;(with_reducible refine CP.mono ?_);rintro e w8 ⟨A8,c8,rfl,hown8,hb8⟩;have g0:w8.cell? ⟨q,0,none⟩=some (X Y V):=by {have:=((hbk'.out.below hb7 hlw).below hb8 (Nat.lt_of_lt_of_le hlw hb7.size)).cell 0;simpa using this}))
   all_goals
    go_wp2_with fail
    go_ret2
    have hB0:w.heap.size≤w7.heap.size:=by have:=HQ.out;have:=hb7.size;have:q < wr.heap.size:=hlw;omega
    refine⟨A8,c8,by rw[show k * 4 + 6 + 16=6 + k * 4 + 16 by omega];rfl,?_,?_⟩
    ·rw[show k * 4 + 6 + 16=6 + k * 4 + 16 by omega]
     exact iY hown8 hB0
    ·have h1:Below q w wr.drew:=(H.out.2.1.trans (hbr.mono (by omega))).drew
     rw[←HQ.out]
     exact(h1.trans (hb7.mono (Nat.le_of_lt hlw))).trans (hb8.mono (Nat.le_of_lt (Nat.lt_of_lt_of_le hlw hb7.size)))
def br (D:aF)(f:Nat)(p:bM):aF:={D.op with fs:=aw D.fs f ⟨p.b,p.b.length⟩}
theorem ju {D:aF}(h:D.fail=0){name:ByteArray}{f:Nat}{p:bM}(hm:av D.now name=some f)(hp:av D.fs f=some p):iF D name=(0,br D f p):=by
 unfold iF
 rw[oQ h hm]
 show ((0:Int),({D.op with fs:=aw D.op.fs f ⟨(fileOf D.op.fs f).b,(fileOf D.op.fs f).b.length⟩}:aF))=_
 rw[show fileOf D.op.fs f=p from jf hp]
 rfl
def hZ (D:aF)(f:Nat)(b:List Nat):aF:=gI (br (cY D (⟨#[109,46,110,101,119]⟩:ByteArray) f b) f ⟨b,0⟩).op ⟨2,(⟨#[109,46,110,101,119]⟩:ByteArray),(⟨#[109]⟩:ByteArray),none⟩
theorem lT:fJ (⟨#[109,46,110,101,119]⟩:ByteArray)=true:=by decide
theorem sE:fJ (⟨#[109]⟩:ByteArray)=true:=by decide
theorem BQ:(ByteArray.toList (⟨#[109,46,110,101,119]⟩:ByteArray)==ByteArray.toList (⟨#[109]⟩:ByteArray))=false:=by kernel_rfl
theorem DJ (aa d mn ms:Nat)(D:aF)(bx:Nat)(w:World)(hx:ab w bx 63 #[PT (some ⟨d,0,none⟩)])(h:ar w aa d mn ms D)(hm:av D.now (⟨#[109,46,110,101,119]⟩:ByteArray)=none):
  Calls Pg 279 #[PT (some ⟨bx,0,none⟩)] w fun e w'=>e=rT (X Y 0)∧Below w.heap.size w w':=by
 have CC:=jH (tH aa d mn ms D (⟨#[109,46,110,101,119]⟩:ByteArray) w h (fe lT) hm)
 have c0:=hx.c1
 clear h hm hx
 go_enter func279,ntmps279
 go_wp2_with fail
 refine CC.out.mono ?_
 rintro e w1 ⟨rfl,hb⟩
 go_wp2_with fail
 go_ret
 exact⟨rfl,hb⟩
theorem DI (aa base2 d mn ms:Nat)(D:aF)(bx bn:Nat)(A:Option Addr)(n c:Nat)(l:List Nat)(w:World)(hx:ab w bx 63 #[PT (some ⟨d,0,none⟩)])(hy:ab w bn 23 #[G A n c])(h:ar w aa d mn ms D)(aP:D.ops≤900000000000)(bo:D.fail=0)(aV:D.now.length≤100000)
  (hcl:D.chg.length≤1000000)(hm:av D.now (⟨#[109,46,110,101,119]⟩:ByteArray)=none)(hsrc:w.ownsRow base2 5 1 (G A n c) n (bv l))(hlb:ay l)(cy:db D none n=true):
  Calls Pg 280 #[PT (some ⟨bx,0,none⟩),PT (some ⟨bn,0,none⟩)] w fun e w'=>e=rT (X Y 0)∧(∃f,f∉aU D.fs∧ar w' aa d mn ms (cY D (⟨#[109,46,110,101,119]⟩:ByteArray) f l))∧Fr KN [mn] aa w w':=by
 have CC:=jH (uj aa base2 d mn ms D (⟨#[109,46,110,101,119]⟩:ByteArray) A n c l w h aP bo lT aV hcl hm hsrc hlb cy)
 have c0:=hx.c1
 have c1:=hy.c1
 clear h hm hx hy hsrc
 go_enter func280,ntmps280
 go_wp2_with fail
 refine CC.out.mono ?_
 rintro e w1 ⟨rfl,hD,hf⟩
 have H:=jH (aI hD hf)
 clear hD hf
 go_wp2_with fail
 go_ret
 exact⟨rfl,H.out.1,H.out.2⟩
theorem DH (aa d mn ms:Nat)(D:aF)(bx f:Nat)(p:bM)(w:World)(hx:ab w bx 63 #[PT (some ⟨d,0,none⟩)])(h:ar w aa d mn ms D)(aP:D.ops≤900000000000)(bo:D.fail=0)(hm:av D.now (⟨#[109,46,110,101,119]⟩:ByteArray)=some f)(hp:av D.fs f=some p):
  Calls Pg 281 #[PT (some ⟨bx,0,none⟩)] w fun e w'=>e=rT (X Y 0)∧ar w' aa d mn ms (br D f p)∧Fr KN [mn] aa w w':=by
 have CC:=jH (jt aa d mn ms D (⟨#[109,46,110,101,119]⟩:ByteArray) w h aP (fe lT))
 rw[ju bo hm hp] at CC
 dsimp only at CC
 have c0:=hx.c1
 clear h hm hx hp
 go_enter func281,ntmps281
 go_wp2_with fail
 refine CC.out.mono ?_
 rintro e w1 ⟨rfl,hD,hf⟩
 have H:=jH (aI hD hf)
 clear hD hf
 go_wp2_with fail
 go_ret
 exact⟨rfl,H.out.1,H.out.2.mono (by decide) (by simp)⟩
theorem DG (aa d mn ms:Nat)(D:aF)(bx f:Nat)(w:World)(hx:ab w bx 63 #[PT (some ⟨d,0,none⟩)])(h:ar w aa d mn ms D)(aP:D.ops≤900000000000)(bo:D.fail=0)(hcl:D.chg.length≤1000000)(hm:av D.now (⟨#[109,46,110,101,119]⟩:ByteArray)=some f):
  Calls Pg 282 #[PT (some ⟨bx,0,none⟩)] w fun e w'=>e=rT (X Y 0)∧ar w' aa d mn ms (gI D.op ⟨2,(⟨#[109,46,110,101,119]⟩:ByteArray),(⟨#[109]⟩:ByteArray),none⟩)∧Fr KN [mn] aa w w':=by
 have CC:=jH (xK aa d mn ms D (⟨#[109,46,110,101,119]⟩:ByteArray) (⟨#[109]⟩:ByteArray) w h aP bo (fe lT) sE BQ hcl f hm)
 have c0:=hx.c1
 clear h hm hx
 go_enter func282,ntmps282
 go_wp2_with fail
 refine CC.out.mono ?_
 rintro e w1 ⟨rfl,hD,hf⟩
 have H:=jH (aI hD hf)
 clear hD hf
 go_wp2_with fail
 go_ret
 exact⟨rfl,H.out.1,H.out.2.mono (by decide) (by simp)⟩
theorem rJ (D:aF)(name:ByteArray)(f:Nat)(l:List Nat):(cY D name f l).now=aw D.now name f:=rfl
theorem yY (D:aF)(name:ByteArray)(f:Nat)(l:List Nat):(cY D name f l).fs=aw D.fs f ⟨l,0⟩:=rfl
theorem tF (aa d mn ms:Nat)(D:aF)(V nx:Nat)(l:List Nat)(A:Option Addr)(n c B:Nat)(w:World)(h:ar w aa d mn ms D)(aP:D.ops≤800000000000)(bo:D.fail=0)(aV:D.now.length≤90000)
  (hcl:D.chg.length≤900000)(hm:av D.now (⟨#[109,46,110,101,119]⟩:ByteArray)=none)(ho:gQ V nx l)(hr:Reads w B 1 A n (nv l))(hB:B≤w.heap.size)(cy:db D none (ck V nx l).length=true):
  Calls Pg 175 #[PT (some ⟨d,0,none⟩),aG #[X Y V,X Y nx,G A n c]] w fun e w'=>e=rT (tU #[bL true,X Y 0])∧
   (∃f ms',f∉aU D.fs∧w.heap.size≤ms'∧ar w' aa d mn ms' (eZ (hZ D f (ck V nx l))))∧Fr KN [mn] aa w w':=by
 have H:=jH h
 obtain⟨q,hq⟩:∃q,q=w.heap.size:=⟨_,rfl⟩
 have HQ:=jH hq
 have ao:=((bR w.heap.size w).alloc (nR _) (cL #[PT (some ⟨d,0,none⟩)] 63)).alloc (by simp) (cL #[X Y V,X Y nx,G A n c] 259)
 have hx0:=(ab.new w 63 #[PT (some ⟨d,0,none⟩)]).alloc (cL #[X Y V,X Y nx,G A n c] 259)
 have hr0:=(hr.alloc hB (cL #[PT (some ⟨d,0,none⟩)] 63)).alloc (by simp;omega) (cL #[X Y V,X Y nx,G A n c] 259)
 have hs0:((w.alloc (cL #[PT (some ⟨d,0,none⟩)] 63)).alloc (cL #[X Y V,X Y nx,G A n c] 259)).heap.size=q + 2:=by rw[hq];simp
 have CE:=jH (zw V nx l A n c B _ ho hr0 (by rw[hs0];omega))
 rw[←hq] at ao hx0
 have hall:ay (ck V nx l):=kC _ _ (oa _ _)
 clear h hr hr0
 generalize ck V nx l=mb at *
 go_enter func175,ntmps175
 go_wp2_with fail
 rw[←hq]
 clear hq
 generalize (w.alloc (cL #[PT (some ⟨d,0,none⟩)] 63)).alloc (cL #[X Y V,X Y nx,G A n c] 259)=w0 at *
 refine CE.out.mono ?_
 rintro e w1 ⟨A1,c1,rfl,aQ,ae⟩
 have hx1:=hx0.below ae (by omega)
 have hs1:=ae.size
 have bf:=ao.trans (ae.mono (by omega))
 have HX:=jH (aI hx1 (aI bf aQ))
 clear hx1 bf ao hx0 aQ CE
 go_wp2_with fail
 have hx2:=((HX.out.1.alloc (cL #[G A1 mb.length c1] 23)).alloc (cL #[.func (.func 279) #[] #[PT (some ⟨q,0,none⟩)],.func (.func 280) #[] #[PT (some ⟨q,0,none⟩),PT (some ⟨w1.heap.size,0,none⟩)],.func (.func 281) #[] #[PT (some ⟨q,0,none⟩)],.func (.func 282) #[] #[PT (some ⟨q,0,none⟩)]] 71))
 have hn2:=(ab.new w1 23 #[G A1 mb.length c1]).alloc (cL #[.func (.func 279) #[] #[PT (some ⟨q,0,none⟩)],.func (.func 280) #[] #[PT (some ⟨q,0,none⟩),PT (some ⟨w1.heap.size,0,none⟩)],.func (.func 281) #[] #[PT (some ⟨q,0,none⟩)],.func (.func 282) #[] #[PT (some ⟨q,0,none⟩)]] 71)
 have hg2:=ab.new (w1.alloc (cL #[G A1 mb.length c1] 23)) 71 #[.func (.func 279) #[] #[PT (some ⟨q,0,none⟩)],.func (.func 280) #[] #[PT (some ⟨q,0,none⟩),PT (some ⟨w1.heap.size,0,none⟩)],.func (.func 281) #[] #[PT (some ⟨q,0,none⟩)],.func (.func 282) #[] #[PT (some ⟨q,0,none⟩)]]
 have hbl12:=(((bR w1.heap.size w1).alloc (nR _) (cL #[G A1 mb.length c1] 23)).alloc (by simp) (cL #[.func (.func 279) #[] #[PT (some ⟨q,0,none⟩)],.func (.func 280) #[] #[PT (some ⟨q,0,none⟩),PT (some ⟨w1.heap.size,0,none⟩)],.func (.func 281) #[] #[PT (some ⟨q,0,none⟩)],.func (.func 282) #[] #[PT (some ⟨q,0,none⟩)]] 71))
 have bH:=aJ (hs0▸HX.out.2.2) hbl12
 have hbl2:=HX.out.2.1.trans (hbl12.mono (by omega))
 rw[show (w1.alloc (cL #[G A1 mb.length c1] 23)).heap.size=w1.heap.size + 1 by simp] at hg2
 generalize (w1.alloc (cL #[G A1 mb.length c1] 23)).alloc (cL #[.func (.func 279) #[] #[PT (some ⟨q,0,none⟩)],.func (.func 280) #[] #[PT (some ⟨q,0,none⟩),PT (some ⟨w1.heap.size,0,none⟩)],.func (.func 281) #[] #[PT (some ⟨q,0,none⟩)],.func (.func 282) #[] #[PT (some ⟨q,0,none⟩)]] 71)=w2 at *
 generalize w1.heap.size=k1 at *
 have hD2:ar w2 aa d mn ms D:=H.out.made (HQ.out▸hbl2)
 have hf02:Fr KN [mn] aa w w2:=Fr.of_below _ _ (HQ.out▸hbl2) H.out.hi
 refine(pt [(279,#[PT (some ⟨q,0,none⟩)]),(280,#[PT (some ⟨q,0,none⟩),PT (some ⟨k1,0,none⟩)]),(281,#[PT (some ⟨q,0,none⟩)]),(282,#[PT (some ⟨q,0,none⟩)])] (some ⟨k1 + 1,0,none⟩) 4 4 (k1 + 2)
  (fun i W=>Fr KN [mn] aa w2 W∧match i with
   |0=>ar W aa d mn ms D∧W.ownsRow (q + 2) 5 1 (G A1 mb.length c1) mb.length (bv mb)
   |1=>ar W aa d mn ms D∧W.ownsRow (q + 2) 5 1 (G A1 mb.length c1) mb.length (bv mb)
   |2=>∃f,f∉aU D.fs∧ar W aa d mn ms (cY D (⟨#[109,46,110,101,119]⟩:ByteArray) f mb)
   |3=>∃f,f∉aU D.fs∧ar W aa d mn ms (br (cY D (⟨#[109,46,110,101,119]⟩:ByteArray) f mb) f ⟨mb,0⟩)
   |_=>∃f,f∉aU D.fs∧ar W aa d mn ms (hZ D f mb)) w2 rfl (by omega)
  (fun p hp=>by
   rcases List.mem_cons.1 hp with rfl|hp
   ·exact enters_of func279 (by kernel_rfl) rfl
   ·rcases List.mem_cons.1 hp with rfl|hp
    ·exact enters_of func280 (by kernel_rfl) rfl
    ·rcases List.mem_cons.1 hp with rfl|hp
     ·exact enters_of func281 (by kernel_rfl) rfl
     ·rcases List.mem_cons.1 hp with rfl|hp
      ·exact enters_of func282 (by kernel_rfl) rfl
      ·cases hp)
  (fun i W hW=>gV (hW.1.blk _ _ _ hg2 (by decide)) rfl) ⟨Fr.refl _ _ _ _,hD2,bH⟩ ?_).mono ?_
 ·intro i hi W hW
  have hxW:=hW.1.blk _ _ _ hx2 (by decide)
  have hnW:=hW.1.blk _ _ _ hn2 (by decide)
  match i,hi,hW with
  |0,_,hW=>
   refine(DJ aa d mn ms D q W hxW hW.2.1 hm).mono ?_
   rintro e w' ⟨rfl,hb⟩
   exact⟨rfl,hW.1.made hb (ar.hi hW.2.1),ar.made hW.2.1 hb,aJ hW.2.2 hb⟩
  |1,_,hW=>
   refine(DI aa (q + 2) d mn ms D q k1 A1 mb.length c1 mb W hxW hnW hW.2.1 (by omega) bo (by omega) (by omega) hm hW.2.2 hall cy).mono ?_
   rintro e w' ⟨rfl,hD,hf⟩
   exact⟨rfl,hW.1.trans hf,hD⟩
  |2,_,hW=>
   obtain⟨f,hfk,hDf⟩:=hW.2
   refine(DH aa d mn ms (cY D (⟨#[109,46,110,101,119]⟩:ByteArray) f mb) q f ⟨mb,0⟩ W hxW hDf (by show D.ops + 1≤_;omega) bo (eP _ _ _) (eP _ _ _)).mono ?_
   rintro e w' ⟨rfl,hD,hf⟩
   exact⟨rfl,hW.1.trans hf,f,hfk,hD⟩
  |3,_,hW=>
   obtain⟨f,hfk,hDf⟩:=hW.2
   refine(DG aa d mn ms (br (cY D (⟨#[109,46,110,101,119]⟩:ByteArray) f mb) f ⟨mb,0⟩) q f W hxW hDf (by show D.ops + 1 + 1≤_;omega) bo (by show (D.chg++_).length≤_;simp;omega) (eP _ _ _)).mono ?_
   rintro e w' ⟨rfl,hD,hf⟩
   exact⟨rfl,hW.1.trans hf,f,hfk,hD⟩
 ·rintro e w3 ⟨rfl,hfw,f,hfk,hD3⟩
  have hx3:=hfw.blk _ _ _ hx2 (by decide)
  have c0:=hx3.c1
  have CS:=jH (qC aa d mn ms (hZ D f mb) w3 hD3 (by show D.ops + 1 + 1 + 1≤_;omega) bo)
  have hf03:=hf02.trans hfw
  have HE:=jH (aI hfk hf03)
  clear hD3 hfw hx2 hn2 hg2 hbl2 hD2 hf02 hx3 bH hbl12 hf03
  go_wp2_with fail
  refine CS.out.mono ?_
  rintro e w4 ⟨rfl,⟨ms',hms,hD4⟩,hf4⟩
  have HE2:=jH (aI hD4 (aI hms hf4))
  clear hD4 hms hf4
  go_wp2_with fail
  go_ret2
  exact⟨rfl,⟨f,ms',HE.out.1,nT HE.out.2.size HE2.out.2.1,HE2.out.1⟩,HE.out.2.trans (HE2.out.2.2.mono (by decide) (by simp))⟩
theorem DF (aa d mn ms:Nat)(D:aF)(V nx:Nat)(l:List Nat)(A:Option Addr)(n c B:Nat)(w:World)(h:ar w aa d mn ms D)(aP:D.ops≤800000000000)(bo:D.fail=0)(aV:D.now.length≤90000)
  (hcl:D.chg.length≤900000)(hm:av D.now (⟨#[109,46,110,101,119]⟩:ByteArray)=none)(ho:gQ V nx l)(hr:Reads w B 1 A n (nv l))(hB:B≤w.heap.size)(cy:db D none (ck V nx l).length=true):
  Calls Pg 175 #[PT (some ⟨d,0,none⟩),aG #[X Y V,X Y nx,G A n c]] w fun e w'=>e=rT (tU #[bL true,X Y 0])∧
   (∃f ms',f∉aU D.fs∧w.heap.size≤ms'∧ar w' aa d mn ms' (eZ (hZ D f (ck V nx l))))∧Fr KD [mn] aa w w':=
 (tF aa d mn ms D V nx l A n c B w h aP bo aV hcl hm ho hr hB cy).mono fun _ _ ⟨q1,q2,q3⟩=>⟨q1,q2,q3.mono (by decide) (fun _ hb=>hb)⟩
def iP (Q ops f1 f2:Nat)(L:List Nat)(s V:Nat):aF:=⟨Q,ops,0,[(aN 1,f1),((⟨#[109]⟩:ByteArray),f2)],[(aN 1,f1),((⟨#[109]⟩:ByteArray),f2)],[],[(f1,⟨L,s⟩),(f2,⟨ck V 2 [1],(ck V 2 [1]).length⟩)]⟩
def bQ (w:World)(aa lg d size V nx:Nat)(segs:List Nat)(loose:Bool):Prop:=
 aa≤lg∧∃A c,ab w lg 265 #[PT (some ⟨d,0,none⟩),X Y size,X Y V,X Y nx,G A segs.length c,.bool loose]∧w.ownsRow aa 3 1 (G A segs.length c) segs.length (nv segs)
theorem bQ.fr {w w':World}{aa base' lg d size V nx:Nat}{segs:List Nat}{loose:Bool}{K:List TypeId}{M:List Nat}(h:bQ w aa lg d size V nx segs loose)(hf:Fr K M base' w w')(h1:265∉K)(h2:3∉K):bQ w' aa lg d size V nx segs loose:=by
 obtain⟨h0,A,c,hb,ho⟩:=h
 exact⟨h0,A,c,hf.blk _ _ _ hb h1,hf.own ho h2⟩
theorem bQ.made {w w':World}{aa lg d size V nx:Nat}{segs:List Nat}{loose:Bool}(h:bQ w aa lg d size V nx segs loose)(hb:Below w.heap.size w w'):bQ w' aa lg d size V nx segs loose:=by
 obtain⟨h0,A,c,hk,ho⟩:=h
 exact⟨h0,A,c,hk.below hb hk.lt,aJ ho hb⟩
theorem qX:aN 1≠(⟨#[109,46,110,101,119]⟩:ByteArray):=by decide
theorem xf:aN 1≠(⟨#[109]⟩:ByteArray):=by decide
theorem BO:(⟨#[109,46,110,101,119]⟩:ByteArray)≠(⟨#[109]⟩:ByteArray):=by decide
theorem Dj (Q V f1 f2:Nat)(mb:List Nat)(hmb:mb=ck V 2 [1])(az:f2≠f1):
  eZ (hZ (br (cY ⟨Q,0,0,[],[],[],[]⟩ (aN 1) f1 []) f1 ⟨[],0⟩) f2 mb)=iP Q 6 f1 f2 [] 0 V:=by
 subst hmb
 have h1:=qX
 have h2:=xf
 have h3:=BO
 have hne':f1≠f2:=Ne.symm az
 simp[eZ,hZ,br,cY,gI,aF.op,iP,eV,aw,av,fM,h1,h2,h3,h1.symm,h2.symm,h3.symm,az,hne']
theorem qO (n:Nat)(w:World)(h1:16≤n)(h2:n≤1048576):Calls Pg 176 #[X Y n] w fun e w'=>e=rT (X Y n)∧w=w':=by
 have d1:min (n:Int) 1048576=(n:Int):=by omega
 have d2:max 16 (n:Int)=(n:Int):=by omega
 go_enter func176,ntmps176
 go_wp2_with fail
 go_ret
 exact⟨rfl,rfl⟩
theorem Dn (aa d mn ms Q bx:Nat)(w:World)(hx:ab w bx 63 #[PT (some ⟨d,0,none⟩)])(h:ar w aa d mn ms ⟨Q,0,0,[],[],[],[]⟩):
  Calls Pg 169 #[PT (some ⟨bx,0,none⟩)] w fun e w'=>e=rT (X Y 0)∧(∃f,ar w' aa d mn ms (cY ⟨Q,0,0,[],[],[],[]⟩ (aN 1) f []))∧Fr KD [mn] aa w w':=by
 have CC:=jH (Eu aa d mn ms ⟨Q,0,0,[],[],[],[]⟩ 1 w h (by simp) rfl (by omega) (by omega) (by simp) (by simp) rfl (by simp[db,dM,eI,iM]))
 rw[show ((1:Nat):Int)=1 from rfl] at CC
 have c0:=hx.c1
 clear h hx
 go_enter func169,ntmps169
 go_wp2_with fail
 refine CC.out.mono ?_
 rintro e w1 ⟨rfl,⟨f,hf0,hD⟩,hf⟩
 have H:=jH (aI hD hf)
 clear hD hf
 go_wp2_with fail
 go_ret
 exact⟨rfl,⟨f,H.out.1⟩,H.out.2⟩
theorem Dm (aa d mn ms bx f:Nat)(D:aF)(p:bM)(w:World)(hx:ab w bx 63 #[PT (some ⟨d,0,none⟩)])(h:ar w aa d mn ms D)(aP:D.ops≤900000000000)(bo:D.fail=0)(hm:av D.now (aN 1)=some f)(hp:av D.fs f=some p):
  Calls Pg 171 #[PT (some ⟨bx,0,none⟩)] w fun e w'=>e=rT (X Y 0)∧ar w' aa d mn ms (br D f p)∧Fr KD [mn] aa w w':=by
 have CN:=jH (kl 1 (by omega) (by omega) w.drew)
 rw[show ((1:Nat):Int)=1 from rfl] at CN
 have CS:=jH (fun W hW=>jt aa d mn ms D (aN 1) W hW aP (fe (fK 1)))
 rw[ju bo hm hp] at CS
 dsimp only at CS
 have c0:w.drew.cell? ⟨bx,0,none⟩=some (PT (some ⟨d,0,none⟩)):=by have:=hx.cell 0;simpa using this
 have H:=jH (aI hx h)
 clear h hm hx hp
 go_enter func171,ntmps171
 go_wp2_with fail
 go_region_held3 (fun wS=>wS.cell? ⟨bx,0,none⟩=some (PT (some ⟨d,0,none⟩))) (first|with_reducible exact c0|with_reducible exact e0|with_reducible exact g0|fail)
  (first
   |(go_at_call 173;(with_reducible refine CN.out.mono ?_);rintro e w1 ⟨rfl,ae⟩;have hx1:=H.out.1.drew.below ae H.out.1.lt;have e0:w1.cell? ⟨bx,0,none⟩=some (PT (some ⟨d,0,none⟩)):=by {have:=hx1.cell 0;simpa using this};have hD1:=H.out.2.drew.made ae)
   |(go_at_call 172;(with_reducible refine(CS.out _ hD1).mono ?_);rintro e w2 ⟨rfl,hD2,hf2⟩;have g0:w2.cell? ⟨bx,0,none⟩=some (PT (some ⟨d,0,none⟩)):=by {have:=(hf2.blk _ _ _ hx1 (by decide)).cell 0;simpa using this}))
 all_goals
  have HE:=jH (aI hD2 (((Fr.refl KD [mn] aa w).drew.made ae H.out.2.drew.hi).trans (hf2.mono (by decide) (by simp))))
  clear hD2 hf2 hD1 hx1 ae
  go_wp2_with fail
  go_ret
  exact⟨rfl,HE.out.1,HE.out.2⟩
theorem Dl (aa d mn ms bx bm:Nat)(D:aF)(V nx:Nat)(l:List Nat)(A:Option Addr)(n c:Nat)(w:World)(hx:ab w bx 63 #[PT (some ⟨d,0,none⟩)])(hbm:ab w bm 259 #[X Y V,X Y nx,G A n c])(h:ar w aa d mn ms D)(aP:D.ops≤800000000000)(bo:D.fail=0)(aV:D.now.length≤90000)
  (hcl:D.chg.length≤900000)(hm:av D.now (⟨#[109,46,110,101,119]⟩:ByteArray)=none)(ho:gQ V nx l)(hr:Reads w w.heap.size 1 A n (nv l))(cy:db D none (ck V nx l).length=true):
  Calls Pg 174 #[PT (some ⟨bx,0,none⟩),PT (some ⟨bm,0,none⟩)] w fun e w'=>e=rT (X Y 0)∧
   (∃f ms',f∉aU D.fs∧w.heap.size≤ms'∧ar w' aa d mn ms' (eZ (hZ D f (ck V nx l))))∧Fr KD [mn] aa w w':=by
 have CC:=jH (DF aa d mn ms D V nx l A n c w.heap.size w h aP bo aV hcl hm ho hr (nR _) cy)
 have c0:=hx.c1
 obtain⟨m0,m1,m2⟩:=hbm.c3
 clear h hm hx hbm ho hr cy
 go_enter func174,ntmps174
 go_wp2_with fail
 refine CC.out.mono ?_
 rintro e w1 ⟨rfl,hD,hf⟩
 have H:=jH (aI hD hf)
 clear hD hf
 go_wp2_with fail
 go_ret
 exact⟨rfl,H.out.1,H.out.2⟩
theorem Di (Q V f:Nat)(hQ:1000≤Q):db (br (cY ⟨Q,0,0,[],[],[],[]⟩ (aN 1) f []) f ⟨[],0⟩) none (ck V 2 [1]).length=true:=by
 have hl:(ck V 2 [1]).length=26:=by unfold ck;rw[fO,ir];rfl
 rw[hl]
 simp[db,br,cY,gI,aF.op,dM,eI,eV,aw,av,gd,iM]
 omega
theorem zm (V:Nat)(h1:1≤V)(h3:V≤3):gQ V 2 [1]:=⟨h1,h3,by simp,by simp,by omega,by omega,fun j hj=>by
 have:j=0:=by simp at hj;omega
 subst this
 simp[jz]⟩
theorem Dk (aa d mn ms Q V size:Nat)(w:World)(h:ar w aa d mn ms ⟨Q,0,0,[],[],[],[]⟩)(h1:1≤V)(h3:V≤3)(hs1:16≤size)(hs2:size≤1048576)(hQ:1000≤Q):
  Calls Pg 85 #[PT (some ⟨d,0,none⟩),X Y V,X Y size] w fun e w'=>∃lg ms' f1 f2,e=rT (tU #[PT (some ⟨lg,0,none⟩),X Y 0])∧f1≠f2∧w.heap.size≤ms'∧w.heap.size≤lg∧
   ar w' aa d mn ms' (iP Q 6 f1 f2 [] 0 V)∧bQ w' aa lg d size V 2 [1] false∧Fr KD [mn] aa w w':=by
 have H:=jH h
 obtain⟨q,hq⟩:∃q,q=w.heap.size:=⟨_,rfl⟩
 have HQ:=jH hq
 have ao:=(bR w.heap.size w).alloc (nR _) (cL #[PT (some ⟨d,0,none⟩)] 63)
 have hx0:=ab.new w 63 #[PT (some ⟨d,0,none⟩)]
 have hs0:(w.alloc (cL #[PT (some ⟨d,0,none⟩)] 63)).heap.size=q + 1:=by rw[hq];simp
 rw[←hq] at ao hx0
 have hD0:=h.made (HQ.out▸ao)
 have CT:=jH (qn aa d mn ms ⟨Q,0,0,[],[],[],[]⟩ (⟨#[109]⟩:ByteArray) _ hD0 (fe sE))
 rw[show (av (⟨Q,0,0,[],[],[],[]⟩:aF).now (⟨#[109]⟩:ByteArray)).isSome=false from rfl] at CT
 have c0:=hx0.c1
 have d1:decide ((V:Int) < 1)=false:=decide_eq_false (by omega)
 have d2:decide ((3:Int) < (V:Int))=false:=decide_eq_false (by omega)
 clear h
 go_enter func85,ntmps85
 go_wp2_with fail
 rw[←hq]
 clear hq
 generalize w.alloc (cL #[PT (some ⟨d,0,none⟩)] 63)=w0 at *
 refine CT.out.mono ?_
 rintro e w1 ⟨rfl,ae⟩
 have hx1:=hx0.below ae (by omega)
 have hsz1:=ae.size
 have bf:=ao.trans (ae.mono (by omega))
 have HX:=jH (aI hx1 bf)
 clear hx1 bf ao hx0 CT c0
 go_wp2_with fail
 have hx2:=(((HX.out.1.alloc (cL #[X Y 1] 3)).alloc (cL #[X Y V,X Y 2,G (some ⟨w1.heap.size,0,none⟩) 1 1] 259)).alloc (cL #[.func (.func 169) #[] #[PT (some ⟨q,0,none⟩)],.func (.func 171) #[] #[PT (some ⟨q,0,none⟩)],.func (.func 174) #[] #[PT (some ⟨q,0,none⟩),PT (some ⟨w1.heap.size + 1,0,none⟩)]] 71))
 have hi2:=((ab.new w1 3 #[X Y 1]).alloc (cL #[X Y V,X Y 2,G (some ⟨w1.heap.size,0,none⟩) 1 1] 259)).alloc (cL #[.func (.func 169) #[] #[PT (some ⟨q,0,none⟩)],.func (.func 171) #[] #[PT (some ⟨q,0,none⟩)],.func (.func 174) #[] #[PT (some ⟨q,0,none⟩),PT (some ⟨w1.heap.size + 1,0,none⟩)]] 71)
 have hm2:=(ab.new (w1.alloc (cL #[X Y 1] 3)) 259 #[X Y V,X Y 2,G (some ⟨w1.heap.size,0,none⟩) 1 1]).alloc (cL #[.func (.func 169) #[] #[PT (some ⟨q,0,none⟩)],.func (.func 171) #[] #[PT (some ⟨q,0,none⟩)],.func (.func 174) #[] #[PT (some ⟨q,0,none⟩),PT (some ⟨w1.heap.size + 1,0,none⟩)]] 71)
 have hg2:=ab.new ((w1.alloc (cL #[X Y 1] 3)).alloc (cL #[X Y V,X Y 2,G (some ⟨w1.heap.size,0,none⟩) 1 1] 259)) 71 #[.func (.func 169) #[] #[PT (some ⟨q,0,none⟩)],.func (.func 171) #[] #[PT (some ⟨q,0,none⟩)],.func (.func 174) #[] #[PT (some ⟨q,0,none⟩),PT (some ⟨w1.heap.size + 1,0,none⟩)]]
 have hbl12:=((((bR w1.heap.size w1).alloc (nR _) (cL #[X Y 1] 3)).alloc (by simp) (cL #[X Y V,X Y 2,G (some ⟨w1.heap.size,0,none⟩) 1 1] 259)).alloc (by simp;omega) (cL #[.func (.func 169) #[] #[PT (some ⟨q,0,none⟩)],.func (.func 171) #[] #[PT (some ⟨q,0,none⟩)],.func (.func 174) #[] #[PT (some ⟨q,0,none⟩),PT (some ⟨w1.heap.size + 1,0,none⟩)]] 71))
 have hbl2:=HX.out.2.trans (hbl12.mono (by omega))
 rw[show ((w1.alloc (cL #[X Y 1] 3)).alloc (cL #[X Y V,X Y 2,G (some ⟨w1.heap.size,0,none⟩) 1 1] 259)).heap.size=w1.heap.size + 2 by simp] at hg2
 rw[show (w1.alloc (cL #[X Y 1] 3)).heap.size=w1.heap.size + 1 by simp] at hm2
 generalize ((w1.alloc (cL #[X Y 1] 3)).alloc (cL #[X Y V,X Y 2,G (some ⟨w1.heap.size,0,none⟩) 1 1] 259)).alloc (cL #[.func (.func 169) #[] #[PT (some ⟨q,0,none⟩)],.func (.func 171) #[] #[PT (some ⟨q,0,none⟩)],.func (.func 174) #[] #[PT (some ⟨q,0,none⟩),PT (some ⟨w1.heap.size + 1,0,none⟩)]] 71)=w2 at *
 generalize w1.heap.size=k1 at *
 have hD2:ar w2 aa d mn ms ⟨Q,0,0,[],[],[],[]⟩:=H.out.made (HQ.out▸hbl2)
 have hf02:Fr KD [mn] aa w w2:=Fr.of_below _ _ (HQ.out▸hbl2) H.out.hi
 have an:aa≤q:=HQ.out▸H.out.hi
 have hrI:∀W,Fr KD [mn] aa w2 W→Reads W W.heap.size 1 (some ⟨k1,0,none⟩) 1 (nv [1]):=fun W hW=>(gV (hW.blk _ _ _ hi2 (by decide)) rfl).more (hW.blk _ _ _ hi2 (by decide)).lt
 refine(pt [(169,#[PT (some ⟨q,0,none⟩)]),(171,#[PT (some ⟨q,0,none⟩)]),(174,#[PT (some ⟨q,0,none⟩),PT (some ⟨k1 + 1,0,none⟩)])] (some ⟨k1 + 1 + 1,0,none⟩) 3 3 (k1 + 3)
  (fun i W=>Fr KD [mn] aa w2 W∧match i with
   |0=>ar W aa d mn ms ⟨Q,0,0,[],[],[],[]⟩
   |1=>∃f,ar W aa d mn ms (cY ⟨Q,0,0,[],[],[],[]⟩ (aN 1) f [])
   |2=>∃f,ar W aa d mn ms (br (cY ⟨Q,0,0,[],[],[],[]⟩ (aN 1) f []) f ⟨[],0⟩)
   |_=>∃f1 f2 ms',f1≠f2∧w2.heap.size≤ms'∧ar W aa d mn ms' (iP Q 6 f1 f2 [] 0 V)) w2 rfl (by omega)
  (fun p hp=>by
   rcases List.mem_cons.1 hp with rfl|hp
   ·exact enters_of func169 (by kernel_rfl) rfl
   ·rcases List.mem_cons.1 hp with rfl|hp
    ·exact enters_of func171 (by kernel_rfl) rfl
    ·rcases List.mem_cons.1 hp with rfl|hp
     ·exact enters_of func174 (by kernel_rfl) rfl
     ·cases hp)
  (fun i W hW=>gV (hW.1.blk _ _ _ hg2 (by decide)) rfl) ⟨Fr.refl _ _ _ _,hD2⟩ ?_).mono ?_
 ·intro i hi W hW
  have hxW:=hW.1.blk _ _ _ hx2 (by decide)
  have hmW:=hW.1.blk _ _ _ hm2 (by decide)
  match i,hi,hW with
  |0,_,hW=>
   refine(Dn aa d mn ms Q q W hxW hW.2).mono ?_
   rintro e w' ⟨rfl,hD,hf⟩
   exact⟨rfl,hW.1.trans hf,hD⟩
  |1,_,hW=>
   obtain⟨f,hDf⟩:=hW.2
   refine(Dm aa d mn ms q f (cY ⟨Q,0,0,[],[],[],[]⟩ (aN 1) f []) ⟨[],0⟩ W hxW hDf (by show 0 + 1≤_;omega) rfl (by show av (aw [] (aN 1) f) _=some f;exact eP _ _ _) (by show av (aw ([]:List (Nat×bM)) f ⟨[],0⟩) _=_;exact eP _ _ _)).mono ?_
   rintro e w' ⟨rfl,hD,hf⟩
   exact⟨rfl,hW.1.trans hf,f,hD⟩
  |2,_,hW=>
   obtain⟨f,hDf⟩:=hW.2
   refine(Dl aa d mn ms q (k1 + 1) (br (cY ⟨Q,0,0,[],[],[],[]⟩ (aN 1) f []) f ⟨[],0⟩) V 2 [1] (some ⟨k1,0,none⟩) 1 1 W hxW hmW hDf (by show 0 + 1 + 1≤_;omega) rfl (by show (aw [] _ _).length≤_;simp[aw]) (by show ([]++[_]:List et).length≤_;simp)
    (by show av (aw [] (aN 1) f) _=none;simp[av,aw,qX]) (zm V h1 h3) (hrI W hW.1) (Di Q V f hQ)).mono ?_
   rintro e w' ⟨rfl,⟨f2,ms',hf2,hms,hD⟩,hf⟩
   have az:f2≠f:=fun e=>hf2 (by rw[e];exact iq.2 (.inr rfl))
   rw[Dj Q V f f2 _ rfl az] at hD
   exact⟨rfl,hW.1.trans hf,f,f2,ms',az.symm,nT hW.1.size hms,hD⟩
 ·rintro e w3 ⟨rfl,hfw,f1,f2,ms',az,hms,hD3⟩
  have hx3:=hfw.blk _ _ _ hx2 (by decide)
  have hm3:=hfw.blk _ _ _ hm2 (by decide)
  have hi3:=hfw.blk _ _ _ hi2 (by decide)
  have c0:w3.drew.cell? ⟨q,0,none⟩=some (PT (some ⟨d,0,none⟩)):=by have:=hx3.cell 0;simpa using this
  have m0:w3.drew.cell? ⟨k1 + 1,0,none⟩=some (X Y V):=by have:=hm3.cell 0;simpa using this
  have m1:w3.drew.cell? ⟨k1 + 1,1,none⟩=some (X Y 2):=by have:=hm3.cell 1;simpa using this
  have m2:w3.drew.cell? ⟨k1 + 1,2,none⟩=some (G (some ⟨k1,0,none⟩) 1 1):=by have:=hm3.cell 2;simpa using this
  have sA:∀o,(w3.alloc o).drew.cell? ⟨q,0,none⟩=some (PT (some ⟨d,0,none⟩))∧(w3.alloc o).drew.cell? ⟨k1 + 1,0,none⟩=some (X Y V)∧(w3.alloc o).drew.cell? ⟨k1 + 1,1,none⟩=some (X Y 2)∧(w3.alloc o).drew.cell? ⟨k1 + 1,2,none⟩=some (G (some ⟨k1,0,none⟩) 1 1):=fun o=>
   ⟨by have:=(hx3.alloc o).cell 0;simpa using this,by have:=(hm3.alloc o).cell 0;simpa using this,by have:=(hm3.alloc o).cell 1;simpa using this,by have:=(hm3.alloc o).cell 2;simpa using this⟩
  have hsz:=hfw.size
  have hq2:q≤k1:=by have:=HX.out.1.lt;omega
  have hk2:=hi2.lt
  have HE:=jH (aI az (aI hms (aI hD3 (aI (hf02.trans hfw) hi3))))
  have CZ:=jH (qO size)
  clear hD3 hfw hx2 hi2 hm2 hg2 hbl2 hD2 hf02 hx3 hm3 hi3 hms hbl12 hrI az
  go_wp2_with fail
  go_region_held3 (fun wS=>wS.cell? ⟨q,0,none⟩=some (PT (some ⟨d,0,none⟩))∧wS.cell? ⟨k1 + 1,0,none⟩=some (X Y V)∧wS.cell? ⟨k1 + 1,1,none⟩=some (X Y 2)∧wS.cell? ⟨k1 + 1,2,none⟩=some (G (some ⟨k1,0,none⟩) 1 1)) (first|with_reducible exact⟨c0,m0,m1,m2⟩|with_reducible exact sA _|fail)
   (first|(go_at_call 176;(with_reducible refine(CZ.out _ hs1 hs2).mono ?_);rintro e w4 ⟨rfl,rfl⟩))
  all_goals
   go_wp2_with fail
   go_ret2
   obtain⟨az,hms,hD3,hf03,hi3⟩:=HE.out
   have hb34:=(((bR w3.heap.size w3).alloc (nR _) (cL #[PT (some ⟨d,0,none⟩),X Y size,X Y V,X Y 2,G (some ⟨k1,0,none⟩) 1 1,bL false] 265))).drew
   have hlk:=(ab.new w3 265 #[PT (some ⟨d,0,none⟩),X Y size,X Y V,X Y 2,G (some ⟨k1,0,none⟩) 1 1,bL false]).drew
   have hqw:=HQ.out
   refine⟨w3.heap.size,ms',f1,f2,rfl,az,by omega,by omega,hD3.made hb34,⟨by omega,some ⟨k1,0,none⟩,1,hlk,?_⟩,hf03.made hb34 hD3.hi⟩
   exact kr (cs:=#[X Y 1]) (hi3.below hb34 hi3.lt) (by omega) (by decide) rfl rfl
theorem qU (aa lg d size V nx:Nat)(segs:List Nat)(w:World)(h:bQ w aa lg d size V nx segs false):
  Calls Pg 228 #[PT (some ⟨lg,0,none⟩)] w fun e w'=>e=rT (X Y 0)∧w=w':=by
 obtain⟨-,A,c,hb,-⟩:=h
 have c5:=hb.cell 5
 simp only[ga,gz,gN] at c5
 clear hb
 go_enter func228,ntmps228
 go_wp2_with fail
 go_ret
 exact⟨rfl,rfl⟩
theorem zT (aa lg d size V nx:Nat)(segs:List Nat)(loose:Bool)(w:World)(h:bQ w aa lg d size V nx segs loose):
  Calls Pg 124 #[PT (some ⟨lg,0,none⟩)] w fun e w'=>e=rT (X Y V)∧w=w':=by
 obtain⟨-,A,c,hb,-⟩:=h
 obtain⟨-,-,c2⟩:=hb.c3
 clear hb
 go_enter func124,ntmps124
 go_wp2_with fail
 go_ret
 exact⟨rfl,rfl⟩
theorem Ce (aa lg d size V nx a b:Nat)(segs:List Nat)(loose:Bool)(w:World)(h:bQ w aa lg d size V nx segs loose)(ha:a≤2000000)(ao:b≤2000000):
  Calls Pg 332 #[PT (some ⟨lg,0,none⟩),X Y a,X Y b] w fun e w'=>e=rT (bL (decide (a=0∨a + b≤size)))∧w=w':=by
 obtain⟨-,A,c,hb,-⟩:=h
 obtain⟨-,c1⟩:=hb.c2
 clear hb
 by_cases h0:a=0
 ·subst h0
  have HR:Hid (decide (0=0∨0 + b≤size)=true):=by show _=_;simp
  obtain⟨r,hr⟩:∃r,decide (0=0∨0 + b≤size)=r:=⟨_,rfl⟩
  rw[hr] at HR⊢
  clear hr
  simp only[show ((0:Nat):Int)=0 from rfl]
  go_enter func332,ntmps332
  go_wp2_with fail
  go_ret
  exact⟨by rw[HR.out];rfl,rfl⟩
 ·have HR:Hid (decide (a=0∨a + b≤size)=decide ((a:Int) + (b:Int)≤(size:Int))):=by show _=_;apply decide_eq_decide.2;omega
  obtain⟨r,hr⟩:∃r,decide (a=0∨a + b≤size)=r:=⟨_,rfl⟩
  rw[hr] at HR⊢
  clear hr
  have e0:((a:Int)==0)=false:=by simp;omega
  have ew:IntKind.i64.wrap ((a:Int) + (b:Int))=(a:Int) + (b:Int):=by rw[IntWalk.i64_in _ (by omega)]
  go_enter func332,ntmps332
  go_wp2_with fail
  go_ret
  exact⟨by rw[HR.out];rfl,rfl⟩
theorem si (aa lg d mn ms size V nx f:Nat)(segs:List Nat)(loose:Bool)(D:aF)(p:bM)(name:ByteArray)(w:World)(h:bQ w aa lg d size V nx segs loose)(hD:ar w aa d mn ms D)(dv:aY name)(hm:av D.now name=some f)(hp:av D.fs f=some p):
  Calls Pg 193 #[PT (some ⟨lg,0,none⟩),.string name] w fun e w'=>e=rT (X Y p.b.length)∧Below w.heap.size w w':=by
 obtain⟨-,A,c,hb,-⟩:=h
 have c0:=hb.c1
 have CR:=jH (kg aa d mn ms D name w hD dv)
 have hr:eM D name=some p.b:=by unfold eM;rw[hm,Option.map_some,jf hp]
 rw[hr] at CR
 generalize p.b=l at *
 clear hb hr hm hp hD
 go_enter func193,ntmps193
 go_wp2_with fail
 refine CR.out.mono ?_
 rintro e w1 ⟨⟨A1,c1,rfl,hown,-,-⟩,hb⟩
 clear hown
 go_wp2_with fail
 go_ret
 exact⟨rfl,hb⟩
theorem jd (aa lg d size V nx:Nat)(segs:List Nat)(loose:Bool)(x:Nat)(w:World)(h:bQ w aa lg d size V nx segs loose)(hl:segs.length≤64)(hx:segs.getLast? =some x)(h1:1≤x)(h2:x < 1000000):
  Calls Pg 194 #[PT (some ⟨lg,0,none⟩)] w fun e w'=>e=rT (.string (aN x))∧Below w.heap.size w w':=by
 obtain⟨-,A,c,hb,ho⟩:=h
 have az:0 < segs.length:=by
  cases segs with
  |nil=>cases hx
  |cons a r=>simp
 have au:segs.length - 1 < segs.length:=by omega
 have hxe:segs[segs.length - 1]=x:=by
  rw[List.getLast?_eq_getElem?] at hx
  have:=List.getElem?_eq_some_iff.1 hx
  exact this.2
 obtain⟨b,off,hl',rfl,hbB,hcell⟩:=nG (Reads.of_own ho) (j:=segs.length - 1) (by omega)
 rw[hxe] at hcell
 have CN:=jH (kl x h1 h2 w.drew)
 obtain⟨k,hk⟩:∃k,segs.length=k + 1:=⟨segs.length - 1,by omega⟩
 rw[hk] at hb hcell
 rw[show k + 1 - 1=k by omega] at hcell
 have ew:IntKind.i64.wrap (((k + 1:Nat):Int) - 1)=(k:Int):=by rw[IntWalk.i64_in _ (by omega)];omega
 have hkl:k < 64:=by omega
 have c4:w.drew.cell? ⟨lg,4,none⟩=some (G (some ⟨b,off,none⟩) (k + 1) c):=by have:=hb.cell 4;simpa using this
 have hcell':w.drew.cell? ⟨b,off + k,none⟩=some (X Y x):=hcell
 have hB:b < w.drew.heap.size:=hbB
 have hL:lg < w.drew.heap.size:=hb.lt
 obtain⟨n1,hn1⟩:∃n1,n1=k + 1:=⟨_,rfl⟩
 have hkn:k < n1:=by omega
 rw[←hn1] at ew c4
 have HN:=jH hn1
 clear hb ho hl' hcell hxe hx au hk hl az hn1
 go_enter func194,ntmps194
 go_wp2_with fail
 go_region_held3 (fun wS=>wS.cell? ⟨lg,4,none⟩=some (G (some ⟨b,off,none⟩) n1 c)∧wS.cell? ⟨b,off + k,none⟩=some (X Y x)) (first|with_reducible exact⟨c4,hcell'⟩|with_reducible exact e0|fail)
  (first|(go_at_call 173;(with_reducible refine CN.out.mono ?_);rintro e w1 ⟨rfl,ae⟩;have e0:w1.cell? ⟨lg,4,none⟩=some (G (some ⟨b,off,none⟩) n1 c)∧w1.cell? ⟨b,off + k,none⟩=some (X Y x):=⟨(ae.cell hL).trans c4,(ae.cell hB).trans hcell'⟩))
 all_goals
  go_wp2_with fail
  go_ret
  exact⟨rfl,(bR w.heap.size w).drew.trans ae⟩
structure Fl where
 k:Tu
 be:Nat
 gen:Nat
 seen:Nat
instance :DecidableEq Tu:=fun a b=>decidable_of_iff (a.src=b.src∧a.dst=b.dst∧a.proto=b.proto∧a.sport=b.sport∧a.dport=b.dport) (by
 obtain⟨a1,a2,a3,a4,a5⟩:=a
 obtain⟨b1,b2,b3,b4,b5⟩:=b
 simp)
instance :DecidableEq Fl:=fun a b=>decidable_of_iff (a.k=b.k∧a.be=b.be∧a.gen=b.gen∧a.seen=b.seen) (by
 obtain⟨a1,a2,a3,a4⟩:=a
 obtain⟨b1,b2,b3,b4⟩:=b
 simp)
def Fl.vals (f:Fl):Array Value:=#[X Z f.k.src,X Z f.k.dst,X Y f.k.proto,X Y f.k.sport,X Y f.k.dport,X Y f.be,X Y f.gen,X Y f.seen]
structure cI (f:Fl):Prop where
 k:bT f.k
 may:cP f.k=true
 be:f.be≤65535
 gen:f.gen≤1000000
 seen:f.seen≤1099511627776
def recC (kind:Int)(f:Fl)(gen:Int)(bs:Value):Array Value:=#[X Y kind,X Z f.k.src,X Z f.k.dst,X Y f.k.proto,X Y f.k.sport,X Y f.k.dport,X Y f.be,X Y f.gen,X Y f.seen,X Y gen,bs,X Y 0,X Y 0,X Y 0]
theorem nt (n m:Nat)(w:World):Calls Pg 323 #[X Y n,X Y m] w fun e w'=>e=rT (bL (decide (n≤m)))∧w=w':=by
 have d1:decide ((0:Int)≤(n:Int))=true:=decide_eq_true (by omega)
 go_enter func323,ntmps323
 go_wp2_with fail
 go_ret
 exact⟨rfl,rfl⟩
theorem xO (n:Nat)(h:n≤1099511627776)(w:World):Calls Pg 324 #[X Y n] w fun e w'=>e=rT (bL true)∧w=w':=by
 have d1:decide ((0:Int)≤(n:Int))=true:=decide_eq_true (by omega)
 have d2:decide ((n:Int)≤1099511627776)=true:=decide_eq_true (by omega)
 go_enter func324,ntmps324
 go_wp2_with fail
 go_ret
 exact⟨rfl,rfl⟩
theorem ke (n:Nat)(h1:1≤n)(h:n≤3)(w:World):Calls Pg 310 #[X Y n] w fun e w'=>e=rT (bL true)∧w=w':=by
 have d1:decide ((1:Int)≤(n:Int))=true:=decide_eq_true (by omega)
 have d2:decide ((n:Int)≤3)=true:=decide_eq_true (by omega)
 go_enter func310,ntmps310
 go_wp2_with fail
 go_ret
 exact⟨rfl,rfl⟩
theorem lr (f:Fl)(hf:cI f)(w:World):Calls Pg 210 #[.agg (recC 1 f 0 (G none 0 0))] w fun e w'=>e=rT (bL true)∧Below w.heap.size w w':=by
 obtain⟨⟨src,dst,proto,sport,dport⟩,be,gen,seen⟩:=f
 obtain⟨hk,bu,hb,hg,hs⟩:=hf
 dsimp only[recC] at *
 have hbl:=((bR w.heap.size w).alloc (nR _) (cL #[X Y 1,X Z src,X Z dst,X Y proto,X Y sport,X Y dport,X Y be,X Y gen,X Y seen,X Y 0,G none 0 0,X Y 0,X Y 0,X Y 0] 119)).alloc (by simp) (cL #[X Z src,X Z dst,X Y proto,X Y sport,X Y dport,X Y be,X Y gen,X Y seen] 47)
 have hf2:=ab.new (w.alloc (cL #[X Y 1,X Z src,X Z dst,X Y proto,X Y sport,X Y dport,X Y be,X Y gen,X Y seen,X Y 0,G none 0 0,X Y 0,X Y 0,X Y 0] 119)) 47 #[X Z src,X Z dst,X Y proto,X Y sport,X Y dport,X Y be,X Y gen,X Y seen]
 have CT:=jH (jV ⟨src,dst,proto,sport,dport⟩ ((w.alloc (cL #[X Y 1,X Z src,X Z dst,X Y proto,X Y sport,X Y dport,X Y be,X Y gen,X Y seen,X Y 0,G none 0 0,X Y 0,X Y 0,X Y 0] 119)).alloc (cL #[X Z src,X Z dst,X Y proto,X Y sport,X Y dport,X Y be,X Y gen,X Y seen] 47)))
 unfold Tu.vals at CT
 rw[bu] at CT
 have C1:=jH (nt be 65535)
 have C2:=jH (nt gen 1000000)
 have C3:=jH (xO seen hs)
 rw[decide_eq_true hb,show ((65535:Nat):Int)=65535 from rfl] at C1
 rw[decide_eq_true hg,show ((1000000:Nat):Int)=1000000 from rfl] at C2
 obtain⟨q,hq⟩:∃q,q=w.heap.size + 1:=⟨_,rfl⟩
 rw[show (w.alloc (cL #[X Y 1,X Z src,X Z dst,X Y proto,X Y sport,X Y dport,X Y be,X Y gen,X Y seen,X Y 0,G none 0 0,X Y 0,X Y 0,X Y 0] 119)).heap.size=q by rw[hq];simp] at hf2
 have HF:=jH (aI hbl hf2)
 clear hbl hf2
 go_enter func210,ntmps210
 go_wp2_with fail
 rw[←hq]
 clear hq
 generalize (w.alloc (cL #[X Y 1,X Z src,X Z dst,X Y proto,X Y sport,X Y dport,X Y be,X Y gen,X Y seen,X Y 0,G none 0 0,X Y 0,X Y 0,X Y 0] 119)).alloc (cL #[X Z src,X Z dst,X Y proto,X Y sport,X Y dport,X Y be,X Y gen,X Y seen] 47)=w0 at *
 refine CT.out.mono ?_
 rintro e w1 ⟨rfl,ae⟩
 have hf1:=HF.out.2.below ae HF.out.2.lt
 obtain⟨-,-,-,-,-,c5,c6,c7⟩:=hf1.c8
 have HB:=jH (HF.out.1.trans (ae.mono HF.out.1.size))
 clear hf1 ae
 go_wp2_with fail
 refine(C1.out _).mono ?_
 rintro e w2 ⟨rfl,rfl⟩
 go_wp2_with fail
 refine(C2.out _).mono ?_
 rintro e w2 ⟨rfl,rfl⟩
 go_wp2_with fail
 refine(C3.out _).mono ?_
 rintro e w2 ⟨rfl,rfl⟩
 go_wp2_with fail
 go_ret
 exact⟨rfl,HB.out⟩
end
section
theorem Ak:laidOutB Pg=true:=by kernel_rfl
end
section
open Go.RowKit Go.Maps
theorem vk:(match Pg.underlying 39 with|some (.array _ _)|some (.struct _)=>true|_=>false)=true:=by kernel_rfl
theorem qa:(39:TypeId) < Pg.types.size:=of_decide_eq_true (by kernel_rfl)
theorem vp:Pg.keyTypeAt 2 39=true:=by kernel_rfl
theorem vm:Go.WideMaps.KeyLaw Pg 39:=deep_law_laid Ak (m:=2) (by omega) qa vp vk
theorem vn:Keyed Pg 39:=Keyed.of_law vm
theorem vo:Pg.keyType 39=true:=by kernel_rfl
theorem qc:Pg.cellsOf 39=5:=by kernel_rfl
theorem uU:Pg.cellsOf 32=1:=by kernel_rfl
theorem AE:Pg.cellsOf 3=1:=by kernel_rfl
theorem xy:∃n,Pg.types.size=n + 1:=by
 obtain⟨k,hk⟩:=Nat.exists_eq_add_of_lt qa
 exact⟨_,hk⟩
def bS (k:Tu):Value:=.agg k.vals
theorem pR (n:Nat)(h:n < 4294967296):(Lit.int .u32 n).wf=true:=by
 show (decide (IntKind.u32.min≤(n:Int))&&decide ((n:Int)≤IntKind.u32.max))=true
 rw[show IntKind.u32.min=0 by decide,show IntKind.u32.max=4294967295 by decide,decide_eq_true (by omega),decide_eq_true (by omega)]
 rfl
theorem uH (z:Int)(h0:-9223372036854775808≤z)(h1:z≤9223372036854775807):(Lit.int .i64 z).wf=true:=by
 show (decide (IntKind.i64.min≤z)&&decide (z≤IntKind.i64.max))=true
 rw[show IntKind.i64.min=-9223372036854775808 by decide,show IntKind.i64.max=9223372036854775807 by decide,decide_eq_true h0,decide_eq_true h1]
 rfl
theorem vj (k:Tu)(hk:bT k):∃l,keyOf Pg 39 (bS k)=some l:=by
 obtain⟨n,hn⟩:=xy
 obtain⟨src,dst,proto,sport,dport⟩:=k
 obtain⟨h1,h2,h3,h4,h5⟩:=hk
 dsimp only at *
 have hf:(bS ⟨src,dst,proto,sport,dport⟩).formed Pg 39=true:=by
  unfold bS Tu.vals Value.formed
  rw[underlying39]
  simp[qc]
 unfold keyOf
 rw[underlying39]
 dsimp only
 rw[vo,hf,hn]
 simp only[Bool.and_self,if_true]
 have hu:∀m,Pg.keyLits (m + 1) 32 [.int .u32 src]=some [.int .u32 src]:=fun m=>by
  unfold Program.keyLits
  rw[underlying32]
  dsimp only
  rw[if_pos ⟨rfl,pR src h1⟩]
 have hu2:∀m,Pg.keyLits (m + 1) 32 [.int .u32 dst]=some [.int .u32 dst]:=fun m=>by
  unfold Program.keyLits
  rw[underlying32]
  dsimp only
  rw[if_pos ⟨rfl,pR dst h2⟩]
 have hi:∀m z,-9223372036854775808≤z→z≤9223372036854775807→Pg.keyLits (m + 1) 3 [.int .i64 z]=some [.int .i64 z]:=fun m z h0 h1=>by
  unfold Program.keyLits
  rw[underlying3]
  dsimp only
  rw[if_pos ⟨rfl,uH z h0 h1⟩]
 unfold bS Tu.vals Value.cells
 unfold Program.keyLits
 rw[underlying39]
 dsimp only
 rw[qc]
 simp[uU,AE,hu,hu2,hi _ proto h3.1 h3.2,hi _ sport h4.1 h4.2,hi _ dport h5.1 h5.2]
theorem vl (a b:Tu)(h:bS a=bS b):a=b:=by
 obtain⟨a1,a2,a3,a4,a5⟩:=a
 obtain⟨b1,b2,b3,b4,b5⟩:=b
 simp[bS,Tu.vals] at h
 obtain⟨h1,h2,h3,h4,h5⟩:=h
 simp[h3,h4,h5]
 omega
theorem iO:iz Pg 39 bS bT:=⟨vn,vj,vl⟩
end
section
open Go.RowKit
def ey (z m:Int):Bool:=decide (0≤z∧z≤m)
theorem xT (z m:Int)(w:World):Calls Pg 323 #[X Y z,X Y m] w fun e w'=>e=rT (bL (ey z m))∧w=w':=by
 by_cases h0:0≤z
 ·have d1:decide ((0:Int)≤z)=true:=decide_eq_true h0
  have HR:Hid (ey z m=decide (z≤m)):=by show _=_;unfold ey;simp[h0]
  go_enter func323,ntmps323
  go_wp2_with fail
  go_ret
  exact⟨by rw[HR.out];rfl,rfl⟩
 ·have d1:decide ((0:Int)≤z)=false:=decide_eq_false h0
  have HR:Hid (ey z m=false):=by show _=_;unfold ey;simp[h0]
  go_enter func323,ntmps323
  go_wp2_with fail
  go_ret
  exact⟨by rw[HR.out];rfl,rfl⟩
def fQ (b:Be):Bool:=ey b.id 65535&&decide (1≤b.weight∧b.weight≤10)
theorem xY (b:Be)(w:World):Calls Pg 327 #[aG #[X Y b.id,X Z b.addr,X Y b.weight]] w fun e w'=>e=rT (bL (fQ b))∧Below w.heap.size w w':=by
 obtain⟨id,addr,wt⟩:=b
 have hbl:=(bR w.heap.size w).alloc (nR _) (cL #[X Y id,X Z addr,X Y wt] 34)
 have C1:=jH (xT id 65535)
 have hB:fQ ⟨id,addr,wt⟩=(ey id 65535&&decide (1≤wt∧wt≤10)):=rfl
 generalize ey id 65535=r at *
 obtain⟨res,cz⟩:∃res,fQ ⟨id,addr,wt⟩=res:=⟨_,rfl⟩
 rw[cz] at hB⊢
 clear cz
 dsimp only
 cases r with
 |false=>
  have HR:Hid (res=false):=by show _=_;rw[hB];rfl
  clear hB
  go_enter func327,ntmps327
  go_wp2_with fail
  refine(C1.out _).mono ?_
  rintro e w1 ⟨rfl,rfl⟩
  go_wp2_with fail
  go_ret
  exact⟨by rw[HR.out];rfl,hbl⟩
 |true=>
  by_cases h1:1≤wt
  ·have d1:decide ((1:Int)≤wt)=true:=decide_eq_true h1
   have HR:Hid (res=decide (wt≤10)):=by show _=_;rw[hB];simp[h1]
   clear hB
   go_enter func327,ntmps327
   go_wp2_with fail
   refine(C1.out _).mono ?_
   rintro e w1 ⟨rfl,rfl⟩
   go_wp2_with fail
   go_ret
   exact⟨by rw[HR.out];rfl,hbl⟩
  ·have d1:decide ((1:Int)≤wt)=false:=decide_eq_false h1
   have HR:Hid (res=false):=by show _=_;rw[hB];simp[h1]
   clear hB
   go_enter func327,ntmps327
   go_wp2_with fail
   refine(C1.out _).mono ?_
   rintro e w1 ⟨rfl,rfl⟩
   go_wp2_with fail
   go_ret
   exact⟨by rw[HR.out];rfl,hbl⟩
theorem xS (b:Be)(w:World):Calls Pg 326 #[aG #[X Y b.id,X Z b.addr,X Y b.weight]] w fun e w'=>e=rT (bL (!fQ b))∧Below w.heap.size w w':=by
 have hbl:=(bR w.heap.size w).alloc (nR _) (cL #[X Y b.id,X Z b.addr,X Y b.weight] 34)
 have C1:=jH (xY b)
 generalize fQ b=r at *
 go_enter func326,ntmps326
 go_wp2_with fail
 refine(C1.out _).mono ?_
 rintro e w1 ⟨rfl,ae⟩
 go_wp2_with fail
 go_ret
 exact⟨rfl,hbl.trans (ae.mono hbl.size)⟩
theorem Dz (A:Option Addr)(n c B:Nat)(l:List Be)(w:World)(hr:Reads w B 3 A n (aC l))(hB:B≤w.heap.size)(hn:n≤46912496118442)(hok:∀b∈l,fQ b=true):
  Calls Pg 325 #[G A n c,.func (.func 326) #[] #[]] w fun e w'=>e=rT (bL false)∧Below w.heap.size w w':=by
 have CI:=jH (ox 326 #[] (fun b=>!fQ b) (enters_of func326 (by kernel_rfl) rfl) A n c B l w hr hB hn (fun W x hW=>(xS x W).mono (by
  rintro e w' ⟨rfl,hb⟩
  exact⟨rfl,hW.trans (hb.mono hW.size)⟩)))
 rw[oy (fun j hj=>by simp[hok l[j] (List.getElem_mem hj)])] at CI
 go_enter func325,ntmps325
 go_wp2_with fail
 refine CI.out.mono ?_
 rintro e w1 ⟨rfl,ae⟩
 go_wp2_with fail
 go_ret
 exact⟨rfl,ae⟩
def cU (gen:Int)(bs:Value):Array Value:=#[X Y 3,X Z 0,X Z 0,X Y 0,X Y 0,X Y 0,X Y 0,X Y 0,X Y 0,X Y gen,bs,X Y 0,X Y 0,X Y 0]
theorem lu (gen:Nat)(hgen:gen≤1000000)(A:Option Addr)(n c B:Nat)(l:List Be)(w:World)(hr:Reads w B 3 A n (aC l))(hB:B≤w.heap.size)(hn:n≤16)(hok:∀b∈l,fQ b=true):
  Calls Pg 210 #[.agg (cU (gen:Int) (G A n c))] w fun e w'=>e=rT (bL true)∧Below w.heap.size w w':=by
 have hbl:=(bR w.heap.size w).alloc (nR _) (cL (cU (gen:Int) (G A n c)) 119)
 have CC:=jH (Dz A n c B l _ (hr.alloc hB (cL (cU (gen:Int) (G A n c)) 119)) (nT hB hbl.size) (by omega) hok)
 have C1:=jH (nt gen 1000000)
 rw[decide_eq_true hgen,show ((1000000:Nat):Int)=1000000 from rfl] at C1
 have d1:decide ((n:Int)≤16)=true:=decide_eq_true (by omega)
 unfold cU at *
 clear hr hok
 go_enter func210,ntmps210
 go_wp2_with fail
 refine(C1.out _).mono ?_
 rintro e w1 ⟨rfl,rfl⟩
 go_wp2_with fail
 refine CC.out.mono ?_
 rintro e w1 ⟨rfl,ae⟩
 have HB:=jH (hbl.trans (ae.mono hbl.size))
 clear hbl ae
 go_wp2_with fail
 go_ret
 exact⟨rfl,HB.out⟩
theorem l6 (w:World)(a c:Obj)(t:TypeId)(cs:Array Value):ab (((w.alloc a).alloc (.cells cs t)).alloc c) (w.heap.size + 1) t cs:=by
 have h:=(ab.new (w.alloc a) t cs).alloc c
 rw[show (w.alloc a).heap.size=w.heap.size + 1 by simp] at h
 exact h
theorem kN (w:World)(a b c:Obj):Below w.heap.size w (((w.alloc a).alloc b).alloc c):=(((bR w.heap.size w).alloc (nR _) a).alloc (by simp) b).alloc (by simp;omega) c
theorem dF:(Pg.info? 119).map (·.size)=some 14:=by kernel_rfl
theorem xQ (f:Fl)(w:World):Calls Pg 335 #[.agg (recC 1 f 0 (G none 0 0))] w fun e w'=>e=rT (.agg (recC 1 f 0 (G none 0 0)))∧Below w.heap.size w w':=by
 obtain⟨⟨src,dst,proto,sport,dport⟩,be,gen,seen⟩:=f
 dsimp only[recC] at *
 go_enter func335,ntmps335
 go_wp2_with fail
 refine bodyPost_ret (results_cell_row rfl _ _ (w.heap.size + 1) 119 #[X Y 1,X Z src,X Z dst,X Y proto,X Y sport,X Y dport,X Y be,X Y gen,X Y seen,X Y 0,G none 0 0,X Y 0,X Y 0,X Y 0] (0,0) _ rfl (l6 w _ _ _ _) underlying119 rfl dF) rfl ?_
 exact⟨rfl,kN w _ _ _⟩
theorem jB {w:World}{aa n size g:Nat}{e t:TypeId}{v:Value}{xs:List Value}{cs:Array Value}(h:w.ownsRow aa e size v n xs)(hb:ab w g t cs)(az:e≠t)(cs':Array Value):(w.setRow g cs').ownsRow aa e size v n xs:=by
 refine⟨h.1,?_⟩
 rcases h.2 with hn|⟨k,cap,cur,rfl,hk,hh,rest⟩
 ·exact .inl hn
 ·refine .inr ⟨k,cap,cur,rfl,hk,?_,rest⟩
  have:k≠g:=fun e1=>by
   subst e1
   unfold ab at hb
   rw[hh] at hb
   injection hb with hb
   injection hb with _ he
   exact az he
  rw[setRow_other w g k cs' this]
  exact hh
theorem xR (gen:Int)(A:Option Addr)(n c B:Nat)(l:List Be)(w:World)(hr:Reads w B 3 A n (aC l))(hB:B≤w.heap.size)(hn:n≤1000)(bI:A=none→c=0):
  Calls Pg 335 #[.agg (cU gen (G A n c))] w fun e w'=>∃A' c',e=rT (.agg (cU gen (G A' n c')))∧w'.ownsRow w.heap.size 34 3 (G A' n c') n (aC l)∧Below w.heap.size w w':=by
 unfold cU
 have al:=kN w (cL #[X Y 3,X Z 0,X Z 0,X Y 0,X Y 0,X Y 0,X Y 0,X Y 0,X Y 0,X Y gen,G A n c,X Y 0,X Y 0,X Y 0] 119) (cL #[X Y 0,X Z 0,X Z 0,X Y 0,X Y 0,X Y 0,X Y 0,X Y 0,X Y 0,X Y 0,G none 0 0,X Y 0,X Y 0,X Y 0] 119) (cL #[X Y 3,X Z 0,X Z 0,X Y 0,X Y 0,X Y 0,X Y 0,X Y 0,X Y 0,X Y 0,G none 0 0,X Y 0,X Y 0,X Y 0] 119)
 have k1:=((ab.new w 119 #[X Y 3,X Z 0,X Z 0,X Y 0,X Y 0,X Y 0,X Y 0,X Y 0,X Y 0,X Y gen,G A n c,X Y 0,X Y 0,X Y 0]).alloc (cL #[X Y 0,X Z 0,X Z 0,X Y 0,X Y 0,X Y 0,X Y 0,X Y 0,X Y 0,X Y 0,G none 0 0,X Y 0,X Y 0,X Y 0] 119)).alloc (cL #[X Y 3,X Z 0,X Z 0,X Y 0,X Y 0,X Y 0,X Y 0,X Y 0,X Y 0,X Y 0,G none 0 0,X Y 0,X Y 0,X Y 0] 119)
 have k2:=l6 w (cL #[X Y 3,X Z 0,X Z 0,X Y 0,X Y 0,X Y 0,X Y 0,X Y 0,X Y 0,X Y gen,G A n c,X Y 0,X Y 0,X Y 0] 119) (cL #[X Y 3,X Z 0,X Z 0,X Y 0,X Y 0,X Y 0,X Y 0,X Y 0,X Y 0,X Y 0,G none 0 0,X Y 0,X Y 0,X Y 0] 119) 119 #[X Y 0,X Z 0,X Z 0,X Y 0,X Y 0,X Y 0,X Y 0,X Y 0,X Y 0,X Y 0,G none 0 0,X Y 0,X Y 0,X Y 0]
 have k3:=ab.new ((w.alloc (cL #[X Y 3,X Z 0,X Z 0,X Y 0,X Y 0,X Y 0,X Y 0,X Y 0,X Y 0,X Y gen,G A n c,X Y 0,X Y 0,X Y 0] 119)).alloc (cL #[X Y 0,X Z 0,X Z 0,X Y 0,X Y 0,X Y 0,X Y 0,X Y 0,X Y 0,X Y 0,G none 0 0,X Y 0,X Y 0,X Y 0] 119)) 119 #[X Y 3,X Z 0,X Z 0,X Y 0,X Y 0,X Y 0,X Y 0,X Y 0,X Y 0,X Y 0,G none 0 0,X Y 0,X Y 0,X Y 0]
 rw[show ((w.alloc (cL #[X Y 3,X Z 0,X Z 0,X Y 0,X Y 0,X Y 0,X Y 0,X Y 0,X Y 0,X Y gen,G A n c,X Y 0,X Y 0,X Y 0] 119)).alloc (cL #[X Y 0,X Z 0,X Z 0,X Y 0,X Y 0,X Y 0,X Y 0,X Y 0,X Y 0,X Y 0,G none 0 0,X Y 0,X Y 0,X Y 0] 119)).heap.size=w.heap.size + 1 + 1 by simp] at k3
 have hr3:=hr.below (al.mono hB)
 have hsz:(((w.alloc (cL #[X Y 3,X Z 0,X Z 0,X Y 0,X Y 0,X Y 0,X Y 0,X Y 0,X Y 0,X Y gen,G A n c,X Y 0,X Y 0,X Y 0] 119)).alloc (cL #[X Y 0,X Z 0,X Z 0,X Y 0,X Y 0,X Y 0,X Y 0,X Y 0,X Y 0,X Y 0,G none 0 0,X Y 0,X Y 0,X Y 0] 119)).alloc (cL #[X Y 3,X Z 0,X Z 0,X Y 0,X Y 0,X Y 0,X Y 0,X Y 0,X Y 0,X Y 0,G none 0 0,X Y 0,X Y 0,X Y 0] 119)).heap.size=w.heap.size + 3:=by simp
 obtain⟨q,hq⟩:∃q,q=w.heap.size:=⟨_,rfl⟩
 have HQ:=jH hq
 clear hr
 go_enter func335,ntmps335
 go_wp2_with fail
 rw[←hq] at k1 k2 k3 hsz⊢
 clear hq
 generalize ((w.alloc (cL #[X Y 3,X Z 0,X Z 0,X Y 0,X Y 0,X Y 0,X Y 0,X Y 0,X Y 0,X Y gen,G A n c,X Y 0,X Y 0,X Y 0] 119)).alloc (cL #[X Y 0,X Z 0,X Z 0,X Y 0,X Y 0,X Y 0,X Y 0,X Y 0,X Y 0,X Y 0,G none 0 0,X Y 0,X Y 0,X Y 0] 119)).alloc (cL #[X Y 3,X Z 0,X Z 0,X Y 0,X Y 0,X Y 0,X Y 0,X Y 0,X Y 0,X Y 0,G none 0 0,X Y 0,X Y 0,X Y 0] 119)=W at *
 have CC:=jH (gH A n c B l W.drew hr3 (by show B≤W.heap.size;have:=HQ.out;omega) (by omega) bI)
 have c0:W.drew.cell? ⟨q,9,none⟩=some (X Y gen)∧W.drew.cell? ⟨q,10,none⟩=some (G A n c):=⟨by have:=k1.cell 9;simpa using this,by have:=k1.cell 10;simpa using this⟩
 have H:=jH (aI k1 (aI k2 (aI k3 (aI al hr3))))
 clear k1 k2 k3 al hr3
 go_region_held3 (fun wS=>wS.cell? ⟨q,9,none⟩=some (X Y gen)∧wS.cell? ⟨q,10,none⟩=some (G A n c)) (first|with_reducible exact c0|with_reducible exact e0|with_reducible exact g0 _|with_reducible exact g1 _ _|fail)
  (first
   |(go_at_call 21;(with_reducible refine CC.out.mono ?_);rintro e w1 ⟨A1,c1,rfl,aQ,ae⟩;have j1:=H.out.1.drew.below ae H.out.1.lt;have j3:=H.out.2.2.1.drew.below ae H.out.2.2.1.lt;have e0:w1.cell? ⟨q,9,none⟩=some (X Y gen)∧w1.cell? ⟨q,10,none⟩=some (G A n c):=⟨by {have:=j1.cell 9;simpa using this},by {have:=j1.cell 10;simpa using this}⟩;have g0:∀v,(w1.setCell ⟨q + 1 + 1,9,none⟩ v).cell? ⟨q,9,none⟩=some (X Y gen)∧(w1.setCell ⟨q + 1 + 1,9,none⟩ v).cell? ⟨q,10,none⟩=some (G A n c):=fun v=>⟨by {have:=(j1.far (p:=⟨q + 1 + 1,9,none⟩) (by simp;omega) v).cell 9;simpa using this},by {have:=(j1.far (p:=⟨q + 1 + 1,9,none⟩) (by simp;omega) v).cell 10;simpa using this}⟩;have g1:∀v u,((w1.setCell ⟨q + 1 + 1,9,none⟩ v).setCell ⟨q + 1 + 1,10,none⟩ u).cell? ⟨q,9,none⟩=some (X Y gen)∧((w1.setCell ⟨q + 1 + 1,9,none⟩ v).setCell ⟨q + 1 + 1,10,none⟩ u).cell? ⟨q,10,none⟩=some (G A n c):=fun v u=>⟨by {have:=((j1.far (p:=⟨q + 1 + 1,9,none⟩) (by simp;omega) v).far (p:=⟨q + 1 + 1,10,none⟩) (by simp;omega) u).cell 9;simpa using this},by {have:=((j1.far (p:=⟨q + 1 + 1,9,none⟩) (by simp;omega) v).far (p:=⟨q + 1 + 1,10,none⟩) (by simp;omega) u).cell 10;simpa using this}⟩;have s9:w1.cell? ⟨q + 1 + 1,9,none⟩=some (X Y 0):=by {have:=j3.cell 9;simpa using this};have z9:=j3.frozen 9;have s10:∀v,(w1.setCell ⟨q + 1 + 1,9,none⟩ v).cell? ⟨q + 1 + 1,10,none⟩=some (G none 0 0):=fun v=>by {have:=(j3.set_ 9 v).cell 10;simpa using this};have z10:∀v,(w1.setCell ⟨q + 1 + 1,9,none⟩ v).frozen? ⟨q + 1 + 1,10,none⟩=false:=fun v=>(j3.set_ 9 v).frozen 10;have hl3:=j3.lt;have hl4:∀v,q + 1 + 1 < (w1.setCell ⟨q + 1 + 1,9,none⟩ v).heap.size:=fun v=>(j3.set_ 9 v).lt))
 all_goals
  obtain⟨k1,k2,k3,al,hr3⟩:=H.out
  have j2:=k2.drew.below ae k2.lt
  have m3:=(j3.set_ 9 (X Y gen)).set_ 10 (G A1 n c1)
  have m2:=(j2.far (p:=⟨q + 1 + 1,9,none⟩) (by simp) (X Y gen)).far (p:=⟨q + 1 + 1,10,none⟩) (by simp) (G A1 n c1)
  have mo:=aB (aB aQ j3 (by decide) 9 (X Y gen)) (j3.set_ 9 (X Y gen)) (by decide) 10 (G A1 n c1)
  have mb:Below q w ((w1.setCell ⟨q + 1 + 1,9,none⟩ (X Y gen)).setCell ⟨q + 1 + 1,10,none⟩ (G A1 n c1)):=((((HQ.out▸al:Below q w W)).drew.trans (ae.mono (by show q≤W.heap.size;omega))).setCell (p:=⟨q + 1 + 1,9,none⟩) (by simp;omega) _).setCell (p:=⟨q + 1 + 1,10,none⟩) (by simp;omega) _
  generalize (w1.setCell ⟨q + 1 + 1,9,none⟩ (X Y gen)).setCell ⟨q + 1 + 1,10,none⟩ (G A1 n c1)=W4 at *
  have hw:w.heap.size≤W.heap.size:=by have:=HQ.out;omega
  have HE:=jH (aI m2 (aI (iY mo (show w.heap.size≤W.drew.heap.size from hw)) mb))
  simp only[Exit.inBlock,Exit.then]
  refine(‹∀(a:Act) (w:World),Code.wp _ _ _ a w→_›:_) _ _ ?_
  apply wp_seq_k
  intro K3 hK3
  apply wp_region_lit
  refine wpList_load_row rfl _ _ rfl (q + 1 + 1) rfl 119 #[X Y 3,X Z 0,X Z 0,X Y 0,X Y 0,X Y 0,X Y 0,X Y 0,X Y 0,X Y gen,G A1 n c1,X Y 0,X Y 0,X Y 0] (0,0) _ m3 underlying119 rfl dF ?_
  refine wpList_store_row rfl _ _ _ rfl (q + 1) #[X Y 3,X Z 0,X Z 0,X Y 0,X Y 0,X Y 0,X Y 0,X Y 0,X Y 0,X Y gen,G A1 n c1,X Y 0,X Y 0,X Y 0] rfl rfl 119 #[X Y 0,X Z 0,X Z 0,X Y 0,X Y 0,X Y 0,X Y 0,X Y 0,X Y 0,X Y 0,G none 0 0,X Y 0,X Y 0,X Y 0] m2 dF rfl (by simp[Value.oneCell']) ?_
  apply wpList_nil
  refine hK3 _ _ ?_
  have cz:=setRow_heap W4 (q + 1) _ #[X Y 3,X Z 0,X Z 0,X Y 0,X Y 0,X Y 0,X Y 0,X Y 0,X Y 0,X Y gen,G A1 n c1,X Y 0,X Y 0,X Y 0] _ _ m2
  have hbres:=below_setRow (B:=q) (g:=q + 1) HE.out.2.2 (by omega) #[X Y 3,X Z 0,X Z 0,X Y 0,X Y 0,X Y 0,X Y 0,X Y 0,X Y 0,X Y gen,G A1 n c1,X Y 0,X Y 0,X Y 0]
  have hores:(W4.setRow (q + 1) #[X Y 3,X Z 0,X Z 0,X Y 0,X Y 0,X Y 0,X Y 0,X Y 0,X Y 0,X Y gen,G A1 n c1,X Y 0,X Y 0,X Y 0]).ownsRow w.heap.size 34 3 (G A1 n c1) n (aC l):=jB HE.out.2.1 m2 (by decide) _
  go_wp2_with fail
  refine bodyPost_ret (results_cell_row rfl _ _ (q + 1) 119 #[X Y 3,X Z 0,X Z 0,X Y 0,X Y 0,X Y 0,X Y 0,X Y 0,X Y 0,X Y gen,G A1 n c1,X Y 0,X Y 0,X Y 0] (0,0) _ rfl cz underlying119 rfl dF) rfl ?_
  exact⟨A1,c1,rfl,hores,HQ.out▸hbres⟩
def aT (V:Nat)(f:Fl):Fl:=⟨f.k,f.be,if V < 2 then 0 else f.gen,if V < 3 then 0 else f.seen⟩
def aX (V:Nat)(b:Be):Be:=⟨b.id,b.addr,if V < 2 then 1 else b.weight⟩
theorem ow {V:Nat}{f:Fl}(h:cI f):cI (aT V f):=⟨h.k,h.may,h.be,by show (if V < 2 then 0 else f.gen)≤_;split;exact Nat.zero_le _;exact h.gen,by show (if V < 3 then 0 else f.seen)≤_;split;exact Nat.zero_le _;exact h.seen⟩
theorem ux {P:Program}{code:Code}{Q:Exit→Act→World→Prop}{a:Act}{w0:World}(R:World→Prop)(hR:R w0)(h:∀W,R W→code.wp P Q a W):code.wp P Q a w0:=h _ hR
theorem xU (V:Nat)(h1:1≤V)(h3:V≤3)(f:Fl)(w:World):Calls Pg 214 #[.agg (recC 1 f 0 (G none 0 0)),X Y V] w fun e w'=>e=rT (.agg (recC 1 (aT V f) 0 (G none 0 0)))∧Below w.heap.size w w':=by
 have CP0:=xQ f
 obtain⟨⟨src,dst,proto,sport,dport⟩,be,gen,seen⟩:=f
 obtain⟨g2,hg2⟩:∃g,decide ((V:Int) < 2)=g:=⟨_,rfl⟩
 obtain⟨g3,hg3⟩:∃g,decide ((V:Int) < 3)=g:=⟨_,rfl⟩
 obtain⟨gzz,hgz⟩:∃gzz:Int,gzz=if g2 then 0 else (gen:Int):=⟨_,rfl⟩
 obtain⟨sz,hsz0⟩:∃sz:Int,sz=if g3 then 0 else (seen:Int):=⟨_,rfl⟩
 have HR:Hid (recC 1 (aT V ⟨⟨src,dst,proto,sport,dport⟩,be,gen,seen⟩) 0 (G none 0 0)=#[X Y 1,X Z src,X Z dst,X Y proto,X Y sport,X Y dport,X Y be,X Y gzz,X Y sz,X Y 0,G none 0 0,X Y 0,X Y 0,X Y 0]):=by
  show _=_
  unfold recC aT
  dsimp only
  rw[hgz,hsz0,←hg2,←hg3]
  congr 1
  by_cases e2:V < 2<;>by_cases e3:V < 3<;>simp[e2,e3]<;>omega
 generalize recC 1 (aT V ⟨⟨src,dst,proto,sport,dport⟩,be,gen,seen⟩) 0 (G none 0 0)=RX at *
 dsimp only[recC] at *
 have af:=((bR w.heap.size w).alloc (nR _) (cL #[X Y 1,X Z src,X Z dst,X Y proto,X Y sport,X Y dport,X Y be,X Y gen,X Y seen,X Y 0,G none 0 0,X Y 0,X Y 0,X Y 0] 119)).alloc (by simp) (cL #[X Y 0,X Z 0,X Z 0,X Y 0,X Y 0,X Y 0,X Y 0,X Y 0,X Y 0,X Y 0,G none 0 0,X Y 0,X Y 0,X Y 0] 119)
 have k2:=ab.new (w.alloc (cL #[X Y 1,X Z src,X Z dst,X Y proto,X Y sport,X Y dport,X Y be,X Y gen,X Y seen,X Y 0,G none 0 0,X Y 0,X Y 0,X Y 0] 119)) 119 #[X Y 0,X Z 0,X Z 0,X Y 0,X Y 0,X Y 0,X Y 0,X Y 0,X Y 0,X Y 0,G none 0 0,X Y 0,X Y 0,X Y 0]
 rw[show (w.alloc (cL #[X Y 1,X Z src,X Z dst,X Y proto,X Y sport,X Y dport,X Y be,X Y gen,X Y seen,X Y 0,G none 0 0,X Y 0,X Y 0,X Y 0] 119)).heap.size=w.heap.size + 1 by simp] at k2
 have hsz:((w.alloc (cL #[X Y 1,X Z src,X Z dst,X Y proto,X Y sport,X Y dport,X Y be,X Y gen,X Y seen,X Y 0,G none 0 0,X Y 0,X Y 0,X Y 0] 119)).alloc (cL #[X Y 0,X Z 0,X Z 0,X Y 0,X Y 0,X Y 0,X Y 0,X Y 0,X Y 0,X Y 0,G none 0 0,X Y 0,X Y 0,X Y 0] 119)).heap.size=w.heap.size + 2:=by simp
 have CV:=jH (ke V h1 h3)
 have CP:=jH (CP0 ((w.alloc (cL #[X Y 1,X Z src,X Z dst,X Y proto,X Y sport,X Y dport,X Y be,X Y gen,X Y seen,X Y 0,G none 0 0,X Y 0,X Y 0,X Y 0] 119)).alloc (cL #[X Y 0,X Z 0,X Z 0,X Y 0,X Y 0,X Y 0,X Y 0,X Y 0,X Y 0,X Y 0,G none 0 0,X Y 0,X Y 0,X Y 0] 119)))
 clear CP0
 obtain⟨q,hq⟩:∃q,q=w.heap.size:=⟨_,rfl⟩
 have HQ:=jH hq
 have HG:=jH hg2
 go_enter func214,ntmps214
 go_wp2_with fail
 refine(CV.out _).mono ?_
 rintro e w1 ⟨rfl,rfl⟩
 go_wp2_with fail
 rw[←hq] at k2 hsz af⊢
 clear hq
 generalize (w.alloc (cL #[X Y 1,X Z src,X Z dst,X Y proto,X Y sport,X Y dport,X Y be,X Y gen,X Y seen,X Y 0,G none 0 0,X Y 0,X Y 0,X Y 0] 119)).alloc (cL #[X Y 0,X Z 0,X Z 0,X Y 0,X Y 0,X Y 0,X Y 0,X Y 0,X Y 0,X Y 0,G none 0 0,X Y 0,X Y 0,X Y 0] 119)=W at *
 have H:=jH (aI k2 af)
 clear k2 af CV
 refine CP.out.mono ?_
 rintro e w1 ⟨rfl,ae⟩
 have m4:=(H.out.1.below ae H.out.1.lt).alloc (cL #[X Y 1,X Z src,X Z dst,X Y proto,X Y sport,X Y dport,X Y be,X Y gen,X Y seen,X Y 0,G none 0 0,X Y 0,X Y 0,X Y 0] 119)
 have m5:=ab.new w1 119 #[X Y 1,X Z src,X Z dst,X Y proto,X Y sport,X Y dport,X Y be,X Y gen,X Y seen,X Y 0,G none 0 0,X Y 0,X Y 0,X Y 0]
 have mb:Below q w (w1.alloc (cL #[X Y 1,X Z src,X Z dst,X Y proto,X Y sport,X Y dport,X Y be,X Y gen,X Y seen,X Y 0,G none 0 0,X Y 0,X Y 0,X Y 0] 119)):=(H.out.2.trans (ae.mono (by omega))).trans ((bR w1.heap.size w1).alloc (nR _) (cL #[X Y 1,X Z src,X Z dst,X Y proto,X Y sport,X Y dport,X Y be,X Y gen,X Y seen,X Y 0,G none 0 0,X Y 0,X Y 0,X Y 0] 119) |>.mono (by have:=ae.size;omega))
 have hqp:q + 1≠w1.heap.size:=by have:=ae.size;omega
 have hqp2:q≤w1.heap.size:=by have:=ae.size;omega
 skip
 clear ae CP
 go_upto_region 4 with fail
 generalize w1.alloc (cL #[X Y 1,X Z src,X Z dst,X Y proto,X Y sport,X Y dport,X Y be,X Y gen,X Y seen,X Y 0,G none 0 0,X Y 0,X Y 0,X Y 0] 119)=W1 at *
 generalize w1.heap.size=p at *
 have x0:=m5.cell 0
 obtain⟨-,-,-,-,-,-,-,f7,f8⟩:=m5.f9
 have c7:=m5.cell 7
 have c8:=m5.cell 8
 have n7:=m5.set_ 7 (X Y 0)
 have n8:=m5.set_ 8 (X Y 0)
 have n78:=n7.set_ 8 (X Y 0)
 have z0:=n7.cell 0
 have z8:=n7.cell 8
 have zf8:=n7.frozen 8
 simp only[ga,gz,gN,Array.setIfInBounds,List.set_toArray,List.set_cons_zero,List.set_cons_succ,List.size_toArray,List.length_cons,List.length_nil,Nat.zero_add,Nat.reduceAdd,Nat.reduceLT,dite_true] at x0 c7 c8 z0 z8
 have HM1:Hid (∀g2' g3',g2=g2'→g3=g3'→∀W9,(W9=(if g3' then (if g2' then (W1.setCell ⟨p,7,none⟩ (X Y 0)) else W1).setCell ⟨p,8,none⟩ (X Y 0) else if g2' then W1.setCell ⟨p,7,none⟩ (X Y 0) else W1))→Hid (ab W9 p 119 #[X Y 1,X Z src,X Z dst,X Y proto,X Y sport,X Y dport,X Y be,X Y gzz,X Y sz,X Y 0,G none 0 0,X Y 0,X Y 0,X Y 0]∧ab W9 (q + 1) 119 #[X Y 0,X Z 0,X Z 0,X Y 0,X Y 0,X Y 0,X Y 0,X Y 0,X Y 0,X Y 0,G none 0 0,X Y 0,X Y 0,X Y 0]∧Below q w W9)):=by
  intro g2' g3' e2 e3 W9 h9
  subst e2 e3
  have far:∀{W:World} (i:Nat) (u:Value),ab W (q + 1) 119 #[X Y 0,X Z 0,X Z 0,X Y 0,X Y 0,X Y 0,X Y 0,X Y 0,X Y 0,X Y 0,G none 0 0,X Y 0,X Y 0,X Y 0]→ab (W.setCell ⟨p,i,none⟩ u) (q + 1) 119 #[X Y 0,X Z 0,X Z 0,X Y 0,X Y 0,X Y 0,X Y 0,X Y 0,X Y 0,X Y 0,G none 0 0,X Y 0,X Y 0,X Y 0]:=fun i u h=>h.far (p:=⟨p,i,none⟩) hqp u
  have lo:∀{W:World} (i:Nat) (u:Value),Below q w W→Below q w (W.setCell ⟨p,i,none⟩ u):=fun i u h=>h.setCell (p:=⟨p,i,none⟩) hqp2 u
  subst hgz hsz0 h9
  cases g2<;>cases g3
  ·exact⟨by simpa using m5,m4,mb⟩
  ·exact⟨by simpa using n8,far _ _ m4,lo _ _ mb⟩
  ·exact⟨by simpa using n7,far _ _ m4,lo _ _ mb⟩
  ·exact⟨by simpa using n78,far _ _ (far _ _ m4),lo _ _ (lo _ _ mb)⟩
 clear m4 m5 mb n7 n8 n78 hgz hsz0
 have HG3:=jH hg3
 cases g2<;>cases g3
 all_goals
  go_upto_region 8 with fail
  refine ux (fun W=>Hid (ab W p 119 #[X Y 1,X Z src,X Z dst,X Y proto,X Y sport,X Y dport,X Y be,X Y gzz,X Y sz,X Y 0,G none 0 0,X Y 0,X Y 0,X Y 0]∧ab W (q + 1) 119 #[X Y 0,X Z 0,X Z 0,X Y 0,X Y 0,X Y 0,X Y 0,X Y 0,X Y 0,X Y 0,G none 0 0,X Y 0,X Y 0,X Y 0]∧Below q w W)) (HM1.out _ _ rfl rfl _ rfl) ?_
  clear HM1 x0 c7 c8 z0 z8 f7 f8 zf8
  intro Wx HM
  have x10:=HM.out.1.cell 10
  simp only[ga,gz,gN] at x10
  go_wp2_with fail
  go_loopw [34] (fun i wr=>∃k:Nat,k≤0∧i=X Y k∧wr=Wx) (fun i _=>0 - (intOf i).toNat)
  case atStart=>exact⟨0,by omega,rfl,rfl⟩
  case round=>
   obtain⟨k,hk,rfl,rfl⟩:=hrel
   obtain rfl:k=0:=by omega
   go_upto_region 14 with fail
   apply wp_region_lit
   refine wpList_load_row rfl _ _ rfl p rfl 119 #[X Y 1,X Z src,X Z dst,X Y proto,X Y sport,X Y dport,X Y be,X Y gzz,X Y sz,X Y 0,G none 0 0,X Y 0,X Y 0,X Y 0] (0,0) _ HM.out.1 underlying119 rfl dF ?_
   refine wpList_store_row rfl _ _ _ rfl (q + 1) #[X Y 1,X Z src,X Z dst,X Y proto,X Y sport,X Y dport,X Y be,X Y gzz,X Y sz,X Y 0,G none 0 0,X Y 0,X Y 0,X Y 0] rfl rfl 119 #[X Y 0,X Z 0,X Z 0,X Y 0,X Y 0,X Y 0,X Y 0,X Y 0,X Y 0,X Y 0,G none 0 0,X Y 0,X Y 0,X Y 0] HM.out.2.1 dF rfl (by simp[Value.oneCell']) ?_
   apply wpList_nil
   have cz:=setRow_heap wr (q + 1) _ #[X Y 1,X Z src,X Z dst,X Y proto,X Y sport,X Y dport,X Y be,X Y gzz,X Y sz,X Y 0,G none 0 0,X Y 0,X Y 0,X Y 0] _ _ HM.out.2.1
   have hbres:=below_setRow (B:=q) (g:=q + 1) HM.out.2.2 (by omega) #[X Y 1,X Z src,X Z dst,X Y proto,X Y sport,X Y dport,X Y be,X Y gzz,X Y sz,X Y 0,G none 0 0,X Y 0,X Y 0,X Y 0]
   go_wp2_with fail
   refine bodyPost_ret (results_cell_row rfl _ _ (q + 1) 119 #[X Y 1,X Z src,X Z dst,X Y proto,X Y sport,X Y dport,X Y be,X Y gzz,X Y sz,X Y 0,G none 0 0,X Y 0,X Y 0,X Y 0] (0,0) _ rfl cz underlying119 rfl dF) rfl ?_
   rw[HR.out]
   exact⟨rfl,HQ.out▸hbres⟩
theorem Eo (l:List Be)(j:Nat)(hj:j < l.length)(x:Int):(aC l).set (j * 3 + 2) (X Y x)=aC (l.set j ⟨l[j].id,l[j].addr,x⟩):=by
 induction l generalizing j with
 |nil=>simp at hj
 |cons b r ih=>
  cases j with
  |zero=>rfl
  |succ m=>
   rw[show (m + 1) * 3 + 2=m * 3 + 2 + 1 + 1 + 1 from by omega]
   simp only[pe,List.set_cons_succ,List.getElem_cons_succ]
   rw[ih m (by simpa using hj)]
theorem AQ (V:Nat)(l:List Be)(j:Nat)(hj:j < l.length)(hV:V < 2):((l.take j).map (aX V)++l.drop j).set j ⟨l[j].id,l[j].addr,1⟩=(l.take (j + 1)).map (aX V)++l.drop (j + 1):=by
 rw[List.set_append_right _ _ (by simp;omega)]
 have e:j - ((l.take j).map (aX V)).length=0:=by simp;omega
 have e2:(l.take (j + 1)).map (aX V)=(l.take j).map (aX V)++[⟨l[j].id,l[j].addr,1⟩]:=by
  rw[List.take_add_one,List.getElem?_eq_getElem hj,Option.toList_some,List.map_append,List.map_cons,List.map_nil]
  unfold aX
  rw[if_pos hV]
 rw[e,e2,List.drop_eq_getElem_cons hj,List.set_cons_zero,List.append_assoc]
 rfl
theorem xV (V:Nat)(h1:1≤V)(h3:V≤3)(gen:Int)(A:Option Addr)(n c B:Nat)(l:List Be)(w:World)(hr:Reads w B 3 A n (aC l))(hB:B≤w.heap.size)(hn:n≤1000)(bI:A=none→c=0):
  Calls Pg 214 #[.agg (cU gen (G A n c)),X Y V] w fun e w'=>∃A' c',e=rT (.agg (cU gen (G A' n c')))∧w'.ownsRow w.heap.size 34 3 (G A' n c') n (aC (l.map (aX V)))∧Below w.heap.size w w':=by
 have hll:=hr.be_length
 obtain⟨g2,hg2⟩:∃g,decide ((V:Int) < 2)=g:=⟨_,rfl⟩
 unfold cU
 have af:=((bR w.heap.size w).alloc (nR _) (cL #[X Y 3,X Z 0,X Z 0,X Y 0,X Y 0,X Y 0,X Y 0,X Y 0,X Y 0,X Y gen,G A n c,X Y 0,X Y 0,X Y 0] 119)).alloc (by simp) (cL #[X Y 0,X Z 0,X Z 0,X Y 0,X Y 0,X Y 0,X Y 0,X Y 0,X Y 0,X Y 0,G none 0 0,X Y 0,X Y 0,X Y 0] 119)
 have k2:=ab.new (w.alloc (cL #[X Y 3,X Z 0,X Z 0,X Y 0,X Y 0,X Y 0,X Y 0,X Y 0,X Y 0,X Y gen,G A n c,X Y 0,X Y 0,X Y 0] 119)) 119 #[X Y 0,X Z 0,X Z 0,X Y 0,X Y 0,X Y 0,X Y 0,X Y 0,X Y 0,X Y 0,G none 0 0,X Y 0,X Y 0,X Y 0]
 rw[show (w.alloc (cL #[X Y 3,X Z 0,X Z 0,X Y 0,X Y 0,X Y 0,X Y 0,X Y 0,X Y 0,X Y gen,G A n c,X Y 0,X Y 0,X Y 0] 119)).heap.size=w.heap.size + 1 by simp] at k2
 have hsz:((w.alloc (cL #[X Y 3,X Z 0,X Z 0,X Y 0,X Y 0,X Y 0,X Y 0,X Y 0,X Y 0,X Y gen,G A n c,X Y 0,X Y 0,X Y 0] 119)).alloc (cL #[X Y 0,X Z 0,X Z 0,X Y 0,X Y 0,X Y 0,X Y 0,X Y 0,X Y 0,X Y 0,G none 0 0,X Y 0,X Y 0,X Y 0] 119)).heap.size=w.heap.size + 2:=by simp
 have CV:=jH (ke V h1 h3)
 have CP:=jH (xR gen A n c B l ((w.alloc (cL #[X Y 3,X Z 0,X Z 0,X Y 0,X Y 0,X Y 0,X Y 0,X Y 0,X Y 0,X Y gen,G A n c,X Y 0,X Y 0,X Y 0] 119)).alloc (cL #[X Y 0,X Z 0,X Z 0,X Y 0,X Y 0,X Y 0,X Y 0,X Y 0,X Y 0,X Y 0,G none 0 0,X Y 0,X Y 0,X Y 0] 119)) (hr.below (af.mono hB)) (by rw[hsz];omega) hn bI)
 unfold cU at CP
 clear hr
 obtain⟨q,hq⟩:∃q,q=w.heap.size:=⟨_,rfl⟩
 have HQ:=jH hq
 have HG:=jH hg2
 go_enter func214,ntmps214
 go_wp2_with fail
 refine(CV.out _).mono ?_
 rintro e w1 ⟨rfl,rfl⟩
 go_wp2_with fail
 rw[←hq] at k2 hsz af⊢
 clear hq
 generalize (w.alloc (cL #[X Y 3,X Z 0,X Z 0,X Y 0,X Y 0,X Y 0,X Y 0,X Y 0,X Y 0,X Y gen,G A n c,X Y 0,X Y 0,X Y 0] 119)).alloc (cL #[X Y 0,X Z 0,X Z 0,X Y 0,X Y 0,X Y 0,X Y 0,X Y 0,X Y 0,X Y 0,G none 0 0,X Y 0,X Y 0,X Y 0] 119)=W at *
 have H:=jH (aI k2 af)
 clear k2 af CV
 refine CP.out.mono ?_
 rintro e w1 ⟨A1,c1,rfl,aQ,ae⟩
 have m4:=(H.out.1.below ae H.out.1.lt).alloc (cL #[X Y 3,X Z 0,X Z 0,X Y 0,X Y 0,X Y 0,X Y 0,X Y 0,X Y 0,X Y gen,G A1 n c1,X Y 0,X Y 0,X Y 0] 119)
 have m5:=ab.new w1 119 #[X Y 3,X Z 0,X Z 0,X Y 0,X Y 0,X Y 0,X Y 0,X Y 0,X Y 0,X Y gen,G A1 n c1,X Y 0,X Y 0,X Y 0]
 have mb:Below q w (w1.alloc (cL #[X Y 3,X Z 0,X Z 0,X Y 0,X Y 0,X Y 0,X Y 0,X Y 0,X Y 0,X Y gen,G A1 n c1,X Y 0,X Y 0,X Y 0] 119)):=(H.out.2.trans (ae.mono (by omega))).trans ((bR w1.heap.size w1).alloc (nR _) (cL #[X Y 3,X Z 0,X Z 0,X Y 0,X Y 0,X Y 0,X Y 0,X Y 0,X Y 0,X Y gen,G A1 n c1,X Y 0,X Y 0,X Y 0] 119) |>.mono (by have:=ae.size;omega))
 have hqp:q + 1≠w1.heap.size:=by have:=ae.size;omega
 have hqp2:q≤w1.heap.size:=by have:=ae.size;omega
 have mo:=iY (aJ aQ ((bR w1.heap.size w1).alloc (nR _) (cL #[X Y 3,X Z 0,X Z 0,X Y 0,X Y 0,X Y 0,X Y 0,X Y 0,X Y 0,X Y gen,G A1 n c1,X Y 0,X Y 0,X Y 0] 119))) (by have:=HQ.out;omega:w.heap.size≤W.heap.size)
 clear aQ
 clear ae CP
 go_upto_region 4 with fail
 generalize w1.alloc (cL #[X Y 3,X Z 0,X Z 0,X Y 0,X Y 0,X Y 0,X Y 0,X Y 0,X Y 0,X Y gen,G A1 n c1,X Y 0,X Y 0,X Y 0] 119)=W1 at *
 generalize w1.heap.size=p at *
 obtain⟨x0,-,-,-,-,-,-,-,-,-,x10⟩:=m5.c11
 have HM:=jH (aI m5 (aI m4 mb))
 have HO:=jH mo
 clear m4 m5 mb mo
 have hrl:Hid (l.length=n):=hll
 clear hll
 cases g2 with
 |false=>
  have hV:¬V < 2:=by have:=of_decide_eq_false HG.out;omega
  have HV:Hid (l.map (aX V)=l):=by
   show _=_
   exact(List.map_congr_left (g:=id) (fun b _=>by unfold aX;rw[if_neg hV];rfl)).trans (List.map_id l)
  go_wp2_with fail
  go_loopw [34] (fun i wr=>∃k:Nat,k≤n∧i=X Y k∧wr=W1) (fun i _=>n - (intOf i).toNat)
  case atStart=>exact⟨0,by omega,rfl,rfl⟩
  case round=>
   obtain⟨k,hk,rfl,rfl⟩:=hrel
   by_cases hkn:k < n
   ·have e3:decide ((k:Int) < (n:Int))=true:=decide_eq_true (by omega)
    go_wp2_with fail
    go_roundw
    case rel=>exact⟨k + 1,by omega,by go_num,by first|rfl|trivial⟩
    case measure=>simp[intOf];omega
   ·have hkk:k=n:=by omega
    have e3:decide ((k:Int) < (n:Int))=false:=decide_eq_false (by omega)
    go_upto_region 14 with fail
    apply wp_region_lit
    refine wpList_load_row rfl _ _ rfl p rfl 119 #[X Y 3,X Z 0,X Z 0,X Y 0,X Y 0,X Y 0,X Y 0,X Y 0,X Y 0,X Y gen,G A1 n c1,X Y 0,X Y 0,X Y 0] (0,0) _ HM.out.1 underlying119 rfl dF ?_
    refine wpList_store_row rfl _ _ _ rfl (q + 1) #[X Y 3,X Z 0,X Z 0,X Y 0,X Y 0,X Y 0,X Y 0,X Y 0,X Y 0,X Y gen,G A1 n c1,X Y 0,X Y 0,X Y 0] rfl rfl 119 #[X Y 0,X Z 0,X Z 0,X Y 0,X Y 0,X Y 0,X Y 0,X Y 0,X Y 0,X Y 0,G none 0 0,X Y 0,X Y 0,X Y 0] HM.out.2.1 dF rfl (by simp[Value.oneCell']) ?_
    apply wpList_nil
    have cz:=setRow_heap wr (q + 1) _ #[X Y 3,X Z 0,X Z 0,X Y 0,X Y 0,X Y 0,X Y 0,X Y 0,X Y 0,X Y gen,G A1 n c1,X Y 0,X Y 0,X Y 0] _ _ HM.out.2.1
    have hbres:=below_setRow (B:=q) (g:=q + 1) HM.out.2.2 (by omega) #[X Y 3,X Z 0,X Z 0,X Y 0,X Y 0,X Y 0,X Y 0,X Y 0,X Y 0,X Y gen,G A1 n c1,X Y 0,X Y 0,X Y 0]
    go_wp2_with fail
    refine bodyPost_ret (results_cell_row rfl _ _ (q + 1) 119 #[X Y 3,X Z 0,X Z 0,X Y 0,X Y 0,X Y 0,X Y 0,X Y 0,X Y 0,X Y gen,G A1 n c1,X Y 0,X Y 0,X Y 0] (0,0) _ rfl cz underlying119 rfl dF) rfl ?_
    exact⟨A1,c1,rfl,by rw[HV.out];exact jB HO.out HM.out.2.1 (by decide) _,HQ.out▸hbres⟩
 |true=>
  have hV:V < 2:=by have:=of_decide_eq_true HG.out;omega
  go_wp2_with fail
  go_loopg [34,6] n (fun gk i v6 wr=>∃k:Nat,i=X Y k∧Hid (k + gk=n)∧Hid (ab wr p 119 #[X Y 3,X Z 0,X Z 0,X Y 0,X Y 0,X Y 0,X Y 0,X Y 0,X Y 0,X Y gen,G A1 n c1,X Y 0,X Y 0,X Y 0]∧ab wr (q + 1) 119 #[X Y 0,X Z 0,X Z 0,X Y 0,X Y 0,X Y 0,X Y 0,X Y 0,X Y 0,X Y 0,G none 0 0,X Y 0,X Y 0,X Y 0]∧Below q w wr)∧Hid (wr.ownsRow w.heap.size 34 3 (G A1 n c1) n (aC ((l.take k).map (aX V)++l.drop k))))
  case atStart=>exact⟨0,rfl,(by show _=_;omega),HM.out,by show World.ownsRow _ _ _ _ _ _ _;simpa using HO.out⟩
  case round=>
   clear HM HO x0 x10
   obtain⟨k,rfl,hgk,HM,HO⟩:=hrel
   have x10:=HM.out.1.cell 10
   simp only[ga,gz,gN] at x10
   by_cases hkn:k < n
   ·have e3:decide ((k:Int) < (n:Int))=true:=decide_eq_true (by omega)
    obtain⟨g,hg1,hgw⟩:∃g,A1=some ⟨g,0,none⟩∧w.heap.size≤g:=by
     rcases HO.out.2 with⟨h',-⟩|⟨g,cap,cur,h',hb',-⟩
     ·injection h' with _ h2 _;omega
     ·injection h' with h1 _ _;exact⟨g,h1,hb'⟩
    subst hg1
    obtain⟨b,⟨y0,y1,y2⟩,y3,y4,y5⟩:=rD HO.out hkn
    have hlk:k < l.length:=by have:=hrl.out;omega
    have az:p≠g:=by
     have h1:=dj HO.out HM.out.1 (by decide)
     exact fun e=>h1 (by rw[e];rfl)
    have hne2:q + 1≠g:=by
     have h1:=dj HO.out HM.out.2.1 (by decide)
     exact fun e=>h1 (by rw[e];rfl)
    have H7:(fun Vv:World=>Hid ((ab Vv p 119 #[X Y 3,X Z 0,X Z 0,X Y 0,X Y 0,X Y 0,X Y 0,X Y 0,X Y 0,X Y gen,G (some ⟨g,0,none⟩) n c1,X Y 0,X Y 0,X Y 0]∧ab Vv (q + 1) 119 #[X Y 0,X Z 0,X Z 0,X Y 0,X Y 0,X Y 0,X Y 0,X Y 0,X Y 0,X Y 0,G none 0 0,X Y 0,X Y 0,X Y 0]∧Below q w Vv)∧Vv.ownsRow w.heap.size 34 3 (G (some ⟨g,0,none⟩) n c1) n (aC ((l.take (k + 1)).map (aX V)++l.drop (k + 1))))) (wr.setCell ⟨g,k * 3 + 2,none⟩ (X Y 1)):=by
     refine⟨⟨HM.out.1.far (p:=⟨g,_,none⟩) az _,HM.out.2.1.far (p:=⟨g,_,none⟩) hne2 _,HM.out.2.2.setCell (p:=⟨g,_,none⟩) (by show q≤g;have:=HQ.out;omega) _⟩,?_⟩
     have h8:=(HO.out.stored (k * 3 + 2) (X Y 1)).1
     have hk2:k < ((l.take k).map (aX V)++l.drop k).length:=by simp;omega
     have hget:((l.take k).map (aX V)++l.drop k)[k]=l[k]:=by
      rw[List.getElem_append_right (by simp;omega)]
      simp[Nat.min_eq_left (Nat.le_of_lt hlk)]
     rw[Eo _ k hk2,hget,AQ V l k hlk hV] at h8
     exact h8
    clear HM HO y0 y1
    go_wp2_with fail
    go_roundg (gk - 1)
    case measure=>have h1:=hgk.out;omega
    case rel=>exact⟨k + 1,by go_num,(by show _=_;have:=hgk.out;omega),H7.out.1,H7.out.2⟩
   ·have hkk:k=n:=by have:=hgk.out;omega
    have e3:decide ((k:Int) < (n:Int))=false:=decide_eq_false (by omega)
    have HZ:Hid ((l.take k).map (aX V)++l.drop k=l.map (aX V)):=by
     show _=_
     have:=hrl.out
     rw[List.take_of_length_le (by omega),List.drop_of_length_le (by omega),List.append_nil]
    rw[HZ.out] at HO
    go_upto_region 14 with fail
    apply wp_region_lit
    refine wpList_load_row rfl _ _ rfl p rfl 119 #[X Y 3,X Z 0,X Z 0,X Y 0,X Y 0,X Y 0,X Y 0,X Y 0,X Y 0,X Y gen,G A1 n c1,X Y 0,X Y 0,X Y 0] (0,0) _ HM.out.1 underlying119 rfl dF ?_
    refine wpList_store_row rfl _ _ _ rfl (q + 1) #[X Y 3,X Z 0,X Z 0,X Y 0,X Y 0,X Y 0,X Y 0,X Y 0,X Y 0,X Y gen,G A1 n c1,X Y 0,X Y 0,X Y 0] rfl rfl 119 #[X Y 0,X Z 0,X Z 0,X Y 0,X Y 0,X Y 0,X Y 0,X Y 0,X Y 0,X Y 0,G none 0 0,X Y 0,X Y 0,X Y 0] HM.out.2.1 dF rfl (by simp[Value.oneCell']) ?_
    apply wpList_nil
    have cz:=setRow_heap wr (q + 1) _ #[X Y 3,X Z 0,X Z 0,X Y 0,X Y 0,X Y 0,X Y 0,X Y 0,X Y 0,X Y gen,G A1 n c1,X Y 0,X Y 0,X Y 0] _ _ HM.out.2.1
    have hbres:=below_setRow (B:=q) (g:=q + 1) HM.out.2.2 (by omega) #[X Y 3,X Z 0,X Z 0,X Y 0,X Y 0,X Y 0,X Y 0,X Y 0,X Y 0,X Y gen,G A1 n c1,X Y 0,X Y 0,X Y 0]
    go_wp2_with fail
    refine bodyPost_ret (results_cell_row rfl _ _ (q + 1) 119 #[X Y 3,X Z 0,X Z 0,X Y 0,X Y 0,X Y 0,X Y 0,X Y 0,X Y 0,X Y gen,G A1 n c1,X Y 0,X Y 0,X Y 0] (0,0) _ rfl cz underlying119 rfl dF) rfl ?_
    exact⟨A1,c1,rfl,jB HO.out HM.out.2.1 (by decide) _,HQ.out▸hbres⟩
theorem vi (p aa:Nat)(k:Tu)(hk:bT k)(w:World)(h:bh w aa p [])(an:aa≤w.heap.size):
  Calls Pg 318 #[PT (some ⟨p,0,none⟩),.agg k.vals] w fun e w'=>e=rT (tU #[])∧bh w' aa p (du k)∧Below aa w w'∧Kept w w':=by
 obtain⟨src,dst,proto,sport,dport⟩:=k
 obtain⟨k1,k2,k3,k4,k5⟩:=hk
 dsimp only[Tu.vals] at *
 have hx:=ab.new w 39 #[X Z src,X Z dst,X Y proto,X Y sport,X Y dport]
 have ao:=(bR w.heap.size w).alloc (nR _) (cL #[X Z src,X Z dst,X Y proto,X Y sport,X Y dport] 39)
 have hw0:=h.below ao
 have HE:Hid (du ⟨src,dst,proto,sport,dport⟩=be src 4++be dst 4++be (ai proto) 1++be (ai sport) 2++be (ai dport) 2):=rfl
 obtain⟨T,hT⟩:∃T,du ⟨src,dst,proto,sport,dport⟩=T:=⟨_,rfl⟩
 rw[hT] at HE⊢
 clear hT
 have ax:∀(n aO:Nat) (l:List Nat),(l++be n aO).length=l.length + aO:=fun n aO l=>by rw[List.length_append,be_length]
 have ht1:39≠251:=by decide
 have ht2:39≠5:=by decide
 have hbs:=nT an ao.size
 have C1:=jH (iV p aa src [] _ k1 (by simp) hw0 hbs)
 have hk0:=jH ((Kept.refl w).alloc (cL #[X Z src,X Z dst,X Y proto,X Y sport,X Y dport] 39))
 have HX:=jH hx
 have HB:=jH (ao.mono an)
 have HL:=jH ax
 have HS:=jH hbs
 clear hx ao hw0 ax hbs h
 go_enter func318,ntmps318
 obtain⟨q,hq⟩:∃q,q=w.heap.size:=⟨_,rfl⟩
 go_wp2_with fail
 generalize w.alloc (cL #[X Z src,X Z dst,X Y proto,X Y sport,X Y dport] 39)=w0 at *
 rw[←hq] at HX⊢
 clear hq
 refine C1.out.mono ?_
 rintro e w1 ⟨rfl,hw1,ae,hK1⟩
 have hx1:=hK1 _ _ _ HX.out ht1 ht2
 have hs1:=nT HS.out ae.size
 have C2:=jH (iV p aa dst _ w1 k2 (by rw[HL.out];simp) hw1 hs1)
 obtain⟨-,d1⟩:=hx1.c2
 have HX1:=jH hx1
 clear hx1
 go_wp2_with fail
 clear d1
 refine C2.out.mono ?_
 rintro e w2 ⟨rfl,hw2,af,hK2⟩
 have hx2:=hK2 _ _ _ HX1.out ht1 ht2
 have hs2:=nT hs1 af.size
 have C3:=jH (kY p aa proto _ w2 (by simp[be_length]) hw2 hs2)
 obtain⟨-,-,d2⟩:=hx2.c3
 have HX2:=jH hx2
 clear hx2
 go_wp2_with fail
 clear d2
 refine C3.out.mono ?_
 rintro e w3 ⟨rfl,hw3,al,hK3⟩
 have hx3:=hK3 _ _ _ HX2.out ht1 ht2
 have hs3:=nT hs2 al.size
 have C4:=jH (jn p aa sport _ w3 (by simp[be_length]) hw3 hs3)
 have d3:=hx3.cell 3
 simp only[ga,gz,gN] at d3
 have HX3:=jH hx3
 clear hx3
 go_wp2_with fail
 clear d3
 refine C4.out.mono ?_
 rintro e w4 ⟨rfl,hw4,aq,hK4⟩
 have hx4:=hK4 _ _ _ HX3.out ht1 ht2
 have hs4:=nT hs3 aq.size
 have C5:=jH (jn p aa dport _ w4 (by simp[be_length]) hw4 hs4)
 have d4:=hx4.cell 4
 simp only[ga,gz,gN] at d4
 have HX4:=jH hx4
 clear hx4
 go_wp2_with fail
 clear d4
 refine C5.out.mono ?_
 rintro e w5 ⟨rfl,hw5,aK,hK5⟩
 have hx5:=hK5 _ _ _ HX4.out ht1 ht2
 have hs5:=nT hs4 aK.size
 go_wp2_with fail
 go_end0
 refine⟨rfl,?_,((((HB.out.trans ae).trans af).trans al).trans aq).trans aK,((((hk0.out.trans hK1).trans hK2).trans hK3).trans hK4).trans hK5⟩
 rw[HE.out]
 simpa using hw5
theorem AZ (p aa n:Nat)(l:List Nat)(w:World)(hn:n < 9223372036854775808)(hl:l.length≤1099511627776)(h:bh w aa p l)(an:aa≤w.heap.size):
  Calls Pg 413 #[PT (some ⟨p,0,none⟩),X Y n] w fun e w'=>e=rT (tU #[])∧bh w' aa p (l++be n 8)∧Below aa w w'∧Kept w w':=by
 have HC:=jH (ly p aa n 8 l w (by omega) (by omega) hl h an)
 have hw:IntKind.u64.wrap (n:Int)=(n:Int):=by rw[IntKind.wrap_u64];omega
 go_enter func413,ntmps413
 go_wp2_with fail
 refine HC.out.mono ?_
 rintro e w' ⟨rfl,hwb,aA,hkw⟩
 go_wp2_with fail
 go_end0
 exact⟨rfl,hwb,aA,hkw⟩
def cX (V:Nat)(f:Fl):List Nat:=du f.k++be f.be 2++(if 2≤V then be f.gen 4 else [])++(if 3≤V then be f.seen 8 else [])
theorem lz (V:Nat)(f:Fl):15≤(cX V f).length∧(cX V f).length≤27:=by
 unfold cX
 by_cases h2:2≤V<;>by_cases h3:3≤V<;>simp[h2,h3,jW,be_length]
theorem yi (V:Nat)(f:Fl):ay (cX V f):=by
 refine bY (bY (bY (jX _) (bZ _ _)) ?_) ?_
 ·split
  ·exact bZ _ _
  ·exact fun x hx=>by simp at hx
 ·split
  ·exact bZ _ _
  ·exact fun x hx=>by simp at hx
theorem xM (V p aa:Nat)(f:Fl)(hf:cI f)(w:World)(h:bh w aa p [])(an:aa≤w.heap.size):
  Calls Pg 330 #[PT (some ⟨p,0,none⟩),.agg (recC 1 f 0 (G none 0 0)),X Y V] w fun e w'=>e=rT (tU #[])∧bh w' aa p (cX V f)∧Below aa w w'∧Kept w w':=by
 obtain⟨hk,bu,hb,hg,hs⟩:=hf
 have CW0:=fun W (hW:bh W aa p []) (hB:aa≤W.heap.size)=>vi p aa f.k hk W hW hB
 have hpb:cX V f=du f.k++be f.be 2++(if 2≤V then be f.gen 4 else [])++(if 3≤V then be f.seen 8 else []):=rfl
 have htl:=jW f.k
 obtain⟨T,hT⟩:∃T,du f.k=T:=⟨_,rfl⟩
 rw[hT] at CW0 hpb htl
 obtain⟨PB,hPB⟩:∃PB,cX V f=PB:=⟨_,rfl⟩
 rw[hPB] at hpb⊢
 clear hT hPB
 obtain⟨⟨src,dst,proto,sport,dport⟩,be0,gen,seen⟩:=f
 dsimp only[recC,Tu.vals] at *
 have hx:=ab.new w 119 #[X Y 1,X Z src,X Z dst,X Y proto,X Y sport,X Y dport,X Y be0,X Y gen,X Y seen,X Y 0,G none 0 0,X Y 0,X Y 0,X Y 0]
 have hk0:=(Kept.refl w).alloc (cL #[X Y 1,X Z src,X Z dst,X Y proto,X Y sport,X Y dport,X Y be0,X Y gen,X Y seen,X Y 0,G none 0 0,X Y 0,X Y 0,X Y 0] 119)
 have ao:=(bR w.heap.size w).alloc (nR _) (cL #[X Y 1,X Z src,X Z dst,X Y proto,X Y sport,X Y dport,X Y be0,X Y gen,X Y seen,X Y 0,G none 0 0,X Y 0,X Y 0,X Y 0] 119)
 have hw0:=h.below ao
 have hbs:=nT an ao.size
 have CW:=jH (CW0 _ hw0 hbs)
 obtain⟨q,hq⟩:∃q,q=w.heap.size:=⟨_,rfl⟩
 rw[←hq] at hx
 have HX:=jH (aI hx (aI (ao.mono an) hk0))
 have HP:=jH hpb
 clear hx ao hk0 hw0 h CW0 hpb
 go_enter func330,ntmps330
 go_wp2_with fail
 rw[←hq]
 clear hq
 generalize w.alloc (cL #[X Y 1,X Z src,X Z dst,X Y proto,X Y sport,X Y dport,X Y be0,X Y gen,X Y seen,X Y 0,G none 0 0,X Y 0,X Y 0,X Y 0] 119)=w0 at *
 refine CW.out.mono ?_
 rintro e w1 ⟨rfl,hw1,ae,hK1⟩
 have hx1:=hK1 _ _ _ HX.out.1 (by decide) (by decide)
 have hs1:=nT hbs ae.size
 have C2:=jH (jn p aa (be0:Int) _ w1 (by omega) hw1 hs1)
 rw[fF be0 (by omega)] at C2
 have d6:=hx1.cell 6
 simp only[ga,gz,gN] at d6
 have HX1:=jH (aI hx1 (aI (HX.out.2.1.trans ae) (HX.out.2.2.trans hK1)))
 clear hx1 ae hK1 CW
 go_wp2_with fail
 clear d6
 refine C2.out.mono ?_
 rintro e w2 ⟨rfl,hw2,af,hK2⟩
 have hx2:=hK2 _ _ _ HX1.out.1 (by decide) (by decide)
 have hs2:=nT hs1 af.size
 obtain⟨g2,hg2⟩:∃g,decide ((2:Int)≤(V:Int))=g:=⟨_,rfl⟩
 obtain⟨g3,hg3⟩:∃g,decide ((3:Int)≤(V:Int))=g:=⟨_,rfl⟩
 obtain⟨b2,hb2e⟩:∃b2:List Nat,b2=if 2≤V then be gen 4 else []:=⟨_,rfl⟩
 obtain⟨b3,hb3e⟩:∃b3:List Nat,b3=if 3≤V then be seen 8 else []:=⟨_,rfl⟩
 have hb2v:b2=if g2 then be gen 4 else []:=by
  rw[hb2e,←hg2]
  by_cases h:2≤V<;>simp[h]<;>omega
 have hb3v:b3=if g3 then be seen 8 else []:=by
  rw[hb3e,←hg3]
  by_cases h:3≤V<;>simp[h]<;>omega
 have HV:=jH (aI hb2v (aI hb3v (aI hb2e hb3e)))
 have d7:=hx2.cell 7
 simp only[ga,gz,gN] at d7
 have HX2:=jH (aI hw2 (aI hx2 (aI (HX1.out.2.1.trans af) (HX1.out.2.2.trans hK2))))
 clear hx2 af hK2 C2 hw2 hb2v hb3v hb2e hb3e
 go_upto_if 26 with fail
 go_cut [] from 9 (fun wc=>Hid (bh wc aa p (T++be be0 2++b2)∧ab wc q 119 #[X Y 1,X Z src,X Z dst,X Y proto,X Y sport,X Y dport,X Y be0,X Y gen,X Y seen,X Y 0,G none 0 0,X Y 0,X Y 0,X Y 0]∧Below aa w wc∧Kept w wc∧aa≤wc.heap.size))
 case first=>
  cases g2 with
  |false=>
   have HE:Hid (bh w2 aa p (T++be be0 2++b2)∧ab w2 q 119 #[X Y 1,X Z src,X Z dst,X Y proto,X Y sport,X Y dport,X Y be0,X Y gen,X Y seen,X Y 0,G none 0 0,X Y 0,X Y 0,X Y 0]∧Below aa w w2∧Kept w w2∧aa≤w2.heap.size):=by
    obtain⟨r1,r2,r3,r4⟩:=HX2.out
    rw[HV.out.1]
    exact⟨by simpa using r1,r2,r3,r4,hs2⟩
   go_wp2_with fail
   go_meet
   exact HE
  |true=>
   have C3:=jH (iV p aa gen _ w2 (by omega) (by rw[List.length_append,be_length];omega) HX2.out.1 hs2)
   have ew:IntKind.u32.wrap (gen:Int)=(gen:Int):=by rw[IntKind.wrap_u32'];omega
   go_wp2_with fail
   refine C3.out.mono ?_
   rintro e w3 ⟨rfl,hw3,al,hK3⟩
   have HE:Hid (bh w3 aa p (T++be be0 2++b2)∧ab w3 q 119 #[X Y 1,X Z src,X Z dst,X Y proto,X Y sport,X Y dport,X Y be0,X Y gen,X Y seen,X Y 0,G none 0 0,X Y 0,X Y 0,X Y 0]∧Below aa w w3∧Kept w w3∧aa≤w3.heap.size):=by
    obtain⟨r1,r2,r3,r4⟩:=HX2.out
    rw[HV.out.1]
    exact⟨hw3,hK3 _ _ _ r2 (by decide) (by decide),r3.trans al,r4.trans hK3,nT hs2 al.size⟩
   clear hw3 al hK3 C3 ew
   go_wp2_with fail
   go_meet
   exact HE
 case rest=>
  clear HX2 HX1 HX d7
  cases g3 with
  |false=>
   have HE:Hid (bh wc aa p PB∧Below aa w wc∧Kept w wc):=by
    obtain⟨r1,r2,r3,r4,r5⟩:=hcut.out
    rw[HP.out,←HV.out.2.2.1,←HV.out.2.2.2,HV.out.2.1]
    exact⟨by simpa using r1,r3,r4⟩
   clear hcut
   go_wp2_with fail
   go_end0
   exact⟨rfl,HE.out⟩
  |true=>
   have d8:=hcut.out.2.1.cell 8
   simp only[ga,gz,gN] at d8
   have hbl:b2.length≤4:=by rw[HV.out.1];cases g2<;>simp[be_length]
   have C4:=jH (AZ p aa seen _ wc (by omega) (by simp only[List.length_append,be_length];omega) hcut.out.1 hcut.out.2.2.2.2)
   go_wp2_with fail
   refine C4.out.mono ?_
   rintro e w4 ⟨rfl,hw4,aq,hK4⟩
   have HE:Hid (bh w4 aa p PB∧Below aa w w4∧Kept w w4):=by
    obtain⟨r1,r2,r3,r4,r5⟩:=hcut.out
    rw[HP.out,←HV.out.2.2.1,←HV.out.2.2.2,HV.out.2.1]
    exact⟨hw4,r3.trans aq,r4.trans hK4⟩
   clear hw4 aq hK4 C4 hcut d8
   go_wp2_with fail
   go_end0
   exact⟨rfl,HE.out⟩
def ib (V:Nat)(b:Be):List Nat:=be (ai b.id) 2++be b.addr 4++(if 2≤V then be (ai b.weight) 1 else [])
theorem ED (V:Nat)(b:Be):(ib V b).length≤7:=by unfold ib;by_cases h:2≤V<;>simp[h,be_length]
def dC (V:Nat)(l:List Be):List Nat:=l.flatMap (ib V)
theorem kM (V:Nat)(l:List Be):(dC V l).length≤l.length * 7:=by
 induction l with
 |nil=>exact nR _
 |cons x r ih=>rw[show dC V (x::r)=ib V x++dC V r from rfl,List.length_append,List.length_cons];have:=ED V x;omega
theorem l8 (V:Nat)(l:List Be):ay (dC V l):=fun x hx=>by
 obtain⟨y,_,hy⟩:=List.mem_flatMap.1 hx
 refine(bY (bY (bZ _ _) (bZ _ _)) ?_:ay (ib V y)) x hy
 split
 ·exact bZ _ _
 ·exact fun x hx=>by simp at hx
theorem Et (V:Nat)(l:List Be)(k:Nat)(h:k < l.length):dC V (l.take (k + 1))=dC V (l.take k)++(be (ai l[k].id) 2++be l[k].addr 4++(if 2≤V then be (ai l[k].weight) 1 else [])):=by
 unfold dC
 rw[List.take_succ_eq_append_getElem h,List.flatMap_append]
 simp only[List.flatMap_cons,List.flatMap_nil,List.append_nil]
 rfl
def cZ (V g:Nat)(l:List Be):List Nat:=be g 4++be l.length 1++dC V l
theorem lR (V g:Nat)(l:List Be):5≤(cZ V g l).length∧(cZ V g l).length≤5 + l.length * 7:=by have:=kM V l;simp[cZ,be_length];omega
theorem BB (V g:Nat)(l:List Be):ay (cZ V g l):=bY (bY (bZ _ _) (bZ _ _)) (l8 _ _)
theorem xN (V p aa:Nat)(gen:Nat)(hgen:gen≤1000000)(A:Option Addr)(n c B:Nat)(l:List Be)(w:World)(hr:Reads w B 3 A n (aC l))(hB:B≤aa)(hn:n≤1000)(hok:∀b∈l,b.addr < 4294967296)(h:bh w aa p [])(an:aa≤w.heap.size):
  Calls Pg 330 #[PT (some ⟨p,0,none⟩),.agg (cU (gen:Int) (G A n c)),X Y V] w fun e w'=>e=rT (tU #[])∧bh w' aa p (cZ V gen l)∧Below aa w w'∧Kept w w':=by
 obtain⟨g2,hg2⟩:∃g,decide ((2:Int)≤(V:Int))=g:=⟨_,rfl⟩
 have HG2:=jH hg2
 have hln:=hr.be_length
 have hx:=ab.new w 119 (cU (gen:Int) (G A n c))
 have hk0:=(Kept.refl w).alloc (cL (cU (gen:Int) (G A n c)) 119)
 have ao:=(bR w.heap.size w).alloc (nR _) (cL (cU (gen:Int) (G A n c)) 119)
 have hw0:=h.below ao
 have hbs:=nT an ao.size
 unfold cU at *
 have C1:=jH (iV p aa gen [] _ (by omega) (by simp) hw0 hbs)
 have ew:IntKind.u32.wrap (gen:Int)=(gen:Int):=by rw[IntKind.wrap_u32'];omega
 obtain⟨q,hq⟩:∃q,q=w.heap.size:=⟨_,rfl⟩
 rw[←hq] at hx
 have HX:=jH (aI hx (aI (ao.mono an) hk0))
 have HG:Hid (cZ V gen l=be gen 4++be n 1++dC V l):=by show _=_;unfold cZ;rw[hln]
 obtain⟨GB,hGB⟩:∃GB,cZ V gen l=GB:=⟨_,rfl⟩
 rw[hGB] at HG⊢
 clear hx ao hk0 hw0 h hGB
 go_enter func330,ntmps330
 go_wp2_with fail
 rw[←hq]
 clear hq
 generalize w.alloc (cL #[X Y 3,X Z 0,X Z 0,X Y 0,X Y 0,X Y 0,X Y 0,X Y 0,X Y 0,X Y gen,G A n c,X Y 0,X Y 0,X Y 0] 119)=w0 at *
 refine C1.out.mono ?_
 rintro e w1 ⟨rfl,hw1,ae,hK1⟩
 rw[List.nil_append] at hw1
 have hx1:=hK1 _ _ _ HX.out.1 (by decide) (by decide)
 have hs1:=nT hbs ae.size
 have C2:=jH (kY p aa (n:Int) _ w1 (by rw[be_length];omega) hw1 hs1)
 rw[fF n (by omega)] at C2
 have d10:=hx1.cell 10
 simp only[ga,gz,gN] at d10
 have HX1:=jH (aI hx1 (aI (HX.out.2.1.trans ae) (HX.out.2.2.trans hK1)))
 clear hx1 ae hK1 C1 ew
 go_wp2_with fail
 clear d10
 refine C2.out.mono ?_
 rintro e w2 ⟨rfl,hw2,af,hK2⟩
 have hx2:=hK2 _ _ _ HX1.out.1 (by decide) (by decide)
 have hs2:=nT hs1 af.size
 have d10:=hx2.cell 10
 simp only[ga,gz,gN] at d10
 have HX2:=jH (aI hx2 (aI (HX1.out.2.1.trans af) (HX1.out.2.2.trans hK2)))
 clear hx2 af hK2 C2
 go_wp2_with fail
 clear d10
 go_loopw [62] (fun i wr=>∃k:Nat,k≤n∧i=X Y k∧bh wr aa p (be gen 4++be n 1++dC V (l.take k))∧Below aa w wr∧Kept w wr∧aa≤wr.heap.size) (fun i _=>n - (intOf i).toNat)
 case atStart=>exact⟨0,by omega,rfl,by simpa [dC] using hw2,HX2.out.2.1,HX2.out.2.2,hs2⟩
 case round=>
  obtain⟨k,hk,rfl,hwr,hbr,hkr,hsr⟩:=hrel
  by_cases hkn:k < n
  ·obtain⟨b,off,hl,rfl,hc0,hc1,hc2⟩:=(hr.below (hbr.mono hB)).be hkn
   have hadr:=hok l[k] (List.getElem_mem hl)
   have HT:Hid (be gen 4++be n 1++dC V (l.take (k + 1))=be gen 4++be n 1++dC V (l.take k)++be (ai l[k].id) 2++be l[k].addr 4++(if g2 then be (ai l[k].weight) 1 else [])):=by show _=_;have e2:(if 2≤V then be (ai l[k].weight) 1 else [])=(if g2 then be (ai l[k].weight) 1 else []):=(by {rw[←HG2.out];by_cases h:2≤V<;>simp[h]<;>omega});rw[←e2];rw[Et V l k hl];simp only[List.append_assoc]
   have ax:(be gen 4++be n 1++dC V (l.take k)).length≤100000:=by have:=kM V (l.take k);rw[List.length_take] at this;simp only[List.length_append,be_length];omega
   generalize be gen 4++be n 1++dC V (l.take k)=m at *
   generalize l[k].id=x at *
   generalize l[k].weight=wt at *
   generalize l[k].addr=ad at *
   have e3:decide ((k:Int) < (n:Int))=true:=decide_eq_true (by omega)
   have hbk:=ab.new wr 34 #[X Y x,X Z ad,X Y wt]
   have hba:=(bR wr.heap.size wr).alloc (nR _) (cL #[X Y x,X Z ad,X Y wt] 34)
   have hka:=hkr.alloc (cL #[X Y x,X Z ad,X Y wt] 34)
   have C3:=jH (jn p aa x m _ (by omega) (hwr.below hba) (nT hsr hba.size))
   have HB:=jH (aI hbk (aI (hbr.trans (hba.mono hsr)) (aI hka (nT hsr hba.size))))
   clear hwr hbk hba hka hbr hkr
   go_wp2_with fail
   generalize wr.alloc (cL #[X Y x,X Z ad,X Y wt] 34)=wa at *
   generalize wr.heap.size=z at *
   refine C3.out.mono ?_
   rintro e w3 ⟨rfl,hw3,al,hK3⟩
   have hb3k:=hK3 _ _ _ HB.out.1 (by decide) (by decide)
   have hs3:=nT HB.out.2.2.2 al.size
   obtain⟨-,g1⟩:=hb3k.c2
   have C4:=jH (iV p aa ad _ w3 hadr (by rw[List.length_append,be_length];omega) hw3 hs3)
   have HB3:=jH (aI hb3k (aI (HB.out.2.1.trans al) (HB.out.2.2.1.trans hK3)))
   clear hb3k al hK3 C3 hc0 hc1 hc2
   go_wp2_with fail
   clear g1
   refine C4.out.mono ?_
   rintro e w4 ⟨rfl,hw4,aq,hK4⟩
   have hb4k:=hK4 _ _ _ HB3.out.1 (by decide) (by decide)
   have hs4:=nT hs3 aq.size
   obtain⟨-,-,gg2⟩:=hb4k.c3
   have HB4:=jH (aI hw4 (aI (HB3.out.2.1.trans aq) (HB3.out.2.2.trans hK4)))
   clear hb4k aq hK4 C4 hw4
   cases g2 with
   |false=>
    go_wp2_with fail
    go_roundw
    case rel=>exact⟨k + 1,by omega,by go_num,by rw[HT.out];simpa using HB4.out.1,HB4.out.2.1,HB4.out.2.2,hs4⟩
    case measure=>simp[intOf];omega
   |true=>
    have C5:=jH (kY p aa wt _ w4 (by simp only[List.length_append,be_length];omega) HB4.out.1 hs4)
    go_wp2_with fail
    clear gg2
    refine C5.out.mono ?_
    rintro e w5 ⟨rfl,hw5,aK,hK5⟩
    have hs5:=nT hs4 aK.size
    have HB5:=jH (aI hw5 (aI (HB4.out.2.1.trans aK) (HB4.out.2.2.trans hK5)))
    clear hw5 aK hK5 C5
    go_wp2_with fail
    go_roundw
    case rel=>exact⟨k + 1,by omega,by go_num,by rw[HT.out];exact HB5.out.1,HB5.out.2.1,HB5.out.2.2,hs5⟩
    case measure=>simp[intOf];omega
  ·have hkk:k=n:=by omega
   have e3:decide ((k:Int) < (n:Int))=false:=decide_eq_false (by omega)
   have HE:Hid (bh wr aa p GB):=by show bh _ _ _ _;rw[HG.out];rw[hkk,List.take_of_length_le (by omega)] at hwr;exact hwr
   clear hwr
   go_wp2_with fail
   go_end0
   exact⟨rfl,HE.out,hbr,hkr⟩
theorem fU {P:Program}{fn:Func}{p u:Tmp}{ty:TypeId}(h:fn.results=#[.cell p ty,.tmp u])(tmps:Array Value)(w:World)(g:Nat)(t:TypeId)(cs:Array Value)(fr:Nat×Nat)(d:TypeDesc)
  (hp:tmps.getD p undef=PT (some ⟨g,0,none⟩))(hg:w.heap[g]? =some (.cells cs t fr))
  (hu:P.underlying ty=some d)(hd:(match d with|.struct _|.array _ _=>true|_=>false)=true)(hi:(P.info? ty).map (·.size)=some cs.size):
  (results fn tmps).run P w=.ok (tU #[.agg cs,tmps.getD u undef]) w:=by
 rw[results_cell_tmp h,hp]
 simp[asAddr,run_loadVar_row w g t ty cs fr d hg hu hd hi]
theorem AL:(Pg.info? 284).map (·.size)=some 3:=by kernel_rfl
theorem qZ (kk V m:Nat)(h1:1≤V)(h3:V≤3)(TB:List Nat)(ax:TB.length=m)(hm:m≤1000)(v1 v2 v3 v4 v5 v6 v7 v8 v9 v10 v11 v12 v13:Value)(w:World)(CM0:∀W,Below w.heap.size w W→Calls Pg 210 #[aG #[X Y kk,v1,v2,v3,v4,v5,v6,v7,v8,v9,v10,v11,v12,v13]] W fun e W'=>e=rT (bL true)∧Below W.heap.size W W')
  (CW0:∀p aa W,Below w.heap.size w W→w.heap.size≤aa→bh W aa p []→aa≤W.heap.size→Calls Pg 330 #[PT (some ⟨p,0,none⟩),aG #[X Y kk,v1,v2,v3,v4,v5,v6,v7,v8,v9,v10,v11,v12,v13],X Y V] W fun e W'=>e=rT (tU #[])∧bh W' aa p TB∧Below aa W W'∧Kept W W'):
  Calls Pg 212 #[aG #[X Y kk,v1,v2,v3,v4,v5,v6,v7,v8,v9,v10,v11,v12,v13],X Y V] w fun e w'=>∃A' c',e=rT (tU #[aG #[X Y kk,X Y V,G A' m c'],X Y 0])∧w'.ownsRow w.heap.size 5 1 (G A' m c') m (bv TB)∧Below w.heap.size w w':=by
 have HCW:=jH CW0
 clear CW0
 have af:=((bR w.heap.size w).alloc (nR _) (cL #[X Y kk,v1,v2,v3,v4,v5,v6,v7,v8,v9,v10,v11,v12,v13] 119)).alloc (by simp) (cL #[X Y 0,X Y 0,G none 0 0] 284)
 have k1:=(ab.new w 119 #[X Y kk,v1,v2,v3,v4,v5,v6,v7,v8,v9,v10,v11,v12,v13]).alloc (cL #[X Y 0,X Y 0,G none 0 0] 284)
 have k2:=ab.new (w.alloc (cL #[X Y kk,v1,v2,v3,v4,v5,v6,v7,v8,v9,v10,v11,v12,v13] 119)) 284 #[X Y 0,X Y 0,G none 0 0]
 rw[show (w.alloc (cL #[X Y kk,v1,v2,v3,v4,v5,v6,v7,v8,v9,v10,v11,v12,v13] 119)).heap.size=w.heap.size + 1 by simp] at k2
 have hsz:((w.alloc (cL #[X Y kk,v1,v2,v3,v4,v5,v6,v7,v8,v9,v10,v11,v12,v13] 119)).alloc (cL #[X Y 0,X Y 0,G none 0 0] 284)).heap.size=w.heap.size + 2:=by simp
 have CV:=jH (ke V h1 h3)
 have CM:=jH (CM0 ((w.alloc (cL #[X Y kk,v1,v2,v3,v4,v5,v6,v7,v8,v9,v10,v11,v12,v13] 119)).alloc (cL #[X Y 0,X Y 0,G none 0 0] 284)) af)
 clear CM0
 obtain⟨q,hq⟩:∃q,q=w.heap.size:=⟨_,rfl⟩
 have HQ:=jH hq
 go_enter func212,ntmps212
 go_wp2_with fail
 refine(CV.out _).mono ?_
 rintro e w1 ⟨rfl,rfl⟩
 go_wp2_with fail
 rw[←hq] at k1 k2 hsz af⊢
 clear hq
 generalize (w.alloc (cL #[X Y kk,v1,v2,v3,v4,v5,v6,v7,v8,v9,v10,v11,v12,v13] 119)).alloc (cL #[X Y 0,X Y 0,G none 0 0] 284)=W at *
 refine CM.out.mono ?_
 rintro e w1 ⟨rfl,ae⟩
 have j1:=k1.below ae k1.lt
 have j2:=k2.below ae k2.lt
 have aA:=af.trans (ae.mono (by omega))
 have hs1:=ae.size
 have H:=jH (aI j1 (aI j2 aA))
 clear CV CM k1 k2 af
 obtain⟨p,hp⟩:∃p,p=w1.heap.size:=⟨_,rfl⟩
 have i1:=j1.alloc (cL #[G none 0 0] 251)
 have i2:=j2.alloc (cL #[G none 0 0] 251)
 have hwb:bh (w1.alloc (cL #[G none 0 0] 251)) p p []:=⟨nR _,none,0,hp▸ab.new w1 251 #[G none 0 0],rfl,.inl ⟨rfl,rfl⟩⟩
 have hs2:(w1.alloc (cL #[G none 0 0] 251)).heap.size=p + 1:=by simp[hp]
 have hb12:Below p w1 (w1.alloc (cL #[G none 0 0] 251)):=hp▸(bR w1.heap.size w1).alloc (nR _) (cL #[G none 0 0] 251)
 have hqp:q + 2≤p:=by omega
 have CW:=jH (HCW.out p p _ (HQ.out▸(aA.trans (hb12.mono (by omega)))) (by have:=HQ.out;omega) hwb (by omega))
 obtain⟨e10,e11,e12,e13,e14,e15,e16,e17,e18,e19,e110,e111,e112,e113⟩:=i1.c14
 go_wp2_with fail
 rw[←hp]
 clear hp
 generalize w1.alloc (cL #[G none 0 0] 251)=w2 at *
 clear e10 e11 e12 e13 e14 e15 e16 e17 e18 e19 e110 e111 e112 e113
 refine CW.out.mono ?_
 rintro e w3 ⟨rfl,hw3,al,hK3⟩
 have i13:=i1.below al (by omega)
 have i23:=i2.below al (by omega)
 have hs3:=al.size
 have hb03:Below q w w3:=(H.out.2.2.trans (hb12.mono (by omega))).trans (al.mono (by omega))
 have CB:=jH (ia p p TB w3.drew (hw3.below (bR _ _).drew) (by omega))
 rw[ax] at CB
 have c0:w3.drew.cell? ⟨q,0,none⟩=some (X Y kk):=by have:=i13.cell 0;simpa using this
 have HM:=jH (aI i13 (aI i23 hb03))
 clear CW i1 i2 hw3 al hK3 i13 i23 hb03 hwb hb12
 go_wp2_with fail
 go_region_held3 (fun wS=>wS.cell? ⟨q,0,none⟩=some (X Y kk)) (first|with_reducible exact c0|with_reducible exact e0|with_reducible exact g0 _ _ _|fail)
  (first
   |(go_at_call 163;(with_reducible refine CB.out.mono ?_);rintro e w4 ⟨A4,c4,rfl,bF,aq⟩;have n1:=HM.out.1.drew.below aq HM.out.1.lt;have n2:=HM.out.2.1.drew.below aq HM.out.2.1.lt;have e0:w4.cell? ⟨q,0,none⟩=some (X Y kk):=by {have:=n1.cell 0;simpa using this};have g0:∀v u z,(((w4.setCell ⟨q + 1,0,none⟩ v).setCell ⟨q + 1,1,none⟩ u).setCell ⟨q + 1,2,none⟩ z).cell? ⟨q,0,none⟩=some (X Y kk):=fun v u z=>by {have:=(((n1.far (p:=⟨q + 1,0,none⟩) (by simp) v).far (p:=⟨q + 1,1,none⟩) (by simp) u).far (p:=⟨q + 1,2,none⟩) (by simp) z).cell 0;simpa using this};have s0:w4.cell? ⟨q + 1,0,none⟩=some (X Y 0):=by {have:=n2.cell 0;simpa using this};have z0:=n2.frozen 0;have s1:w4.cell? ⟨q + 1,1,none⟩=some (X Y 0):=by {have:=n2.cell 1;simpa using this};have z1:=n2.frozen 1;have s2:w4.cell? ⟨q + 1,2,none⟩=some (G none 0 0):=by {have:=n2.cell 2;simpa using this};have z2:=n2.frozen 2;have hl2:=n2.lt;have t1:∀v,(w4.setCell ⟨q + 1,0,none⟩ v).cell? ⟨q + 1,1,none⟩=some (X Y 0):=fun v=>by {have:=(n2.set_ 0 v).cell 1;simpa using this};have y1:∀v,(w4.setCell ⟨q + 1,0,none⟩ v).frozen? ⟨q + 1,1,none⟩=false:=fun v=>(n2.set_ 0 v).frozen 1;have t2:∀v u,((w4.setCell ⟨q + 1,0,none⟩ v).setCell ⟨q + 1,1,none⟩ u).cell? ⟨q + 1,2,none⟩=some (G none 0 0):=fun v u=>by {have:=((n2.set_ 0 v).set_ 1 u).cell 2;simpa using this};have y2:∀v u,((w4.setCell ⟨q + 1,0,none⟩ v).setCell ⟨q + 1,1,none⟩ u).frozen? ⟨q + 1,2,none⟩=false:=fun v u=>((n2.set_ 0 v).set_ 1 u).frozen 2))
 all_goals
  have n5:=((n2.set_ 0 (X Y kk)).set_ 1 (X Y V)).set_ 2 (G A4 m c4)
  have o5:=aB (aB (aB bF n2 (by decide) 0 (X Y kk)) (n2.set_ 0 (X Y kk)) (by decide) 1 (X Y V)) ((n2.set_ 0 (X Y kk)).set_ 1 (X Y V)) (by decide) 2 (G A4 m c4)
  have hqs:q≤w3.drew.heap.size:=by show q≤w3.heap.size;omega
  have b5:Below q w (((w4.setCell ⟨q + 1,0,none⟩ (X Y kk)).setCell ⟨q + 1,1,none⟩ (X Y V)).setCell ⟨q + 1,2,none⟩ (G A4 m c4)):=(((HM.out.2.2.drew.trans (aq.mono hqs)).setCell (p:=⟨q + 1,0,none⟩) (by simp) _).setCell (p:=⟨q + 1,1,none⟩) (by simp) _).setCell (p:=⟨q + 1,2,none⟩) (by simp) _
  generalize ((w4.setCell ⟨q + 1,0,none⟩ (X Y kk)).setCell ⟨q + 1,1,none⟩ (X Y V)).setCell ⟨q + 1,2,none⟩ (G A4 m c4)=w5 at *
  have HE:=jH (aI n5 (aI (iY o5 (by have:=HQ.out;omega:w.heap.size≤w3.drew.heap.size)) b5))
  clear n5 o5 b5 g0 t1 y1 t2 y2 bF
  go_wp2_with fail
  refine bodyPost_ret (fU rfl _ _ (q + 1) 284 #[X Y kk,X Y V,G A4 m c4] (0,0) _ rfl HE.out.1 underlying284 rfl AL) rfl ?_
  exact⟨A4,c4,rfl,HE.out.2.1,HQ.out▸HE.out.2.2⟩
theorem xW (V:Nat)(h1:1≤V)(h3:V≤3)(f:Fl)(hf:cI f)(w:World):Calls Pg 212 #[.agg (recC 1 f 0 (G none 0 0)),X Y V] w fun e w'=>∃A' c',e=rT (tU #[aG #[X Y (1:Nat),X Y V,G A' (cX V f).length c'],X Y 0])∧w'.ownsRow w.heap.size 5 1 (G A' (cX V f).length c') (cX V f).length (bv (cX V f))∧Below w.heap.size w w':=
 qZ 1 V _ h1 h3 (cX V f) rfl (by have:=lz V f;omega) _ _ _ _ _ _ _ _ _ _ _ _ _ w (fun W _=>lr f hf W) (fun p aa W _ _ h hb=>xM V p aa f hf W h hb)
theorem xX (V:Nat)(h1:1≤V)(h3:V≤3)(gen:Nat)(hgen:gen≤1000000)(A:Option Addr)(n c B:Nat)(l:List Be)(w:World)(hr:Reads w B 3 A n (aC l))(hB:B≤w.heap.size)(hn:n≤16)(hok:∀b∈l,fQ b=true)(had:∀b∈l,b.addr < 4294967296):
  Calls Pg 212 #[.agg (cU (gen:Int) (G A n c)),X Y V] w fun e w'=>∃A' c',e=rT (tU #[aG #[X Y (3:Nat),X Y V,G A' (cZ V gen l).length c'],X Y 0])∧w'.ownsRow w.heap.size 5 1 (G A' (cZ V gen l).length c') (cZ V gen l).length (bv (cZ V gen l))∧Below w.heap.size w w':=
 qZ 3 V _ h1 h3 (cZ V gen l) rfl (by have:=lR V gen l;have:=hr.be_length;omega) _ _ _ _ _ _ _ _ _ _ _ _ _ w (fun W hW=>lu gen hgen A n c B l W (hr.below (hW.mono hB)) (nT hB hW.size) hn hok) (fun p aa W hW hbb h hb=>xN V p aa gen hgen A n c B l W (hr.below (hW.mono hB)) (nT hB hbb) (by omega) had h hb)
end
section
open Go.RowKit Go.Maps
def bj (f:Fl):Value:=.agg f.vals
abbrev dZ:Int→Value:=Value.int .i64
def anyI (_:Int):Prop:=True
structure bP (w:World)(aa sp sd sf:Nat)(gen:Nat)(bl:List Be)(fm:List (Tu×Fl)):Prop where
 los:aa≤sp
 lod:aa≤sd
 lof:aa≤sf
 hi:aa≤w.heap.size
 ne:sd≠sf
 blk:∃A c,ab w sp 192 #[X Y gen,G A bl.length c,.map (some sd),.map (some sf)]∧w.ownsRow aa 34 3 (G A bl.length c) bl.length (aC bl)
 dr:aL w dZ anyI dZ sd ([]:List (Int×Int))
 fm:aL w bS bT bj sf fm
theorem bP.fr {w w':World}{aa base' sp sd sf gen:Nat}{bl:List Be}{fm:List (Tu×Fl)}{K:List TypeId}{M:List Nat}(h:bP w aa sp sd sf gen bl fm)(hf:Fr K M base' w w')(h1:192∉K)(h2:34∉K)(h3:sd∉M)(h4:sf∉M):bP w' aa sp sd sf gen bl fm:=by
 obtain⟨A,c,hb,ho⟩:=h.blk
 exact{h with hi:=nT h.hi hf.size,blk:=⟨A,c,hf.blk _ _ _ hb h1,hf.own ho h2⟩,dr:=hf.mapIs h.dr h3,fm:=hf.mapIs h.fm h4}
theorem bP.made {w w':World}{aa sp sd sf gen:Nat}{bl:List Be}{fm:List (Tu×Fl)}(h:bP w aa sp sd sf gen bl fm)(hb:Below w.heap.size w w'):bP w' aa sp sd sf gen bl fm:=
 h.fr (K:=[]) (M:=[]) (Fr.of_below [] [] hb h.hi) (by simp) (by simp) (by simp) (by simp)
theorem qK (w:World):Calls Pg 86 #[] w fun e w'=>∃sp sd sf,e=rT (PT (some ⟨sp,0,none⟩))∧bP w' w.heap.size sp sd sf 0 [] []∧Below w.heap.size w w':=by
 have hmk:∀W:World,(Instr.makeMap 137 none).run Pg W=.ok (.map (some W.heap.size)) (W.alloc (.map #[] 0)):=fun _=>rfl
 have hmk2:∀W:World,(Instr.makeMap 147 none).run Pg W=.ok (.map (some W.heap.size)) (W.alloc (.map #[] 0)):=fun _=>rfl
 go_enter func86,ntmps86
 go_wp2_with fail
 go_ret
 have m1:aL (w.alloc (.map #[] 0)) dZ anyI dZ w.heap.size []:=aL.made w
 have m2:aL ((w.alloc (.map #[] 0)).alloc (.map #[] 0)) bS bT bj (w.heap.size + 1) []:=by have:=aL.made (ek:=bS) (ok:=bT) (ev:=bj) (w.alloc (.map #[] 0));simpa using this
 refine⟨w.heap.size + 2,w.heap.size,w.heap.size + 1,rfl,?_,kN w _ _ _⟩
 exact{los:=by omega,lod:=by omega,lof:=by omega,hi:=by simp;omega,ne:=by omega,blk:=⟨none,0,ab.new_ (by simp),rfl,.inl ⟨rfl,rfl⟩⟩,dr:=(m1.alloc _).alloc _,fm:=m2.alloc _}
theorem BF (aa sp sd sf gen:Nat)(bl:List Be)(fm:List (Tu×Fl))(f:Fl)(hf:cI f)(w:World)(h:bP w aa sp sd sf gen bl fm)(ax:fm.length < 256):
  Calls Pg 312 #[PT (some ⟨sp,0,none⟩),.agg (recC 1 f 0 (G none 0 0))] w fun e w'=>e=rT (bL false)∧Below w.heap.size w w':=by
 obtain⟨A,c,hb,ho⟩:=h.blk
 have ao:=(bR w.heap.size w).alloc (nR _) (cL (recC 1 f 0 (G none 0 0)) 119)
 have hk:=hb.alloc (cL (recC 1 f 0 (G none 0 0)) 119)
 have hm:=h.fm.alloc (cL (recC 1 f 0 (G none 0 0)) 119)
 have hx:=ab.new w 119 (recC 1 f 0 (G none 0 0))
 obtain⟨⟨src,dst,proto,sport,dport⟩,be0,g0,seen⟩:=f
 obtain⟨hkt,bu,-,-,-⟩:=hf
 dsimp only[recC] at *
 have hlk:=hm.drew.lookup (P:=Pg) iO (t:=147) underlying147 (z:=aG #[X Z 0,X Z 0,X Y 0,X Y 0,X Y 0,X Y 0,X Y 0,X Y 0]) (by kernel_rfl) ⟨src,dst,proto,sport,dport⟩ hkt true
 have hlkA:=fun o=>(hm.alloc o).drew.lookup (P:=Pg) iO (t:=147) underlying147 (z:=aG #[X Z 0,X Z 0,X Y 0,X Y 0,X Y 0,X Y 0,X Y 0,X Y 0]) (by kernel_rfl) ⟨src,dst,proto,sport,dport⟩ hkt true
 unfold bS Tu.vals at hlk hlkA
 dsimp only at hlk hlkA
 have c3:=hk.cell 3
 simp only[ga,gz,gN] at c3
 have c3A:∀o,((w.alloc (cL #[X Y 1,X Z src,X Z dst,X Y proto,X Y sport,X Y dport,X Y be0,X Y g0,X Y seen,X Y 0,G none 0 0,X Y 0,X Y 0,X Y 0] 119)).alloc o).cell? ⟨sp,3,none⟩=some (.map (some sf)):=fun o=>by have:=(hk.alloc o).cell 3;simpa using this
 have hlnA:=fun ty o=>(hm.alloc o).drew.len (P:=Pg) (ty:=ty) (t:=147) underlying147
 have d1:decide ((256:Int)≤(fm.length:Int))=false:=decide_eq_false (by omega)
 generalize fm.length=fl at *
 have hbA:=fun o=>(ao.trans ((bR _ _).alloc (nR _) o |>.mono ao.size)).drew
 clear hb ho h
 cases hg:av fm ⟨src,dst,proto,sport,dport⟩ with
 |none=>
  rw[hg] at hlk hlkA
  simp only[if_true] at hlk hlkA
  go_enter func312,ntmps312
  go_wp2_with fail
  go_region
  all_goals
   go_wp2_with fail
   go_ret
   exact⟨rfl,hbA _⟩
 |some fv=>
  rw[hg] at hlk hlkA
  simp only[if_true] at hlk hlkA
  unfold bj Fl.vals at hlk hlkA
  go_enter func312,ntmps312
  go_wp2_with fail
  go_region
  all_goals
   go_wp2_with fail
   go_ret
   exact⟨rfl,hbA _⟩
theorem bP.remap {w w':World}{aa sp sd sf gen:Nat}{bl:List Be}{fm fm':List (Tu×Fl)}(h:bP w aa sp sd sf gen bl fm)(hf:Fr [] [sf] aa w w')(hm:aL w' bS bT bj sf fm'):bP w' aa sp sd sf gen bl fm':=by
 obtain⟨A,c,hb,ho⟩:=h.blk
 exact{los:=h.los,lod:=h.lod,lof:=h.lof,hi:=nT h.hi hf.size,ne:=h.ne,blk:=⟨A,c,hf.blk _ _ _ hb (by simp),hf.own ho (by simp)⟩,dr:=hf.mapIs h.dr (by have:=h.ne;simp;omega),fm:=hm}
theorem po (aa sp sd sf gen:Nat)(bl:List Be)(fm:List (Tu×Fl))(f:Fl)(hf:cI f)(w:World)(h:bP w aa sp sd sf gen bl fm)(ax:fm.length < 256):
  Calls Pg 199 #[PT (some ⟨sp,0,none⟩),.agg (recC 1 f 0 (G none 0 0))] w fun e w'=>e=rT (X Y 0)∧bP w' aa sp sd sf gen bl (aw fm f.k f)∧Fr [] [sf] aa w w':=by
 have CF:=jH (fun W hW=>BF aa sp sd sf gen bl fm f hf W hW ax)
 have CM:=jH (lr f hf)
 have hx:=ab.new w 119 (recC 1 f 0 (G none 0 0))
 have ao:=(bR w.heap.size w).alloc (nR _) (cL (recC 1 f 0 (G none 0 0)) 119)
 have hkt:=hf.k
 have HU:=jH (fun(W:World) (hm:aL W bS bT bj sf fm)=>hm.update (P:=Pg) iO (t:=147) underlying147 f.k hkt f)
 obtain⟨FM,hFM⟩:∃FM,aw fm f.k f=FM:=⟨_,rfl⟩
 rw[hFM] at HU⊢
 clear hFM hf
 obtain⟨⟨src,dst,proto,sport,dport⟩,be0,g0,seen⟩:=f
 dsimp only[recC] at *
 obtain⟨q,hq⟩:∃q,q=w.heap.size:=⟨_,rfl⟩
 have HQ:=jH hq
 have H:=jH h
 rw[←hq] at hx ao
 clear h
 go_enter func199,ntmps199
 go_wp2_with fail
 rw[←hq]
 clear hq
 generalize w.alloc (cL #[X Y 1,X Z src,X Z dst,X Y proto,X Y sport,X Y dport,X Y be0,X Y g0,X Y seen,X Y 0,G none 0 0,X Y 0,X Y 0,X Y 0] 119)=w0 at *
 refine(CM.out _).mono ?_
 rintro e w1 ⟨rfl,ae⟩
 have hx1:=hx.below ae hx.lt
 have bf:=ao.trans (ae.mono (by have:=hx.lt;omega))
 obtain⟨e0,e1,e2,e3,e4,e5,e6,e7,e8,e9,e10,e11,e12,e13⟩:=hx1.c14
 have HX:=jH (aI hx1 bf)
 clear hx ao hx1 ae bf
 go_wp2_with fail
 refine(CF.out _ (H.out.made (HQ.out▸HX.out.2))).mono ?_
 rintro e w2 ⟨rfl,af⟩
 have hx2:=HX.out.1.below af HX.out.1.lt
 have hb02:=HX.out.2.trans (af.mono (by have:=HX.out.1.lt;omega))
 clear e0 e1 e2 e3 e4 e5 e6 e7 e8 e9 e10 e11 e12 e13
 obtain⟨g0,g1,g2,g3,g4,g5,g6,g7,g8,g9,g10,g11,g12,g13⟩:=hx2.c14
 have hS2:=H.out.made (HQ.out▸hb02)
 obtain⟨A,c,hb,ho⟩:=hS2.blk
 have s3:=hb.cell 3
 simp only[ga,gz,gN] at s3
 obtain⟨w3,hup,hm3,hbut3,hs3⟩:=HU.out w2.drew hS2.fm.drew
 unfold bS bj Fl.vals Tu.vals at hup
 dsimp only at hup
 obtain⟨es,cl,hes,_⟩:=hS2.fm
 have HE:=jH (aI hS2 (aI hm3 (((Fr.of_below [] [sf] (HQ.out▸hb02) H.out.hi).drew.but (show w2.drew.heap[sf]? =_ from hes) hbut3 (by simp) H.out.lof hS2.hi))))
 clear hS2 hm3 hbut3 hs3 hb ho hx2 hb02 af hes
 go_wp2_with fail
 go_region
 all_goals
  go_wp2_with fail
  go_ret
  exact⟨rfl,H.out.remap HE.out.2.2 HE.out.2.1,HE.out.2.2⟩
theorem BG (sp:Nat)(gn:Int)(bs:Value)(w:World):
  Calls Pg 312 #[PT (some ⟨sp,0,none⟩),.agg (cU gn bs)] w fun e w'=>e=rT (bL false)∧Below w.heap.size w w':=by
 have ao:=(bR w.heap.size w).alloc (nR _) (cL (cU gn bs) 119)
 unfold cU at *
 go_enter func312,ntmps312
 go_wp2_with fail
 go_ret
 exact⟨rfl,ao⟩
theorem mg {n:Nat}{l:List Be}(hl:l.length=n)(h:dz n l):∀b∈l,fQ b=true:=fun b hb=>by
 obtain⟨j,hj,rfl⟩:=List.getElem_of_mem hb
 obtain⟨_,h1,h2,h3,h4,_⟩:=h.2 j (by omega)
 unfold fQ ey
 rw[decide_eq_true ⟨h1,h2⟩,decide_eq_true ⟨h3,h4⟩]
 rfl
theorem pq (aa sp sd sf gen:Nat)(bl:List Be)(fm:List (Tu×Fl))(gn:Nat)(hgn:gn≤1000000)(A:Option Addr)(n c B:Nat)(l:List Be)(w:World)(hr:Reads w B 3 A n (aC l))(hB:B≤w.heap.size)(hok:dD l)(bu:dz n l)(hnc:n≤c)(bI:A=none→c=0)(h:bP w aa sp sd sf gen bl fm):
  Calls Pg 199 #[PT (some ⟨sp,0,none⟩),.agg (cU (gn:Int) (G A n c))] w fun e w'=>e=rT (X Y 0)∧bP w' aa sp sd sf gn l fm∧Fr [192] [] aa w w':=by
 have hln:=hr.be_length
 have hn16:n≤16:=bu.1
 have CF:=jH (BG sp (gn:Int) (G A n c))
 have CM:=jH (fun W hrW hBW=>lu gn hgn A n c B l W hrW hBW hn16 (mg hln bu))
 have CG:=jH (fun W hrW hBW=>lQ A n c B l W hrW hBW hok (by omega) hnc)
 have hx:=ab.new w 119 (cU (gn:Int) (G A n c))
 have ao:=(bR w.heap.size w).alloc (nR _) (cL (cU (gn:Int) (G A n c)) 119)
 have hr0:=hr.below (ao.mono hB)
 unfold cU at *
 obtain⟨q,hq⟩:∃q,q=w.heap.size:=⟨_,rfl⟩
 have HQ:=jH hq
 have H:=jH (aI h (aI hr bu))
 rw[←hq] at hx ao
 have hBq:B≤q:=by omega
 clear h hr bu
 go_enter func199,ntmps199
 go_wp2_with fail
 rw[←hq]
 clear hq
 generalize w.alloc (cL #[X Y 3,X Z 0,X Z 0,X Y 0,X Y 0,X Y 0,X Y 0,X Y 0,X Y 0,X Y gn,G A n c,X Y 0,X Y 0,X Y 0] 119)=w0 at *
 refine(CM.out _ hr0 (by have:=ao.size;have:=HQ.out;omega)).mono ?_
 rintro e w1 ⟨rfl,ae⟩
 have hx1:=hx.below ae hx.lt
 have bf:=ao.trans (ae.mono (by have:=hx.lt;omega))
 obtain⟨e0,e1,e2,e3,e4,e5,e6,e7,e8,e9,e10,e11,e12,e13⟩:=hx1.c14
 have HX:=jH (aI hx1 bf)
 clear hx ao hx1 ae bf hr0
 go_wp2_with fail
 refine(CG.out _ (H.out.2.1.below (HX.out.2.mono hBq)) (by have:=HX.out.1.lt;omega)).mono ?_
 rintro e wg ⟨⟨bb,rfl,hbb⟩,hbg⟩
 obtain rfl:bb=true:=hbb.2 H.out.2.2
 have hxg:=HX.out.1.below hbg HX.out.1.lt
 have hb0g:=HX.out.2.trans (hbg.mono (by have:=HX.out.1.lt;omega))
 clear e0 e1 e2 e3 e4 e5 e6 e7 e8 e9 e10 e11 e12 e13
 obtain⟨g0,g1,g2,g3,g4,g5,g6,g7,g8,g9,g10,g11,g12,g13⟩:=hxg.c14
 have HG:=jH (aI hxg hb0g)
 clear hxg hbg hb0g hbb
 go_wp2_with fail
 refine(CF.out _).mono ?_
 rintro e w2 ⟨rfl,af⟩
 have hx2:=HG.out.1.below af HG.out.1.lt
 have hb02:=HG.out.2.trans (af.mono (by have:=HG.out.1.lt;omega))
 clear g0 g1 g2 g3 g4 g5 g6 g7 g8 g9 g10 g11 g12 g13
 have r0:=hx2.c1
 have hS2:=H.out.1.made (HQ.out▸hb02)
 obtain⟨A0,c0,hb,ho⟩:=hS2.blk
 have hr2:=H.out.2.1.below (hb02.mono hBq)
 have CC:=jH (gH A n c B l w2.drew hr2 (by have:=hx2.lt;show B≤w2.heap.size;omega) (by omega) bI)
 have k0:w2.drew.cell? ⟨q,9,none⟩=some (X Y gn)∧w2.drew.cell? ⟨q,10,none⟩=some (G A n c):=⟨by have:=hx2.cell 9;simpa using this,by have:=hx2.cell 10;simpa using this⟩
 have hqs:q≠sp:=hx2.ne_ hb (by decide)
 have HE:=jH (aI hS2 (aI hb (aI hx2 hb02)))
 clear hS2 hb ho hx2 hb02 af hr2
 go_wp2_with fail
 go_region_held3 (fun wS=>wS.cell? ⟨q,9,none⟩=some (X Y gn)∧wS.cell? ⟨q,10,none⟩=some (G A n c)) (first|with_reducible exact k0|with_reducible exact e0|with_reducible exact g0 _|with_reducible exact g1 _ _|fail)
  (first
   |(go_at_call 21;(with_reducible refine CC.out.mono ?_);rintro e w3 ⟨A1,c1,rfl,aQ,al⟩;have j1:=HE.out.2.2.1.drew.below al HE.out.2.2.1.lt;have js:=HE.out.2.1.drew.below al HE.out.2.1.lt;have e0:w3.cell? ⟨q,9,none⟩=some (X Y gn)∧w3.cell? ⟨q,10,none⟩=some (G A n c):=⟨by {have:=j1.cell 9;simpa using this},by {have:=j1.cell 10;simpa using this}⟩;have g0:∀v,(w3.setCell ⟨sp,0,none⟩ v).cell? ⟨q,9,none⟩=some (X Y gn)∧(w3.setCell ⟨sp,0,none⟩ v).cell? ⟨q,10,none⟩=some (G A n c):=fun v=>⟨by {have:=(j1.far (p:=⟨sp,0,none⟩) hqs v).cell 9;simpa using this},by {have:=(j1.far (p:=⟨sp,0,none⟩) hqs v).cell 10;simpa using this}⟩;have g1:∀v u,((w3.setCell ⟨sp,0,none⟩ v).setCell ⟨sp,1,none⟩ u).cell? ⟨q,9,none⟩=some (X Y gn)∧((w3.setCell ⟨sp,0,none⟩ v).setCell ⟨sp,1,none⟩ u).cell? ⟨q,10,none⟩=some (G A n c):=fun v u=>⟨by {have:=((j1.far (p:=⟨sp,0,none⟩) hqs v).far (p:=⟨sp,1,none⟩) hqs u).cell 9;simpa using this},by {have:=((j1.far (p:=⟨sp,0,none⟩) hqs v).far (p:=⟨sp,1,none⟩) hqs u).cell 10;simpa using this}⟩;have s0:w3.cell? ⟨sp,0,none⟩=some (X Y gen):=by {have:=js.cell 0;simpa using this};have z0:=js.frozen 0;have s1:∀v,(w3.setCell ⟨sp,0,none⟩ v).cell? ⟨sp,1,none⟩=some (G A0 bl.length c0):=fun v=>by {have:=(js.set_ 0 v).cell 1;simpa using this};have z1:∀v,(w3.setCell ⟨sp,0,none⟩ v).frozen? ⟨sp,1,none⟩=false:=fun v=>(js.set_ 0 v).frozen 1;have hl0:=js.lt;have hl1:∀v,sp < (w3.setCell ⟨sp,0,none⟩ v).heap.size:=fun v=>(js.set_ 0 v).lt))
 all_goals
  have m5:=(js.set_ 0 (X Y gn)).set_ 1 (G A1 n c1)
  have o5:=aB (aB aQ js (by decide) 0 (X Y gn)) (js.set_ 0 (X Y gn)) (by decide) 1 (G A1 n c1)
  have hS2:=HE.out.1
  have f3:Fr [192] [] aa w w3:=(Fr.of_below _ _ (HQ.out▸HE.out.2.2.2) H.out.1.hi).drew.made al hS2.hi
  have f5:=(f3.set_ js (by decide) H.out.1.los 0 (X Y gn)).set_ (js.set_ 0 (X Y gn)) (by decide) H.out.1.los 1 (G A1 n c1)
  have o6:=iY o5 (show aa≤w2.drew.heap.size from hS2.hi)
  rw[←hln] at m5 o6
  have S5:bP ((w3.setCell ⟨sp,0,none⟩ (X Y gn)).setCell ⟨sp,1,none⟩ (G A1 n c1)) aa sp sd sf gn l fm:=by
   rw[←hln] at f5⊢
   exact{los:=H.out.1.los,lod:=H.out.1.lod,lof:=H.out.1.lof,hi:=nT H.out.1.hi f5.size,ne:=H.out.1.ne,blk:=⟨A1,c1,m5,o6⟩,dr:=f5.mapIs H.out.1.dr (by simp),fm:=f5.mapIs H.out.1.fm (by simp)}
  have HF:=jH (aI S5 f5)
  clear S5 f5 m5 o5 o6 f3 g0 g1 s1 z1 hl1 aQ al
  go_wp2_with fail
  go_ret
  exact⟨rfl,HF.out.1,HF.out.2⟩
theorem gA {w:World}{aa size n c:Nat}{e:TypeId}{A:Option Addr}{xs:List Value}(h:w.ownsRow aa e size (G A n c) n xs)(hA:A=none):c=0:=by
 subst hA
 rcases h.2 with⟨h',_⟩|⟨g',cap',cur,h',_⟩
 ·injection h'
 ·injection h' with h1
  cases h1
theorem vU (aa sp sd sf gen:Nat)(bl:List Be)(fm:List (Tu×Fl))(w:World)(h:bP w aa sp sd sf gen bl fm)(hbl:bl.length≤1000):
  Calls Pg 211 #[PT (some ⟨sp,0,none⟩)] w fun e w'=>∃sp' sd' sf',e=rT (PT (some ⟨sp',0,none⟩))∧bP w' w.heap.size sp' sd' sf' gen bl fm∧Below w.heap.size w w':=by
 obtain⟨A,c,hb,ho⟩:=h.blk
 have C1:=jH (gH A bl.length c w.drew.heap.size bl w.drew (Reads.of_own ho).drew (nR _) (by omega) (fun e=>gA ho e))
 have c0:w.drew.cell? ⟨sp,0,none⟩=some (X Y gen)∧w.drew.cell? ⟨sp,1,none⟩=some (G A bl.length c)∧w.drew.cell? ⟨sp,2,none⟩=some (.map (some sd))∧w.drew.cell? ⟨sp,3,none⟩=some (.map (some sf)):=⟨by have:=hb.cell 0;simpa using this,by have:=hb.cell 1;simpa using this,by have:=hb.cell 2;simpa using this,by have:=hb.cell 3;simpa using this⟩
 have H:=jH (aI h hb)
 clear h hb ho
 go_enter func211,ntmps211
 go_wp2_with fail
 go_region_held3 (fun wS=>wS.cell? ⟨sp,0,none⟩=some (X Y gen)∧wS.cell? ⟨sp,1,none⟩=some (G A bl.length c)∧wS.cell? ⟨sp,2,none⟩=some (.map (some sd))∧wS.cell? ⟨sp,3,none⟩=some (.map (some sf))) (first|with_reducible exact c0|with_reducible exact e0|with_reducible exact g0|with_reducible exact h0|with_reducible exact h1 _|fail)
  (first
   |(go_at_call 21;(with_reducible refine C1.out.mono ?_);rintro e w1 ⟨A1,c1,rfl,aQ,ae⟩;have k1:=H.out.2.drew.below ae H.out.2.lt;have e0:w1.cell? ⟨sp,0,none⟩=some (X Y gen)∧w1.cell? ⟨sp,1,none⟩=some (G A bl.length c)∧w1.cell? ⟨sp,2,none⟩=some (.map (some sd))∧w1.cell? ⟨sp,3,none⟩=some (.map (some sf)):=⟨by {have:=k1.cell 0;simpa using this},by {have:=k1.cell 1;simpa using this},by {have:=k1.cell 2;simpa using this},by {have:=k1.cell 3;simpa using this}⟩;have C2:=DV w1 (H.out.1.dr.drew.below ae H.out.1.dr.lt))
   |(go_at_call 328;(with_reducible refine C2.mono ?_);rintro e w2 ⟨rfl,hm2,af,-⟩;have k2:=k1.below af k1.lt;have g0:w2.cell? ⟨sp,0,none⟩=some (X Y gen)∧w2.cell? ⟨sp,1,none⟩=some (G A bl.length c)∧w2.cell? ⟨sp,2,none⟩=some (.map (some sd))∧w2.cell? ⟨sp,3,none⟩=some (.map (some sf)):=⟨by {have:=k2.cell 0;simpa using this},by {have:=k2.cell 1;simpa using this},by {have:=k2.cell 2;simpa using this},by {have:=k2.cell 3;simpa using this}⟩;have C3:=DU w2 ((H.out.1.fm.drew.below ae H.out.1.fm.lt).below af (Nat.lt_of_lt_of_le H.out.1.fm.lt ae.size)))
   |(go_at_call 329;(with_reducible refine C3.mono ?_);rintro e w3 ⟨rfl,hm3,al,-⟩;have k3:=k2.below al k2.lt;have h0:w3.cell? ⟨sp,0,none⟩=some (X Y gen)∧w3.cell? ⟨sp,1,none⟩=some (G A bl.length c)∧w3.cell? ⟨sp,2,none⟩=some (.map (some sd))∧w3.cell? ⟨sp,3,none⟩=some (.map (some sf)):=⟨by {have:=k3.cell 0;simpa using this},by {have:=k3.cell 1;simpa using this},by {have:=k3.cell 2;simpa using this},by {have:=k3.cell 3;simpa using this}⟩;have h1:∀o,(w3.alloc o).cell? ⟨sp,0,none⟩=some (X Y gen)∧(w3.alloc o).cell? ⟨sp,1,none⟩=some (G A bl.length c)∧(w3.alloc o).cell? ⟨sp,2,none⟩=some (.map (some sd))∧(w3.alloc o).cell? ⟨sp,3,none⟩=some (.map (some sf)):=fun o=>⟨by {have:=(k3.alloc o).cell 0;simpa using this},by {have:=(k3.alloc o).cell 1;simpa using this},by {have:=(k3.alloc o).cell 2;simpa using this},by {have:=(k3.alloc o).cell 3;simpa using this}⟩))
 all_goals
  have hs1:=ae.size
  have hs2:=af.size
  have hs3:=al.size
  have hl2:=hm2.lt
  have hsw:w.heap.size=w.drew.heap.size:=rfl
  have hba:=(bR w3.heap.size w3).alloc (nR _) (cL #[X Y gen,G A1 bl.length c1,.map (some w1.heap.size),.map (some w2.heap.size)] 192)
  have hbf:Below w.heap.size w (w3.alloc (cL #[X Y gen,G A1 bl.length c1,.map (some w1.heap.size),.map (some w2.heap.size)] 192)):=((((bR w.heap.size w).drew.trans ae).trans (af.mono (by omega))).trans (al.mono (by omega))).trans (hba.mono (by omega))
  have o5:=aJ (aJ (aJ aQ af) al) hba
  have S5:bP (w3.alloc (cL #[X Y gen,G A1 bl.length c1,.map (some w1.heap.size),.map (some w2.heap.size)] 192)) w.heap.size w3.heap.size w1.heap.size w2.heap.size gen bl fm:=
   {los:=by omega,lod:=by omega,lof:=by omega,hi:=by simp;omega,ne:=by omega,blk:=⟨A1,c1,ab.new_ rfl,o5⟩,dr:=(hm2.below al hm2.lt).alloc _,fm:=hm3.alloc _}
  have HF:=jH (aI S5 hbf)
  clear S5 hbf o5 hba hm2 hm3 aQ ae af al h1
  go_wp2_with fail
  go_ret
  exact⟨_,_,_,rfl,HF.out.1,HF.out.2⟩
structure Q0 (w:World)(aa qp qm:Nat):Prop where
 loq:aa≤qp
 lom:aa≤qm
 blk:ab w qp 369 #[G none 0 0,.map (some qm)]
 mp:aL w Value.string aY aW qm ([]:List (ByteArray×Nat))
theorem Q0.fr {w w':World}{aa base' qp qm:Nat}{K:List TypeId}{M:List Nat}(h:Q0 w aa qp qm)(hf:Fr K M base' w w')(h1:369∉K)(h2:qm∉M):Q0 w' aa qp qm:=⟨h.loq,h.lom,hf.blk _ _ _ h.blk h1,hf.mapIs h.mp h2⟩
theorem Q0.made {w w':World}{aa qp qm:Nat}(h:Q0 w aa qp qm)(hb:Below w.heap.size w w'):Q0 w' aa qp qm:=⟨h.loq,h.lom,h.blk.below hb h.blk.lt,h.mp.below hb h.mp.lt⟩
theorem tl (w:World):Calls Pg 177 #[] w fun e w'=>e=rT (PT (some ⟨w.heap.size + 1,0,none⟩))∧Q0 w' w.heap.size (w.heap.size + 1) w.heap.size∧Below w.heap.size w w'∧w'.heap.size=w.heap.size + 2:=by
 have hmk:∀W:World,(Instr.makeMap 365 none).run Pg W=.ok (.map (some W.heap.size)) (W.alloc (.map #[] 0)):=fun _=>rfl
 go_enter func177,ntmps177
 go_wp2_with fail
 go_ret
 have m1:aL (w.alloc (.map #[] 0)) Value.string aY aW w.heap.size []:=aL.made w
 refine⟨rfl,⟨by omega,by omega,ab.new_ (by simp),m1.alloc _⟩,((bR w.heap.size w).alloc (nR _) (.map #[] 0)).alloc (by simp) _,by simp⟩
theorem Ct (aa qp qm:Nat)(k:ByteArray)(hk:aY k)(w:World)(h:Q0 w aa qp qm):Calls Pg 338 #[PT (some ⟨qp,0,none⟩),.string k] w fun e w'=>e=rT (PT none)∧w=w':=by
 have hlk:=h.mp.lookup (P:=Pg) encS (t:=365) underlying365 (z:=PT none) (by kernel_rfl) k hk false
 rw[show av ([]:List (ByteArray×Nat)) k=none from rfl] at hlk
 simp only[Bool.false_eq_true,if_false] at hlk
 obtain⟨-,c1⟩:=h.blk.c2
 clear h
 go_enter func338,ntmps338
 go_wp2_with fail
 go_ret
 exact⟨rfl,rfl⟩
theorem Cu (aa qp qm:Nat)(k:ByteArray)(hk:aY k)(w:World)(h:Q0 w aa qp qm):Calls Pg 398 #[PT (some ⟨qp,0,none⟩),.string k] w fun e w'=>e=rT (tU #[X Y 0,bL false])∧w=w':=by
 have CF:=jH (Ct aa qp qm k hk w h)
 clear h
 go_enter func398,ntmps398
 go_wp2_with fail
 refine CF.out.mono ?_
 rintro e w1 ⟨rfl,rfl⟩
 go_wp2_with fail
 go_ret2
 exact⟨rfl,rfl⟩
structure dU (w:World)(aa dp dm qp qm:Nat):Prop where
 lod:aa≤dp
 lom:aa≤dm
 ne:dm≠qm
 blk:ab w dp 140 #[PT (some ⟨qp,0,none⟩),.map (some dm)]
 q:Q0 w aa qp qm
 mp:aL w dZ anyI dZ dm ([]:List (Int×Int))
theorem dU.fr {w w':World}{aa base' dp dm qp qm:Nat}{K:List TypeId}{M:List Nat}(h:dU w aa dp dm qp qm)(hf:Fr K M base' w w')(h1:369∉K)(h2:140∉K)(h3:qm∉M)(h4:dm∉M):dU w' aa dp dm qp qm:=⟨h.lod,h.lom,h.ne,hf.blk _ _ _ h.blk h2,h.q.fr hf h1 h3,hf.mapIs h.mp h4⟩
theorem dU.made {w w':World}{aa dp dm qp qm:Nat}(h:dU w aa dp dm qp qm)(hb:Below w.heap.size w w'):dU w' aa dp dm qp qm:=⟨h.lod,h.lom,h.ne,h.blk.below hb h.blk.lt,h.q.made hb,h.mp.below hb h.mp.lt⟩
theorem Cw (w:World):Calls Pg 89 #[] w fun e w'=>∃dp dm qp qm,e=rT (PT (some ⟨dp,0,none⟩))∧dU w' w.heap.size dp dm qp qm∧Below w.heap.size w w':=by
 have CD:=jH (tl w)
 have hmk:∀W:World,(Instr.makeMap 137 none).run Pg W=.ok (.map (some W.heap.size)) (W.alloc (.map #[] 0)):=fun _=>rfl
 go_enter func89,ntmps89
 go_wp2_with fail
 refine CD.out.mono ?_
 rintro e w1 ⟨rfl,hq,hb,hz⟩
 have HZ:=jH hz
 clear hz
 go_wp2_with fail
 go_ret
 have m1:aL (w1.alloc (.map #[] 0)) dZ anyI dZ w1.heap.size []:=aL.made w1
 have hz:=HZ.out
 have af:=((bR w1.heap.size w1).alloc (nR _) (.map #[] 0)).alloc (by simp) (cL #[PT (some ⟨w.heap.size + 1,0,none⟩),.map (some w1.heap.size)] 140)
 exact⟨w1.heap.size + 1,w1.heap.size,w.heap.size + 1,w.heap.size,rfl,⟨by omega,by omega,by omega,ab.new_ (by simp),hq.made af,m1.alloc _⟩,hb.trans (af.mono (by omega))⟩
def jL (n:Nat):ByteArray:=eJ [n / 256 % 256,n % 256]
theorem Dc (n:Nat):aY (jL n):=by
 unfold aY
 have:(jL n).size=2:=by simp[jL,eJ,ByteArray.size]
 omega
theorem Cy (n:Nat)(hn:n≤65535)(w:World):Calls Pg 181 #[X Y n] w fun e w'=>e=rT (.string (jL n))∧Below w.heap.size w w':=by
 have hsh:Op.shift BinOp.shr .i64 (n:Int) .u64 8=pure (X Y (n / 256:Nat)):=by
  rw[shift_shr_any _ _ _ _ (by omega)]
  have e:min (8:Int).toNat IntKind.i64.bits=8:=by decide
  rw[e]
  rfl
 have e1:IntKind.u8.wrap ((n / 256:Nat):Int)=((n / 256 % 256:Nat):Int):=by rw[IntKind.wrap_u8'];omega
 have e2:IntKind.u8.wrap (n:Int)=((n % 256:Nat):Int):=by rw[IntKind.wrap_u8'];omega
 have hb:=(bR w.heap.size w).alloc (nR _) (cL #[X .u8 (n / 256 % 256:Nat),X .u8 (n % 256:Nat)] 5)
 have hcv:=lq (P:=Pg) (c:=2) 23 9 5 underlying23 underlying5 underlying9
  (dQ w 5 (0,0) #[X .u8 (n / 256 % 256:Nat),X .u8 (n % 256:Nat)] 2 (w.heap.size + 1) w.heap.size rfl rfl rfl (bv [n / 256 % 256,n % 256]) rfl) (by
   intro x hx
   simp at hx
   omega)
 rw[show eJ [n / 256 % 256,n % 256]=jL n from rfl] at hcv
 obtain⟨a,ha⟩:∃a,n / 256=a:=⟨_,rfl⟩
 rw[ha] at hsh e1 hb hcv
 clear ha
 generalize a % 256=x at *
 generalize n % 256=y at *
 go_enter func181,ntmps181
 go_wp2_with fail
 go_ret
 exact⟨rfl,hb⟩
theorem Cx (z:Int)(w:World):Calls Pg 179 #[X Y z] w fun e w'=>e=rT (bL (ey z 65535))∧w=w':=by
 by_cases h0:0≤z
 ·have d1:decide ((0:Int)≤z)=true:=decide_eq_true h0
  have HR:Hid (ey z 65535=decide (z≤65535)):=by show _=_;unfold ey;simp[h0]
  go_enter func179,ntmps179
  go_wp2_with fail
  go_ret
  exact⟨by rw[HR.out];rfl,rfl⟩
 ·have d1:decide ((0:Int)≤z)=false:=decide_eq_false h0
  have HR:Hid (ey z 65535=false):=by show _=_;unfold ey;simp[h0]
  go_enter func179,ntmps179
  go_wp2_with fail
  go_ret
  exact⟨by rw[HR.out];rfl,rfl⟩
theorem Cv (aa dp dm qp qm:Nat)(z:Int)(w:World)(h:dU w aa dp dm qp qm):Calls Pg 291 #[PT (some ⟨dp,0,none⟩),X Y z] w fun e w'=>e=rT (tU #[X Y 0,bL false])∧Below w.heap.size w w':=by
 have CM:=jH (Cx z)
 by_cases hz:0≤z∧z≤65535
 ·obtain⟨n,rfl⟩:=Int.eq_ofNat_of_zero_le hz.1
  rw[show ey (n:Int) 65535=true from decide_eq_true hz] at CM
  have hn:n≤65535:=by omega
  have CK:=jH (Cy n hn w.drew)
  have c0:w.drew.cell? ⟨dp,0,none⟩=some (PT (some ⟨qp,0,none⟩)):=by have:=h.blk.cell 0;simpa using this
  have H:=jH h
  clear h hz
  go_enter func291,ntmps291
  go_wp2_with fail
  refine(CM.out _).mono ?_
  rintro e w1 ⟨rfl,rfl⟩
  go_wp2_with fail
  go_region_held3 (fun wS=>wS.cell? ⟨dp,0,none⟩=some (PT (some ⟨qp,0,none⟩))) (first|with_reducible exact c0|with_reducible exact e0|fail)
   (first
    |(go_at_call 181;(with_reducible refine CK.out.mono ?_);rintro e w1 ⟨rfl,ae⟩;have k1:=H.out.blk.drew.below ae H.out.blk.lt;have e0:w1.cell? ⟨dp,0,none⟩=some (PT (some ⟨qp,0,none⟩)):=by {have:=k1.cell 0;simpa using this};have CA:=Cu aa qp qm (jL n) (Dc n) w1 (H.out.q.made ((bR _ _).drew.trans ae)))
    |(go_at_call 398;(with_reducible refine CA.mono ?_);rintro e w2 ⟨rfl,rfl⟩))
  all_goals
   have hbE:=jH ((bR w.heap.size w).drew.trans ae)
   clear ae CA
   go_wp2_with fail
   go_ret2
   exact⟨rfl,hbE.out⟩
 ·rw[show ey z 65535=false from decide_eq_false hz] at CM
  clear h hz
  go_enter func291,ntmps291
  go_wp2_with fail
  refine(CM.out _).mono ?_
  rintro e w1 ⟨rfl,rfl⟩
  go_wp2_with fail
  go_ret2
  exact⟨rfl,bR _ _⟩
theorem Cz (aa dp dm qp qm:Nat)(z:Int)(w:World)(h:dU w aa dp dm qp qm):Calls Pg 185 #[PT (some ⟨dp,0,none⟩),X Y z] w fun e w'=>e=rT (bL false)∧Below w.heap.size w w':=by
 have CU:=jH (Cv aa dp dm qp qm z w h)
 clear h
 go_enter func185,ntmps185
 go_wp2_with fail
 refine CU.out.mono ?_
 rintro e w1 ⟨rfl,hb⟩
 go_wp2_with fail
 go_ret
 exact⟨rfl,hb⟩
def bD (k:Tu):ByteArray:=eJ (du k)
theorem sq (k:Tu):aY (bD k):=by
 unfold aY
 have:(bD k).size=13:=by simp[bD,eJ,ByteArray.size,jW]
 omega
theorem B6 (k:Tu)(hk:bT k)(w:World):Calls Pg 290 #[bS k] w fun e w'=>e=rT (.string (bD k))∧Below w.heap.size w w':=by
 obtain⟨q,hq⟩:∃q,q=w.heap.size:=⟨_,rfl⟩
 have HQ:=jH hq
 have hb:=((bR w.heap.size w).alloc (nR _) (.cells k.vals 39)).alloc (by simp) (cL #[G none 0 0] 251)
 have hsz:((w.alloc (.cells k.vals 39)).alloc (cL #[G none 0 0] 251)).heap.size=q + 2:=by rw[hq];simp
 have hwb:bh ((w.alloc (.cells k.vals 39)).alloc (cL #[G none 0 0] 251)) (q + 1) (q + 1) []:=⟨nR _,none,0,ab.new_ (by rw[hq];simp),rfl,.inl ⟨rfl,rfl⟩⟩
 have CW:=jH (pI (q + 1) (q + 1) k hk _ hwb (by rw[hsz];omega))
 have ax:=jW k
 have hall:=jX k
 have HK:Hid (bD k=eJ (du k)):=rfl
 obtain⟨K,hK⟩:∃K,bD k=K:=⟨_,rfl⟩
 rw[hK] at HK⊢
 generalize du k=T at *
 obtain⟨src,dst,proto,sport,dport⟩:=k
 unfold bS
 unfold Tu.vals at *
 dsimp only at *
 rw[←hq] at hb
 clear hK hwb
 go_enter func290,ntmps290
 go_wp2_with fail
 rw[←hq]
 clear hq
 generalize (w.alloc (cL #[X Z src,X Z dst,X Y proto,X Y sport,X Y dport] 39)).alloc (cL #[G none 0 0] 251)=w0 at *
 refine CW.out.mono ?_
 rintro e w1 ⟨rfl,hw1,ae⟩
 have hs1:=ae.size
 have CB:=jH (ia (q + 1) (q + 1) T w1 hw1 (by omega))
 rw[ax] at CB
 have bf:=hb.trans (ae.mono (by omega))
 clear CW hw1 ae hb
 go_wp2_with fail
 refine CB.out.mono ?_
 rintro e w2 ⟨A2,c2,rfl,bH,af⟩
 have hcv:=lq (P:=Pg) (c:=c2) 23 9 5 underlying23 underlying5 underlying9 (Reads.of_own bH) hall
 rw[←HK.out] at hcv
 have HB:=jH (bf.trans (af.mono (by omega)))
 clear bH af bf CB
 go_wp2_with fail
 go_ret
 exact⟨rfl,HQ.out▸HB.out⟩
theorem sR (n:Nat)(h:n≤1099511627776)(w:World):Calls Pg 289 #[X Y n] w fun e w'=>e=rT (bL true)∧w=w':=by
 have d1:decide ((0:Int)≤(n:Int))=true:=decide_eq_true (by omega)
 have d2:decide ((n:Int)≤1099511627776)=true:=decide_eq_true (by omega)
 go_enter func289,ntmps289
 go_wp2_with fail
 go_ret
 exact⟨rfl,rfl⟩
theorem B5 (f:Fl)(hf:cI f)(w:World):Calls Pg 182 #[bj f] w fun e w'=>e=rT (bL true)∧Below w.heap.size w w':=by
 obtain⟨hk,bu,hb,hg,hs⟩:=hf
 have CT:=jH (jV f.k)
 rw[bu] at CT
 have CS:=jH (sR f.seen hs)
 have hx:=ab.new w 47 f.vals
 have ao:=(bR w.heap.size w).alloc (nR _) (.cells f.vals 47)
 obtain⟨⟨src,dst,proto,sport,dport⟩,be0,g0,seen⟩:=f
 unfold bj
 unfold Fl.vals Tu.vals at *
 dsimp only at *
 have d1:decide ((0:Int)≤(be0:Int))=true:=decide_eq_true (by omega)
 have d2:decide ((be0:Int)≤65535)=true:=decide_eq_true (by omega)
 have d3:decide ((0:Int)≤(g0:Int))=true:=decide_eq_true (by omega)
 have d4:decide ((g0:Int)≤1000000)=true:=decide_eq_true (by omega)
 obtain⟨q,hq⟩:∃q,q=w.heap.size:=⟨_,rfl⟩
 have HQ:=jH hq
 rw[←hq] at hx ao
 clear bu hk
 go_enter func182,ntmps182
 go_wp2_with fail
 rw[←hq]
 clear hq
 generalize w.alloc (cL #[X Z src,X Z dst,X Y proto,X Y sport,X Y dport,X Y be0,X Y g0,X Y seen] 47)=w0 at *
 refine(CT.out _).mono ?_
 rintro e w1 ⟨rfl,ae⟩
 have hx1:=hx.below ae hx.lt
 obtain⟨-,-,-,-,-,c5,c6,c7⟩:=hx1.c8
 have HB:=jH (ao.trans (ae.mono (Nat.le_of_lt hx.lt)))
 clear hx hx1 ao ae
 go_wp2_with fail
 refine(CS.out _).mono ?_
 rintro e w2 ⟨rfl,rfl⟩
 go_wp2_with fail
 go_ret
 exact⟨rfl,HQ.out▸HB.out⟩
def keysOf (fm:List (Tu×Fl)):List (ByteArray×Tu):=fm.map fun p=>(bD p.1,p.1)
structure gL (w:World)(aa tp tm tk qp most ah:Nat)(fm:List (Tu×Fl)):Prop where
 lot:aa≤tp
 lom:aa≤tm
 lok:aa≤tk
 ne:tm≠tk
 blk:ab w tp 150 #[X Y most,X Y ah,.map (some tm),.map (some tk),PT (some ⟨qp,0,none⟩)]
 mf:aL w bS bT bj tm fm
 ks:aL w Value.string aY bS tk (keysOf fm)
theorem gL.fr {w w':World}{aa base' tp tm tk qp most ah:Nat}{fm:List (Tu×Fl)}{K:List TypeId}{M:List Nat}(h:gL w aa tp tm tk qp most ah fm)(hf:Fr K M base' w w')(h1:150∉K)(h2:tm∉M)(h3:tk∉M):gL w' aa tp tm tk qp most ah fm:=⟨h.lot,h.lom,h.lok,h.ne,hf.blk _ _ _ h.blk h1,hf.mapIs h.mf h2,hf.mapIs h.ks h3⟩
theorem gL.made {w w':World}{aa tp tm tk qp most ah:Nat}{fm:List (Tu×Fl)}(h:gL w aa tp tm tk qp most ah fm)(hb:Below w.heap.size w w'):gL w' aa tp tm tk qp most ah fm:=⟨h.lot,h.lom,h.lok,h.ne,h.blk.below hb h.blk.lt,h.mf.below hb h.mf.lt,h.ks.below hb h.ks.lt⟩
def iN:Value:=aG #[X Z 0,X Z 0,X Y 0,X Y 0,X Y 0,X Y 0,X Y 0,X Y 0]
def jG (o:Option Fl):Value:=match o with|some f=>tU #[bj f,bL true]|none=>tU #[iN,bL false]
theorem su:(Pg.info? 47).map (·.size)=some 8:=by kernel_rfl
theorem oN (aa tp tm tk qp most ah:Nat)(fm:List (Tu×Fl))(k:Tu)(hk:bT k)(w:World)(h:gL w aa tp tm tk qp most ah fm):
  Calls Pg 104 #[PT (some ⟨tp,0,none⟩),bS k] w fun e w'=>e=rT (jG (av fm k))∧Below w.heap.size w w':=by
 have hm:=(h.mf.alloc (.cells k.vals 39)).alloc (cL #[X Z 0,X Z 0,X Y 0,X Y 0,X Y 0,X Y 0,X Y 0,X Y 0] 47)
 have hb:=(h.blk.alloc (.cells k.vals 39)).alloc (cL #[X Z 0,X Z 0,X Y 0,X Y 0,X Y 0,X Y 0,X Y 0,X Y 0] 47)
 have hx:=(ab.new w 39 k.vals).alloc (cL #[X Z 0,X Z 0,X Y 0,X Y 0,X Y 0,X Y 0,X Y 0,X Y 0] 47)
 have hlk:=hm.drew.lookup (P:=Pg) iO (t:=147) underlying147 (z:=iN) (by kernel_rfl) k hk true
 have hlkA:=fun o=>(hm.alloc o).drew.lookup (P:=Pg) iO (t:=147) underlying147 (z:=iN) (by kernel_rfl) k hk true
 obtain⟨-,-,c2⟩:=hb.c3
 have c2A:=fun o=>(hb.alloc o).cell 2
 simp only[ga,gz,gN] at c2A
 clear h hm hb
 generalize hg:av fm k=o at *
 clear hg
 obtain⟨src,dst,proto,sport,dport⟩:=k
 unfold bS at *
 unfold Tu.vals iN at *
 dsimp only at *
 simp only[if_true] at hlk hlkA
 cases o with
 |none=>
  dsimp only at hlk hlkA
  unfold jG iN
  dsimp only
  go_enter func104,ntmps104
  go_wp2_with fail
  go_region
  all_goals
   go_wp2_with fail
   refine bodyPost_ret (fU rfl _ _ (w.heap.size + 1) 47 _ (0,0) _ rfl (l6 w _ _ _ _) underlying47 rfl su) rfl ?_
   exact⟨rfl,(kN w _ _ _).drew⟩
 |some f=>
  dsimp only at hlk hlkA
  unfold jG
  obtain⟨⟨s2,d2,p2,sp2,dp2⟩,b2,g2,n2⟩:=f
  unfold bj Fl.vals at *
  dsimp only at *
  go_enter func104,ntmps104
  go_wp2_with fail
  go_region
  all_goals
   go_wp2_with fail
   refine bodyPost_ret (fU rfl _ _ (w.heap.size + 1) 47 _ (0,0) _ rfl (l6 w _ _ _ _) underlying47 rfl su) rfl ?_
   exact⟨rfl,(kN w _ _ _).drew⟩
end
section
open Go.RowKit Go.Maps
theorem ru {w:World}{aa n c g:Nat}{e:TypeId}{size:Nat}{xs:List Value}(h:w.ownsRow aa e size (G (some ⟨g,0,none⟩) n c) n xs):∃cur,ab w g e cur:=by
 rcases h.2 with⟨h1,_⟩|⟨g',cap,cur,h1,_,h2,_⟩
 ·cases h1
 ·injection h1 with h1
  injection h1 with h1
  injection h1 with h1
  subst h1
  exact⟨cur,h2⟩
theorem jC {w:World}{aa n c g j:Nat}{e:TypeId}{xs:List Value}{u:Value}(h:w.ownsRow aa e 1 (G (some ⟨g,0,none⟩) n c) n xs)(hu:xs[j]? =some u):w.cell? ⟨g,j,none⟩=some u:=by
 rcases h.2 with⟨h1,_⟩|⟨g',cap,cur,h1,h2,h3,h4,h5,h6,h7⟩
 ·cases h1
 ·injection h1 with h1 _ h1c
  injection h1 with h1
  injection h1 with h1
  subst h1
  have hb:ab w g e cur:=h3
  rw[hb.cell j]
  rw[←h7,List.getElem?_take] at hu
  split at hu
  ·simpa using hu
  ·cases hu
structure bC (qp:Nat)(K:List TypeId)(M:List Nat)(aa:Nat)(w w':World):Prop where
 toFr:Fr K M aa w w'
 que:∀g cs,ab w g 369 cs→g≠qp→ab w' g 369 cs
section
variable {K K':List TypeId}{M M':List Nat}{aa qp:Nat}{a b c w w':World}
theorem Fr.q (qp:Nat)(h:Fr K M aa w w')(hq:369∉K):bC qp K M aa w w':=⟨h,fun g cs h0 _=>h.blk g _ cs h0 hq⟩
theorem bC.refl (qp:Nat)(K:List TypeId)(M:List Nat)(aa:Nat)(w:World):bC qp K M aa w w:=⟨Fr.refl _ _ _ _,fun _ _ h _=>h⟩
theorem bC.trans (h:bC qp K M aa a b)(k:bC qp K M aa b c):bC qp K M aa a c:=⟨h.toFr.trans k.toFr,fun g cs h0 hn=>k.que g cs (h.que g cs h0 hn) hn⟩
theorem bC.mono (h:bC qp K M aa w w')(hK:∀t∈K,t∈K')(hM:∀b∈M,b∈M'):bC qp K' M' aa w w':=⟨h.toFr.mono hK hM,h.que⟩
theorem bC.made (h:bC qp K M aa a w)(k:Below w.heap.size w w')(hb:aa≤w.heap.size):bC qp K M aa a w':=⟨h.toFr.made k hb,fun g cs h0 hn=>(h.que g cs h0 hn).below k (h.que g cs h0 hn).lt⟩
theorem bC.drew (h:bC qp K M aa a w):bC qp K M aa a w.drew:=⟨h.toFr.drew,h.que⟩
theorem bC.size (h:bC qp K M aa w w'):w.heap.size≤w'.heap.size:=h.toFr.size
theorem bC.blk (h:bC qp K M aa w w'):∀g t cs,ab w g t cs→t∉K→ab w' g t cs:=h.toFr.blk
theorem bC.own {base0 n size:Nat}{e:TypeId}{v:Value}{xs:List Value}(h:bC qp K M aa w w')(ho:w.ownsRow base0 e size v n xs)(he:e∉K):w'.ownsRow base0 e size v n xs:=h.toFr.own ho he
theorem bC.mapIs {κ ν:Type}{ek:κ→Value}{ok:κ→Prop}{ev:ν→Value}{p:Nat}{m:List (κ×ν)}(h:bC qp K M aa w w')(hm:aL w ek ok ev p m)(hp:p∉M):aL w' ek ok ev p m:=h.toFr.mapIs hm hp
end
section
variable {w w':World}{aa qp qm g n c i j:Nat}{A:Option Addr}{l:List It}{a b:It}
theorem cq.fr {base':Nat}{K:List TypeId}{M:List Nat}(h:cq w aa qp qm A n c l)(hf:Fr K M base' w w')(h1:369∉K)(h2:376∉K)(h3:378∉K):cq w' aa qp qm A n c l:=
 ⟨h.loq,nT h.hi hf.size,hf.blk _ _ _ h.blk h1,hf.own h.row h2,fun j x hx=>⟨(h.its j x hx).1,(h.its j x hx).2.1,hf.blk _ _ _ (h.its j x hx).2.2 h3⟩⟩
theorem cq.made (h:cq w aa qp qm A n c l)(hb:Below w.heap.size w w'):cq w' aa qp qm A n c l:=
 h.fr (K:=[]) (M:=[]) (Fr.of_below [] [] hb h.hi) (by simp) (by simp) (by simp)
theorem cq.cell (h:cq w aa qp qm (some ⟨g,0,none⟩) n c l)(ha:l[i]? =some a):w.cell? ⟨g,i,none⟩=some (aW a.p):=jC h.row (AD ha)
theorem cq.at_ (h:cq w aa qp qm A n c l)(hi:i < n):∃a,l[i]? =some a:=⟨l[i]'(by rw[h.len];exact hi),List.getElem?_eq_getElem _⟩
theorem cq.swap (h:cq w aa qp qm (some ⟨g,0,none⟩) n c l)(ha:l[i]? =some a)(hb:l[j]? =some b)(az:i≠j):
  cq ((((w.setCell ⟨g,i,none⟩ (aW b.p)).setCell ⟨g,j,none⟩ (aW a.p)).setCell ⟨b.p,2,none⟩ (X Y i)).setCell ⟨a.p,2,none⟩ (X Y j)) aa qp qm (some ⟨g,0,none⟩) n c (fH l i j)∧
  Fr [376,378] [] aa w ((((w.setCell ⟨g,i,none⟩ (aW b.p)).setCell ⟨g,j,none⟩ (aW a.p)).setCell ⟨b.p,2,none⟩ (X Y i)).setCell ⟨a.p,2,none⟩ (X Y j)):=by
 obtain⟨cur,hg⟩:=ru h.row
 obtain⟨hap,hat,hab⟩:=h.its i a ha
 obtain⟨hbp,hbt,hbb⟩:=h.its j b hb
 have hgb:aa≤g:=by
  rcases h.row.2 with⟨h1,_⟩|⟨g',cap,cur,h1,h2,_⟩
  ·cases h1
  ·injection h1 with h1
   injection h1 with h1
   injection h1 with h1
   omega
 have hab':a.p≠b.p:=h.inj ha hb az
 have hga:=hg.ne_ hab (by decide)
 have hgbne:=hg.ne_ hbb (by decide)
 have hqg:=h.blk.ne_ hg (by decide)
 have hqa:=h.blk.ne_ hab (by decide)
 have hqb:=h.blk.ne_ hbb (by decide)
 have far4:∀{k:Nat} {t:TypeId} {cs:Array Value},ab w k t cs→k≠g→k≠a.p→k≠b.p→ab ((((w.setCell ⟨g,i,none⟩ (aW b.p)).setCell ⟨g,j,none⟩ (aW a.p)).setCell ⟨b.p,2,none⟩ (X Y i)).setCell ⟨a.p,2,none⟩ (X Y j)) k t cs:=
  fun hk h1 h2 h3=>(((hk.far (p:=⟨g,i,none⟩) h1 _).far (p:=⟨g,j,none⟩) h1 _).far (p:=⟨b.p,2,none⟩) h3 _).far (p:=⟨a.p,2,none⟩) h2 _
 have af:ab ((w.setCell ⟨g,i,none⟩ (aW b.p)).setCell ⟨g,j,none⟩ (aW a.p)) b.p 378 (fN b j):=(hbb.far (p:=⟨g,i,none⟩) (Ne.symm hgbne) _).far (p:=⟨g,j,none⟩) (Ne.symm hgbne) _
 have ha2:ab ((w.setCell ⟨g,i,none⟩ (aW b.p)).setCell ⟨g,j,none⟩ (aW a.p)) a.p 378 (fN a i):=(hab.far (p:=⟨g,i,none⟩) (Ne.symm hga) _).far (p:=⟨g,j,none⟩) (Ne.symm hga) _
 have al:ab (((w.setCell ⟨g,i,none⟩ (aW b.p)).setCell ⟨g,j,none⟩ (aW a.p)).setCell ⟨b.p,2,none⟩ (X Y i)) b.p 378 (fN b i):=af.set_ 2 _
 have ha3:ab (((w.setCell ⟨g,i,none⟩ (aW b.p)).setCell ⟨g,j,none⟩ (aW a.p)).setCell ⟨b.p,2,none⟩ (X Y i)) a.p 378 (fN a i):=ha2.far (p:=⟨b.p,2,none⟩) hab' _
 have aq:ab ((((w.setCell ⟨g,i,none⟩ (aW b.p)).setCell ⟨g,j,none⟩ (aW a.p)).setCell ⟨b.p,2,none⟩ (X Y i)).setCell ⟨a.p,2,none⟩ (X Y j)) b.p 378 (fN b i):=al.far (p:=⟨a.p,2,none⟩) (Ne.symm hab') _
 have ha4:ab ((((w.setCell ⟨g,i,none⟩ (aW b.p)).setCell ⟨g,j,none⟩ (aW a.p)).setCell ⟨b.p,2,none⟩ (X Y i)).setCell ⟨a.p,2,none⟩ (X Y j)) a.p 378 (fN a j):=ha3.set_ 2 _
 have hF:Fr [376,378] [] aa w ((((w.setCell ⟨g,i,none⟩ (aW b.p)).setCell ⟨g,j,none⟩ (aW a.p)).setCell ⟨b.p,2,none⟩ (X Y i)).setCell ⟨a.p,2,none⟩ (X Y j)):=
  ((((Fr.refl _ _ aa w).set_ hg (by simp) hgb i _).set_ (hg.set_ i _) (by simp) hgb j _).set_ af (by simp) hbp 2 _).set_ ha3 (by simp) hap 2 _
 refine⟨⟨h.loq,nT h.hi hF.size,far4 h.blk hqg hqa hqb,?_,?_⟩,hF⟩
 ·have r2:=((h.row.stored i (aW b.p)).1.stored j (aW a.p)).1
  have r4:=aB (aB r2 af (by decide) 2 (X Y i)) ha3 (by decide) 2 (X Y j)
  rw[qE ha hb]
  rwa [show ((fg l).set i (aW b.p)).set j (aW a.p)=fg ((l.set i b).set j a) from by simp[fg,List.map_set]] at r4
 ·intro k x hx
  rw[qE ha hb] at hx
  obtain⟨hil,-⟩:=List.getElem?_eq_some_iff.1 ha
  obtain⟨hjl,-⟩:=List.getElem?_eq_some_iff.1 hb
  by_cases hkj:k=j
  ·subst hkj
   rw[List.getElem?_set_self (by simpa using hjl)] at hx
   injection hx with hx
   subst hx
   exact⟨hap,hat,ha4⟩
  ·rw[List.getElem?_set_ne (Ne.symm hkj)] at hx
   by_cases hki:k=i
   ·subst hki
    rw[List.getElem?_set_self hil] at hx
    injection hx with hx
    subst hx
    exact⟨hbp,hbt,aq⟩
   ·rw[List.getElem?_set_ne (Ne.symm hki)] at hx
    obtain⟨h1,h2,h3⟩:=h.its k x hx
    exact⟨h1,h2,far4 h3 (hg.ne_ h3 (by decide)).symm (h.inj hx ha hki) (h.inj hx hb hkj)⟩
end
theorem sr (A:Option Addr)(n c:Nat)(w:World):Calls Pg 474 #[G A n c] w fun e w'=>e=rT (X Y n)∧w=w':=by
 go_enter func474,ntmps474
 go_wp2_with fail
 go_ret
 exact⟨rfl,rfl⟩
theorem ky (aa qp qm g n c i j:Nat)(l:List It)(w:World)(h:cq w aa qp qm (some ⟨g,0,none⟩) n c l)(hi:i < n)(hj:j < n):
  Calls Pg 475 #[G (some ⟨g,0,none⟩) n c,X Y i,X Y j] w fun e w'=>e=rT (bL (ep l i j))∧Below w.heap.size w w':=by
 obtain⟨a,ha⟩:=h.at_ hi
 obtain⟨b,hb⟩:=h.at_ hj
 have ca:=h.cell ha
 have cb:=h.cell hb
 have ka:=(h.its i a ha).2.2
 have kb:=(h.its j b hb).2.2
 have a0:=ka.cell 0
 have a1:=ka.cell 1
 have b0:=kb.cell 0
 have b1:=kb.cell 1
 unfold fN at a0 a1 b0 b1
 unfold aW at ca cb
 simp only[ga,gz,gN] at a0 a1 b0 b1
 have HE:Hid (ep l i j=(decide (a.tm < b.tm)||(decide (a.tm=b.tm)&&Op.bytesLess a.key.toList b.key.toList))):=Ag ha hb
 obtain⟨ap,ak,at_⟩:=a
 obtain⟨bp,bk,bt⟩:=b
 dsimp only at *
 clear h ka kb ha hb
 have HB:∀q,Below w.heap.size w (w.drewN q):=fun q=>⟨rfl,rfl,rfl,nR _,fun _ _=>rfl⟩
 rcases Nat.lt_trichotomy at_ bt with au|heq|hgt
 ·have d1:decide (at_ < bt)=true:=decide_eq_true (by omega)
  have HL:Hid (ep l i j=true):=by show _=_;rw[HE.out,decide_eq_true au];rfl
  clear HE au
  go_enter func475,ntmps475
  go_wp2_with fail
  go_quiet (fail)
  go_wp2_with fail
  go_ret
  exact⟨by rw[HL.out];rfl,HB _⟩
 ·subst heq
  have d1:decide (at_ < at_)=false:=decide_eq_false (by omega)
  have HL:Hid (ep l i j=Op.bytesLess ak.toList bk.toList):=by show _=_;rw[HE.out,decide_eq_false (Nat.lt_irrefl _),decide_eq_true rfl];simp
  clear HE
  go_enter func475,ntmps475
  go_wp2_with fail
  go_quiet (fail)
  go_wp2_with fail
  go_ret
  exact⟨by rw[HL.out];rfl,HB _⟩
 ·have d1:decide (at_ < bt)=false:=decide_eq_false (by omega)
  have d2:((at_:Int)==(bt:Int))=false:=by rw[beq_eq_false_iff_ne];omega
  have HL:Hid (ep l i j=false):=by show _=_;rw[HE.out,decide_eq_false (by omega),decide_eq_false (by omega)];rfl
  clear HE hgt
  go_enter func475,ntmps475
  go_wp2_with fail
  go_quiet (fail)
  go_wp2_with fail
  go_ret
  exact⟨by rw[HL.out];rfl,HB _⟩
end
section
open Go.RowKit Go.Maps
theorem AJ:(Pg.info? 376).map (fun i=>(i.zero,i.size,i.bytes))=some (some (PT none),1,8):=by kernel_rfl
theorem lO (aa qp qm g n c i j:Nat)(l:List It)(w:World)(h:cq w aa qp qm (some ⟨g,0,none⟩) n c l)(hi:i < n)(hj:j < n)(az:i≠j):
  Calls Pg 476 #[G (some ⟨g,0,none⟩) n c,X Y i,X Y j] w fun e w'=>e=rT (tU #[])∧cq w' aa qp qm (some ⟨g,0,none⟩) n c (fH l i j)∧Fr [376,378] [] aa w w':=by
 obtain⟨a,ha⟩:=h.at_ hi
 obtain⟨b,hb⟩:=h.at_ hj
 have HS:=jH (h.swap ha hb az)
 have ca:=h.cell ha
 have cb:=h.cell hb
 obtain⟨cur,hg⟩:=ru h.row
 have fi:w.frozen? ⟨g,i,none⟩=false:=hg.frozen i
 have fj:w.frozen? ⟨g,j,none⟩=false:=hg.frozen j
 have ka:=(h.its i a ha).2.2
 have kb:=(h.its j b hb).2.2
 have hga:g≠a.p:=hg.ne_ ka (by decide)
 have hgb:g≠b.p:=hg.ne_ kb (by decide)
 have hab:=h.inj ha hb az
 have fa:=ka.frozen 2
 have fb:=kb.frozen 2
 have ca2:=ka.cell 2
 have cb2:=kb.cell 2
 unfold fN at ca2 cb2
 simp only[ga,gz,gN] at ca2 cb2
 have hga':=hga.symm
 have hgb':=hgb.symm
 have hab':=hab.symm
 have hne':=az.symm
 generalize fH l i j=l' at *
 obtain⟨ap,ak,at_⟩:=a
 obtain⟨bp,bk,bt⟩:=b
 dsimp only at *
 unfold aW at *
 clear h hg ka kb ha hb
 go_enter func476,ntmps476
 go_wp2_with fail
 go_region
 all_goals
  go_wp2_with fail
  go_region
  all_goals
   go_wp2_with fail
   go_end0
   exact⟨rfl,HS.out.1.made ((bR _ _).drew.drew),HS.out.2.drew.drew⟩
theorem cq.push {w:World}{aa qp qm n c k:Nat}{A:Option Addr}{l:List It}{x:It}{v0:Value}(h:cq w aa qp qm A n c l)(hx:ab w x.p 378 #[.string x.key,X Y x.tm,v0])(hxb:aa≤x.p)(hxt:x.tm≤1099511627776)(hnew:∀(j:Nat) (y:It),l[j]? =some y→y.p≠x.p)(hk:n + 1=k)
  (A':Option Addr)(c':Nat)(w':World)(o:Obj)(hown:w'.ownsRow aa 376 1 (G A' k c') k (fg l++[aW x.p]))(hg:((w.setCell ⟨x.p,2,none⟩ (X Y n)).alloc o).grownBy w' (Value.slice A n c).ownBlock):
  cq (w'.setCell ⟨qp,0,none⟩ (G A' k c')) aa qp qm A' k c' (l++[x])∧bC qp [369,376,378] [] aa w (w'.setCell ⟨qp,0,none⟩ (G A' k c')):=by
 have f1:Fr [369,376,378] [] aa w (w.setCell ⟨x.p,2,none⟩ (X Y n)):=(Fr.refl _ _ aa w).set_ hx (by simp) hxb 2 _
 have row1:=aB h.row hx (by decide) 2 (X Y n)
 have hqx:=h.blk.ne_ hx (by decide)
 have q1:=h.blk.far (p:=⟨x.p,2,none⟩) hqx (X Y n)
 have x1:ab (w.setCell ⟨x.p,2,none⟩ (X Y n)) x.p 378 (fN x n):=hx.set_ 2 _
 have hs1:aa≤(w.setCell ⟨x.p,2,none⟩ (X Y n)).heap.size:=nT h.hi f1.size
 have f2:Fr [369,376,378] [] aa w ((w.setCell ⟨x.p,2,none⟩ (X Y n)).alloc o):=f1.made ((bR _ _).alloc (nR _) _) hs1
 have hs2:aa≤((w.setCell ⟨x.p,2,none⟩ (X Y n)).alloc o).heap.size:=nT h.hi f2.size
 have f3:=f2.grown (row1.alloc o) hg (by simp) (nR _) hs2
 have q3:ab w' qp 369 #[G A n c,.map (some qm)]:=(q1.alloc o).grown hg (fun e=>dj (row1.alloc o) (q1.alloc o) (by decide) e.symm)
 have x3:ab w' x.p 378 (fN x n):=(x1.alloc o).grown hg (fun e=>dj (row1.alloc o) (x1.alloc o) (by decide) e.symm)
 refine⟨⟨h.loq,nT h.hi (f3.set_ q3 (by simp) h.loq 0 (G A' k c')).size,q3.set_ 0 _,?_,?_⟩,⟨f3.set_ q3 (by simp) h.loq 0 _,fun k cs hk az=>?_⟩⟩
 ·have:=aB hown q3 (by decide) 0 (G A' k c')
  rwa [show fg l++[aW x.p]=fg (l++[x]) from by simp[fg]] at this
 ·intro j y hy
  have ax:=h.len
  by_cases hj:j < l.length
  ·rw[List.getElem?_append_left hj] at hy
   obtain⟨h1,h2,h3⟩:=h.its j y hy
   have h4:=h3.far (p:=⟨x.p,2,none⟩) (hnew j y hy) (X Y n)
   have h5:ab w' y.p 378 (fN y j):=(h4.alloc o).grown hg (fun e=>dj (row1.alloc o) (h4.alloc o) (by decide) e.symm)
   exact⟨h1,h2,h5.far (p:=⟨qp,0,none⟩) (h5.ne_ q3 (by decide)) _⟩
  ·have hjl:=(List.getElem?_eq_some_iff.1 hy).1
   have hj2:j=l.length:=by simp at hjl;omega
   subst hj2
   rw[List.getElem?_append_right (nR _)] at hy
   simp at hy
   subst hy
   rw[ax]
   exact⟨hxb,hxt,x3.far (p:=⟨qp,0,none⟩) (x3.ne_ q3 (by decide)) _⟩
 ·have k1:=hk.far (p:=⟨x.p,2,none⟩) (hk.ne_ hx (by decide)) (X Y n)
  have k3:ab w' k 369 cs:=(k1.alloc o).grown hg (fun e=>dj (row1.alloc o) (k1.alloc o) (by decide) e.symm)
  exact k3.far (p:=⟨qp,0,none⟩) az _
theorem AB (aa qp qm n c p:Nat)(A:Option Addr)(key:ByteArray)(tm:Nat)(l:List It)(v0:Value)(w:World)(h:cq w aa qp qm A n c l)(hx:ab w p 378 #[.string key,X Y tm,v0])(hxb:aa≤p)(hxt:tm≤1099511627776)(hnew:∀(j:Nat) (y:It),l[j]? =some y→y.p≠p)(hn:n≤100000):
  Calls Pg 478 #[PT (some ⟨qp,0,none⟩),.iface 376 (PT (some ⟨p,0,none⟩))] w fun e w'=>e=rT (tU #[])∧(∃A' c',cq w' aa qp qm A' (n + 1) c' (l++[⟨p,key,tm⟩]))∧bC qp [369,376,378] [] aa w w':=by
 have H:=jH h
 have HX:=jH (aI hx hnew)
 have c0:=h.blk.c1
 obtain⟨-,-,cx⟩:=hx.c3
 have fx:=hx.frozen 2
 have hqx:=h.blk.ne_ hx (by decide)
 have q1:=h.blk.far (p:=⟨p,2,none⟩) hqx (X Y n)
 have c1:=q1.c1
 have f1:=q1.frozen 0
 have row1:=aB h.row hx (by decide) 2 (X Y n)
 have au:=hx.lt
 have hq:=h.blk.lt
 have hhi:=h.hi
 have hta:∀W:World,(Instr.typeAssert (.iface 376 (PT (some ⟨p,0,none⟩))) 20 376 true).run Pg W=.ok (tU #[PT (some ⟨p,0,none⟩),bL true]) W:=fun W=>by kernel_rfl
 clear h hx hnew
 go_enter func478,ntmps478
 go_wp2_with (at_builtin;refine cu ?_)
 refine cw ?_
 refine pK rfl (.tmp 22) (.tmp 24) _ rfl 376 _ AJ rfl underlying367 aa (G A n c) n _ rfl (row1.alloc _) (w.heap.size + 1) _ 1 1 [PT (some ⟨p,0,none⟩)] rfl
  (dQ _ _ _ _ 1 _ _ (by rfl) (by simp) (by simp) _ (by rfl)) (by intro u hu;rw[List.mem_singleton.1 hu];rfl) (n + 1) rfl (by omega) (by simp;omega) ?_
 intro A9 c9 w9 hown9 hb9 hg9 _
 have HP:=jH (H.out.push (x:=⟨p,key,tm⟩) HX.out.1 hxb hxt HX.out.2 rfl A9 c9 w9 _ hown9 hg9)
 have qA:=q1.alloc (cL #[PT (some ⟨p,0,none⟩)] 376)
 have rA:=row1.alloc (cL #[PT (some ⟨p,0,none⟩)] 376)
 have q9:=qA.grown hg9 (fun e=>dj rA qA (by decide) e.symm)
 have d0:=q9.c1
 have d1:=q9.frozen 0
 clear hown9 hb9 hg9 q9 q1 row1 c0 cx fx c1 f1 qA rA
 go_wp2_with fail
 go_end0
 exact⟨rfl,⟨A9,c9,HP.out.1⟩,HP.out.2⟩
end
section
open Go.RowKit Go.Maps Go.Shelf
theorem xg {P:Program}(ty ty2:TypeId)(a:Addr)(x y:String)(w:World):(Builtin.ssaWrapNilChk_ #[ty] ty2 #[PT (some a),strVal x,strVal y]).run P w=.ok (PT (some a)) w:=rfl
theorem np {P:Program}{T E:TypeId}{f:FuncId}{name:String}{b fuel:Nat}{u:Value}{w:World}(hm:((P.info? T).bind fun i=>(i.methods.find? (·.name==name)).map fun m=>(m.path.size,m.func))=some (0,some (f,false)))
  (ht:P.underlying T=some (.pointer E))(hl:(loadVar E ⟨b,0,none⟩).run P w=.ok u w):(method (fuel + 1) T (PT (some ⟨b,0,none⟩)) name).run P w=.ok (f,u) w:=by
 obtain⟨i,hi,h1⟩:=Option.bind_eq_some_iff.1 hm
 obtain⟨m,hm1,h2⟩:=Option.map_eq_some_iff.1 h1
 injection h2 with hp hf
 have hp':m.path=#[]:=Array.eq_empty_of_size_eq_zero hp
 simp[method,typeInfo,hi,hm1,hp',hf,follow,receiverAt,run_underlying ht,Place.get,xg,asAddr,hl,Result.andThen]
theorem gD (W:World)(qp n c:Nat)(A:Option Addr)(hc:W.cell? ⟨qp,0,none⟩=some (G A n c)):
  (method 621 380 (PT (some ⟨qp,0,none⟩)) "Len").run Pg W=.ok (474,G A n c) W∧
  (method 621 380 (PT (some ⟨qp,0,none⟩)) "Less").run Pg W=.ok (475,G A n c) W∧
  (method 621 380 (PT (some ⟨qp,0,none⟩)) "Swap").run Pg W=.ok (476,G A n c) W:=by
 have hl:(loadVar 367 ⟨qp,0,none⟩).run Pg W=.ok (G A n c) W:=by
  simp[loadVar,run_isAgg_plain underlying367 rfl,hc,Result.andThen]
 exact⟨np (by kernel_rfl) underlying380 hl,np (by kernel_rfl) underlying380 hl,np (by kernel_rfl) underlying380 hl⟩
theorem zv (W:World)(qp:Nat):
  (method 621 380 (PT (some ⟨qp,0,none⟩)) "Push").run Pg W=.ok (478,PT (some ⟨qp,0,none⟩)) W∧
  (method 621 380 (PT (some ⟨qp,0,none⟩)) "Pop").run Pg W=.ok (477,PT (some ⟨qp,0,none⟩)) W:=by
 exact⟨by kernel_rfl,by kernel_rfl⟩
end
section
open Go.RowKit Go.Maps
theorem sx (aa qp qm g n c j:Nat)(l:List It)(w:World)(h:cq w aa qp qm (some ⟨g,0,none⟩) n c l)(hj:j < n)(hn:n≤100000):
  Calls Pg 397 #[.iface 380 (PT (some ⟨qp,0,none⟩)),X Y j] w fun e w'=>e=rT (tU #[])∧(∃l',eF l j l'∧cq w' aa qp qm (some ⟨g,0,none⟩) n c l')∧Fr [376,378] [] aa w w':=by
 have HN:=jH hn
 have HR0:Hid (∀l',eF l j l'→eF l j l'):=fun _ h=>h
 have H:=jH h
 clear h hn
 go_enter func397,ntmps397
 go_wp2_with fail
 go_loopw [1] (fun x wr=>∃(k:Nat) (lc:List It),x=X Y k∧k < n∧Hid (∀l',eF lc k l'→eF l j l')∧cq wr aa qp qm (some ⟨g,0,none⟩) n c lc∧Fr [376,378] [] aa w wr) (fun x _=>(intOf x).toNat)
 case atStart=>exact⟨j,l,rfl,hj,HR0,H.out,Fr.refl _ _ _ _⟩
 case round=>
  obtain⟨k,lc,rfl,hk,hR,hW,hfr⟩:=hrel
  have HF:=jH (aI hW hfr)
  by_cases hk0:k=0
  ·subst hk0
   clear hW hfr
   go_wp2_with fail
   go_end0
   exact⟨rfl,⟨lc,hR.out _ (eF.zero _),HF.out.1⟩,HF.out.2⟩
  ·have hn:=HN.out
   obtain⟨i,hi⟩:∃i,(k - 1) / 2=i:=⟨_,rfl⟩
   have e1:IntKind.i64.wrap ((k:Int) - 1)=(k:Int) - 1:=IntWalk.i64_in _ (by omega)
   have e2:((k:Int) - 1) / 2=(i:Int):=by omega
   have e3:((k:Int) - 1).tdiv 2=(i:Int):=by rw[Int.tdiv_eq_ediv_of_nonneg (by omega)];exact e2
   have e4:((i:Int)==(k:Int))=false:=by rw[beq_eq_false_iff_ne];omega
   have hin:i < n:=by omega
   have hik:i≠k:=by omega
   have c0:=hW.blk.c1
   have mL:=(gD wr qp n c _ c0).2.1
   have CL:=jH (ky aa qp qm g n c k i lc wr hW hk hin)
   have HI:=jH hi
   have HK:=jH hk0
   clear hW hfr hi hk0
   cases hle:ep lc k i with
   |false=>
    rw[hle] at CL
    have HL:=jH hle
    clear hle
    go_wp2_with fail
    refine CL.out.mono ?_
    rintro e w1 ⟨rfl,ae⟩
    have HE:=jH (aI (HF.out.1.made ae) (HF.out.2.made ae HF.out.1.hi))
    clear ae mL c0 e1 e2 e3 e4
    go_wp2_with fail
    go_end0
    exact⟨rfl,⟨lc,hR.out _ (eF.stop _ _ (by have:=HK.out;omega) (by rw[HI.out];exact HL.out)),HE.out.1⟩,HE.out.2⟩
   |true=>
    rw[hle] at CL
    have HL:=jH hle
    clear hle
    go_wp2_with fail
    refine CL.out.mono ?_
    rintro e w1 ⟨rfl,ae⟩
    have HE:=jH (aI (HF.out.1.made ae) (HF.out.2.made ae HF.out.1.hi))
    have c1:=HE.out.1.blk.c1
    have mS:=(gD w1 qp n c _ c1).2.2
    have CS:=jH (lO aa qp qm g n c i k lc w1 HE.out.1 hin hk hik)
    clear ae mL c0
    go_wp2_with fail
    refine CS.out.mono ?_
    rintro e w2 ⟨rfl,hW2,hf2⟩
    have HG:=jH (aI hW2 (HE.out.2.trans hf2))
    clear hW2 hf2 c1 mS
    go_wp2_with fail
    go_roundw
    case rel=>exact⟨i,fH lc i k,rfl,hin,fun l' hl'=>hR.out _ (eF.step _ _ _ (by have:=HK.out;omega) (by rw[HI.out];exact HL.out) (by rw[HI.out];exact hl')),HG.out.1,HG.out.2⟩
    case measure=>have:=HI.out;have:=HK.out;simp[intOf];omega
theorem Bh (aa qp qm g n c i m:Nat)(l:List It)(w:World)(h:cq w aa qp qm (some ⟨g,0,none⟩) n c l)(hi:i < m)(hm:m≤n)(hn:n≤100000):
  Calls Pg 396 #[.iface 380 (PT (some ⟨qp,0,none⟩)),X Y i,X Y m] w fun e w'=>(∃l' i',e=rT (bL (decide (i < i')))∧ea m l i l' i'∧cq w' aa qp qm (some ⟨g,0,none⟩) n c l')∧Fr [376,378] [] aa w w':=by
 have HN:=jH (aI hm hn)
 have HR0:Hid (∀l' i',ea m l i l' i'→ea m l i l' i'):=fun _ _ h=>h
 have H:=jH h
 clear h hn hm
 go_enter func396,ntmps396
 go_wp2_with fail
 go_loopw [7] (fun x wr=>∃(k:Nat) (lc:List It),x=X Y k∧k < m∧i≤k∧Hid (∀l' i',ea m lc k l' i'→ea m l i l' i')∧cq wr aa qp qm (some ⟨g,0,none⟩) n c lc∧Fr [376,378] [] aa w wr) (fun x _=>m - (intOf x).toNat)
 case atStart=>exact⟨i,l,rfl,hi,nR _,HR0,H.out,Fr.refl _ _ _ _⟩
 case round=>
  obtain⟨k,lc,rfl,hk,hik,hR,hW,hfr⟩:=hrel
  have HF:=jH (aI hW hfr)
  obtain⟨hm,hn⟩:=HN.out
  obtain⟨j1,hj1⟩:∃j1,2 * k + 1=j1:=⟨_,rfl⟩
  have e2:2 * (k:Int) + 1=(j1:Int):=by omega
  obtain⟨j2,hj2⟩:∃j2,j1 + 1=j2:=⟨_,rfl⟩
  have e3:(j1:Int) + 1=(j2:Int):=by omega
  have hkn:k < n:=by omega
  have c0:=hW.blk.c1
  have mL:=(gD wr qp n c _ c0).2.1
  by_cases hout:m≤j1
  ·have d1:decide (m≤j1)=true:=decide_eq_true hout
   have HL:Hid (ea m lc k lc k):=by subst hj1;exact ea.out _ _ hout
   clear hW hfr hj1 hj2 hout
   go_wp2_with fail
   go_ret
   exact⟨⟨lc,k,rfl,hR.out _ _ HL.out,HF.out.1⟩,HF.out.2⟩
  ·have d1:decide (m≤j1)=false:=decide_eq_false hout
   have hj1n:j1 < n:=by omega
   have HKD0:Hid (gE lc k m=if j2 < m∧ep lc j2 j1=true then j2 else j1):=by
    show _=_
    subst hj2
    subst hj1
    rfl
   have HJ:=jH (aI hj1 hj2)
   have hjj:=jH hout
   by_cases hj2m:j2 < m
   ·have d2:decide (j2 < m)=true:=decide_eq_true hj2m
    have CL:=jH (ky aa qp qm g n c j2 j1 lc wr hW (by omega) hj1n)
    have hjj:=jH (aI hout hj2m)
    clear hW hfr hj1 hj2 hout
    cases hle:ep lc j2 j1 with
    |true=>
     have HKD:Hid (gE lc k m=j2):=by show _=_;rw[HKD0.out,if_pos ⟨hj2m,hle⟩]
     rw[hle] at CL
     clear hle hj2m
     go_wp2_with fail
     refine CL.out.mono ?_
     rintro e w1 ⟨rfl,ae⟩
     have HE:=jH (aI (HF.out.1.made ae) (HF.out.2.made ae HF.out.1.hi))
     clear ae mL c0
     have c1:=HE.out.1.blk.c1
     have mL1:=(gD w1 qp n c _ c1).2.1
     have hkdn:j2 < n:=by have:=HJ.out;have:=HN.out;have:=hjj.out;omega
     have CL1:=jH (ky aa qp qm g n c j2 k lc w1 HE.out.1 hkdn hkn)
     have az:k≠j2:=by have:=HJ.out;omega
     cases hl2:ep lc j2 k with
     |false=>
      rw[hl2] at CL1
      have HL2:=jH hl2
      clear hl2 hkdn az
      go_wp2_with fail
      refine CL1.out.mono ?_
      rintro e w2 ⟨rfl,af⟩
      have HG:=jH (aI (HE.out.1.made af) (HE.out.2.made af HE.out.1.hi))
      clear af mL1 c1 CL1
      go_wp2_with fail
      go_ret
      exact⟨⟨lc,k,rfl,hR.out _ _ (ea.stop _ _ (by have:=HJ.out;have:=hjj.out;omega) (by rw[HKD.out];exact HL2.out)),HG.out.1⟩,HG.out.2⟩
     |true=>
      rw[hl2] at CL1
      have HL2:=jH hl2
      clear hl2
      go_wp2_with fail
      refine CL1.out.mono ?_
      rintro e w2 ⟨rfl,af⟩
      have HG:=jH (aI (HE.out.1.made af) (HE.out.2.made af HE.out.1.hi))
      have c2:=HG.out.1.blk.c1
      have mS:=(gD w2 qp n c _ c2).2.2
      have CS:=jH (lO aa qp qm g n c k j2 lc w2 HG.out.1 hkn hkdn az)
      clear af mL1 c1 CL1
      go_wp2_with fail
      refine CS.out.mono ?_
      rintro e w3 ⟨rfl,hW3,hf3⟩
      have HS:=jH (aI hW3 (HG.out.2.trans hf3))
      clear hW3 hf3 c2 mS CS
      go_wp2_with fail
      go_roundw
      case rel=>exact⟨j2,fH lc k j2,rfl,by have:=HJ.out;have:=hjj.out;omega,by have:=HJ.out;omega,fun l' i' hl'=>hR.out _ _ (ea.step _ _ _ _ (by have:=HJ.out;have:=hjj.out;omega) (by rw[HKD.out];exact HL2.out) (by rw[HKD.out];exact hl')),HS.out.1,HS.out.2⟩
      case measure=>have:=HJ.out;have:=hjj.out;simp[intOf];omega
    |false=>
     have HKD:Hid (gE lc k m=j1):=by show _=_;rw[HKD0.out,if_neg (fun h=>by rw[hle] at h;exact absurd h.2 (by decide))]
     rw[hle] at CL
     clear hle hj2m
     go_wp2_with fail
     refine CL.out.mono ?_
     rintro e w1 ⟨rfl,ae⟩
     have HE:=jH (aI (HF.out.1.made ae) (HF.out.2.made ae HF.out.1.hi))
     clear ae mL c0
     have c1:=HE.out.1.blk.c1
     have mL1:=(gD w1 qp n c _ c1).2.1
     have hkdn:j1 < n:=by have:=HJ.out;have:=HN.out;have:=hjj.out;omega
     have CL1:=jH (ky aa qp qm g n c j1 k lc w1 HE.out.1 hkdn hkn)
     have az:k≠j1:=by have:=HJ.out;omega
     cases hl2:ep lc j1 k with
     |false=>
      rw[hl2] at CL1
      have HL2:=jH hl2
      clear hl2 hkdn az
      go_wp2_with fail
      refine CL1.out.mono ?_
      rintro e w2 ⟨rfl,af⟩
      have HG:=jH (aI (HE.out.1.made af) (HE.out.2.made af HE.out.1.hi))
      clear af mL1 c1 CL1
      go_wp2_with fail
      go_ret
      exact⟨⟨lc,k,rfl,hR.out _ _ (ea.stop _ _ (by have:=HJ.out;have:=hjj.out;omega) (by rw[HKD.out];exact HL2.out)),HG.out.1⟩,HG.out.2⟩
     |true=>
      rw[hl2] at CL1
      have HL2:=jH hl2
      clear hl2
      go_wp2_with fail
      refine CL1.out.mono ?_
      rintro e w2 ⟨rfl,af⟩
      have HG:=jH (aI (HE.out.1.made af) (HE.out.2.made af HE.out.1.hi))
      have c2:=HG.out.1.blk.c1
      have mS:=(gD w2 qp n c _ c2).2.2
      have CS:=jH (lO aa qp qm g n c k j1 lc w2 HG.out.1 hkn hkdn az)
      clear af mL1 c1 CL1
      go_wp2_with fail
      refine CS.out.mono ?_
      rintro e w3 ⟨rfl,hW3,hf3⟩
      have HS:=jH (aI hW3 (HG.out.2.trans hf3))
      clear hW3 hf3 c2 mS CS
      go_wp2_with fail
      go_roundw
      case rel=>exact⟨j1,fH lc k j1,rfl,by have:=HJ.out;have:=hjj.out;omega,by have:=HJ.out;omega,fun l' i' hl'=>hR.out _ _ (ea.step _ _ _ _ (by have:=HJ.out;have:=hjj.out;omega) (by rw[HKD.out];exact HL2.out) (by rw[HKD.out];exact hl')),HS.out.1,HS.out.2⟩
      case measure=>have:=HJ.out;have:=hjj.out;simp[intOf];omega
   ·have d2:decide (j2 < m)=false:=decide_eq_false hj2m
    have HKD:Hid (gE lc k m=j1):=by show _=_;rw[HKD0.out,if_neg (fun h=>hj2m h.1)]
    have HE:=jH (aI hW hfr)
    clear hW hfr hj1 hj2 hout hj2m mL c0
    have c1:=HE.out.1.blk.c1
    have mL1:=(gD wr qp n c _ c1).2.1
    have hkdn:j1 < n:=by have:=HJ.out;have:=HN.out;have:=hjj.out;omega
    have CL1:=jH (ky aa qp qm g n c j1 k lc wr HE.out.1 hkdn hkn)
    have az:k≠j1:=by have:=HJ.out;omega
    cases hl2:ep lc j1 k with
    |false=>
     rw[hl2] at CL1
     have HL2:=jH hl2
     clear hl2 hkdn az
     go_wp2_with fail
     refine CL1.out.mono ?_
     rintro e w2 ⟨rfl,af⟩
     have HG:=jH (aI (HE.out.1.made af) (HE.out.2.made af HE.out.1.hi))
     clear af mL1 c1 CL1
     go_wp2_with fail
     go_ret
     exact⟨⟨lc,k,rfl,hR.out _ _ (ea.stop _ _ (by have:=HJ.out;have:=hjj.out;omega) (by rw[HKD.out];exact HL2.out)),HG.out.1⟩,HG.out.2⟩
    |true=>
     rw[hl2] at CL1
     have HL2:=jH hl2
     clear hl2
     go_wp2_with fail
     refine CL1.out.mono ?_
     rintro e w2 ⟨rfl,af⟩
     have HG:=jH (aI (HE.out.1.made af) (HE.out.2.made af HE.out.1.hi))
     have c2:=HG.out.1.blk.c1
     have mS:=(gD w2 qp n c _ c2).2.2
     have CS:=jH (lO aa qp qm g n c k j1 lc w2 HG.out.1 hkn hkdn az)
     clear af mL1 c1 CL1
     go_wp2_with fail
     refine CS.out.mono ?_
     rintro e w3 ⟨rfl,hW3,hf3⟩
     have HS:=jH (aI hW3 (HG.out.2.trans hf3))
     clear hW3 hf3 c2 mS CS
     go_wp2_with fail
     go_roundw
     case rel=>exact⟨j1,fH lc k j1,rfl,by have:=HJ.out;have:=hjj.out;omega,by have:=HJ.out;omega,fun l' i' hl'=>hR.out _ _ (ea.step _ _ _ _ (by have:=HJ.out;have:=hjj.out;omega) (by rw[HKD.out];exact HL2.out) (by rw[HKD.out];exact hl')),HS.out.1,HS.out.2⟩
     case measure=>have:=HJ.out;have:=hjj.out;simp[intOf];omega
theorem Bg (aa qp qm g n c i:Nat)(l:List It)(w:World)(h:cq w aa qp qm (some ⟨g,0,none⟩) n c l)(hi:i < n)(hn:n≤100000):
  Calls Pg 287 #[.iface 380 (PT (some ⟨qp,0,none⟩)),X Y i] w fun e w'=>e=rT (tU #[])∧(∃l',my n l i l'∧cq w' aa qp qm (some ⟨g,0,none⟩) n c l')∧Fr [376,378] [] aa w w':=by
 have H:=jH (aI h hn)
 have CD:=jH (Bh aa qp qm g n c i n l w h hi (nR _) hn)
 have c0:=h.blk.c1
 have mN:=(gD w qp n c _ c0).1
 have HI:=jH hi
 clear h hi hn
 go_enter func287,ntmps287
 go_wp2_with fail
 refine(sr _ _ _ _).mono ?_
 rintro e w1 ⟨rfl,rfl⟩
 go_wp2_with fail
 refine CD.out.mono ?_
 rintro e w2 ⟨⟨l1,i1,rfl,hD,hW⟩,hf⟩
 have HE:=jH (aI hW hf)
 have HD:=jH hD
 clear hW hf hD mN c0
 by_cases au:i < i1
 ·have d1:decide (i < i1)=true:=decide_eq_true au
  have HL:=jH au
  clear au
  go_wp2_with fail
  go_end0
  exact⟨rfl,⟨l1,⟨l1,i1,HD.out,by rw[if_pos HL.out]⟩,HE.out.1⟩,HE.out.2⟩
 ·have d1:decide (i < i1)=false:=decide_eq_false au
  have HL:=jH au
  have CU:=jH (sx aa qp qm g n c i l1 w2 HE.out.1 HI.out H.out.2)
  clear au
  go_wp2_with fail
  refine CU.out.mono ?_
  rintro e w3 ⟨rfl,⟨l3,hU,hW3⟩,hf3⟩
  have HG:=jH (aI hU (aI hW3 (HE.out.2.trans hf3)))
  clear hU hW3 hf3
  go_wp2_with fail
  go_end0
  exact⟨rfl,⟨l3,⟨l1,i1,HD.out,by rw[if_neg HL.out];exact HG.out.1⟩,HG.out.2.1⟩,HG.out.2.2⟩
theorem Bf (aa qp qm n c p:Nat)(A:Option Addr)(key:ByteArray)(tm:Nat)(l:List It)(v0:Value)(w:World)(h:cq w aa qp qm A n c l)(hx:ab w p 378 #[.string key,X Y tm,v0])(hxb:aa≤p)(hxt:tm≤1099511627776)(hnew:∀(j:Nat) (y:It),l[j]? =some y→y.p≠p)(hn:n≤90000):
  Calls Pg 288 #[.iface 380 (PT (some ⟨qp,0,none⟩)),.iface 376 (PT (some ⟨p,0,none⟩))] w fun e w'=>e=rT (tU #[])∧(∃A' c' l',eF (l++[⟨p,key,tm⟩]) n l'∧cq w' aa qp qm A' (n + 1) c' l')∧bC qp [369,376,378] [] aa w w':=by
 have mP:=(zv w qp).1
 have CP:=jH (AB aa qp qm n c p A key tm l v0 w h hx hxb hxt hnew (by omega))
 have HN:=jH hn
 clear h hx hxb hxt hnew hn
 go_enter func288,ntmps288
 go_wp2_with fail
 refine CP.out.mono ?_
 rintro e w1 ⟨rfl,⟨A',c',hW⟩,hf⟩
 obtain⟨g,rfl,-,-⟩:=fy hW.row (by omega)
 have HE:=jH (aI hW hf)
 have c0:=hW.blk.c1
 have CU:=jH (sx aa qp qm g (n + 1) c' n (l++[⟨p,key,tm⟩]) w1 hW (by omega) (by have:=HN.out;omega))
 obtain⟨k,hk⟩:∃k,k=n + 1:=⟨_,rfl⟩
 rw[←hk] at c0
 have mN:=(gD w1 qp k c' _ c0).1
 have e1:(k:Int) - 1=(n:Int):=by omega
 have hn:=HN.out
 have hkb:k≤90001:=by omega
 have HK:=jH hk
 clear hW hf hk mP
 go_wp2_with fail
 refine(sr _ _ _ _).mono ?_
 rintro e w2 ⟨rfl,rfl⟩
 go_wp2_with fail
 refine CU.out.mono ?_
 rintro e w3 ⟨rfl,⟨l',hU,hW3⟩,hf3⟩
 have HZ:=jH (aI hU (aI hW3 (HE.out.2.trans ((hf3.q qp (by decide)).mono (by simp) (by simp)))))
 clear hU hW3 hf3 mN c0
 go_wp2_with fail
 go_end0
 exact⟨rfl,⟨_,_,l',HZ.out.1,HZ.out.2.1⟩,HZ.out.2.2⟩
end
section
open Go.RowKit Go.Maps
def iJ (l:List It):List (ByteArray×Nat):=l.map fun x=>(x.key,x.p)
structure di (w:World)(aa qp qm:Nat)(l:List It):Prop where
 hp:∃A c,cq w aa qp qm A l.length c l
 mp:∃m,aL w Value.string aY aW qm m∧m.Perm (iJ l)
 lom:aa≤qm
 few:l.length≤1024
section
variable {w w':World}{aa qp qm n c:Nat}{A:Option Addr}{l:List It}
theorem di.fr {base':Nat}{K:List TypeId}{M:List Nat}(h:di w aa qp qm l)(hf:Fr K M base' w w')(h1:369∉K)(h2:376∉K)(h3:378∉K)(h4:qm∉M):di w' aa qp qm l:=by
 obtain⟨A,c,hp⟩:=h.hp
 obtain⟨m,hm,hpm⟩:=h.mp
 exact⟨⟨A,c,hp.fr hf h1 h2 h3⟩,⟨m,hf.mapIs hm h4,hpm⟩,h.lom,h.few⟩
theorem di.hi (h:di w aa qp qm l):aa≤w.heap.size:=by
 obtain⟨A,c,hp⟩:=h.hp
 exact hp.hi
theorem di.made (h:di w aa qp qm l)(hb:Below w.heap.size w w'):di w' aa qp qm l:=
 h.fr (K:=[]) (M:=[]) (Fr.of_below [] [] hb h.hi) (by simp) (by simp) (by simp) (by simp)
theorem di.of_q0 (h:Q0 w aa qp qm)(hb:aa≤w.heap.size):di w aa qp qm []:=
 ⟨⟨none,0,h.loq,hb,h.blk,⟨rfl,.inl ⟨rfl,rfl⟩⟩,fun j x hx=>by simp at hx⟩,⟨[],h.mp,List.Perm.refl _⟩,h.lom,by simp⟩
theorem cq.retime {g i:Nat}{x:It}(h:cq w aa qp qm A n c l)(hx:l[i]? =some x)(t:Nat)(ht:t≤1099511627776):
  cq (w.setCell ⟨x.p,1,none⟩ (X Y t)) aa qp qm A n c (l.set i {x with tm:=t})∧Fr [378] [] aa w (w.setCell ⟨x.p,1,none⟩ (X Y t)):=by
 obtain⟨hxb,hxt,hxk⟩:=h.its i x hx
 obtain⟨hil,-⟩:=List.getElem?_eq_some_iff.1 hx
 have hF:Fr [378] [] aa w (w.setCell ⟨x.p,1,none⟩ (X Y t)):=(Fr.refl _ _ aa w).set_ hxk (by simp) hxb 1 _
 refine⟨⟨h.loq,nT h.hi hF.size,h.blk.far (p:=⟨x.p,1,none⟩) (h.blk.ne_ hxk (by decide)) _,?_,?_⟩,hF⟩
 ·have:=aB h.row hxk (by decide) 1 (X Y t)
  have e:fg (l.set i {x with tm:=t})=fg l:=by
   apply List.ext_getElem?
   intro j
   unfold fg
   rw[List.getElem?_map,List.getElem?_map,List.getElem?_set]
   split
   ·rename_i e
    subst e
    rw[hx]
    rfl
   ·rfl
  rw[e];exact this
 ·intro j y hy
  rw[List.getElem?_set] at hy
  split at hy
  ·rename_i e
   subst e
   injection hy with hy
   subst hy
   exact⟨hxb,ht,hxk.set_ 1 _⟩
  ·rename_i az
   obtain⟨h1,h2,h3⟩:=h.its j y hy
   exact⟨h1,h2,h3.far (p:=⟨x.p,1,none⟩) (h.inj hy hx (fun e=>az e.symm)) _⟩
theorem Am {i:Nat}{x:It}(hx:l[i]? =some x)(t:Nat):iJ (l.set i {x with tm:=t})=iJ l:=by
 obtain⟨hil,-⟩:=List.getElem?_eq_some_iff.1 hx
 apply List.ext_getElem?
 intro j
 unfold iJ
 rw[List.getElem?_map,List.getElem?_map,List.getElem?_set]
 split
 ·rename_i e
  subst e
  rw[hx]
  rfl
 ·rfl
theorem di.get (h:di w aa qp qm l){m:List (ByteArray×Nat)}(hm:aL w Value.string aY aW qm m)(hpm:m.Perm (iJ l)){i:Nat}{x:It}(hx:l[i]? =some x):av m x.key=some x.p:=by
 refine rQ (hm.nodup encS) (hpm.mem_iff.2 ?_)
 exact List.mem_map.2 ⟨x,List.mem_of_getElem? hx,rfl⟩
theorem di.keys (h:di w aa qp qm l):(l.map It.key).Nodup:=by
 obtain⟨m,hm,hpm⟩:=h.mp
 have h1:(m.map Prod.fst).Nodup:=hm.nodup encS
 have h2:=(hpm.map Prod.fst).nodup_iff.1 h1
 simpa [iJ,List.map_map,Function.comp_def] using h2
theorem di.none_ {m:List (ByteArray×Nat)}(hpm:m.Perm (iJ l)){k:ByteArray}(hk:∀x∈l,x.key≠k):av m k=none:=by
 refine lK (fun p hp=>?_)
 have:=hpm.mem_iff.1 hp
 obtain⟨x,hx,rfl⟩:=List.mem_map.1 this
 exact hk x hx
end
def px (l:List It)(i:Nat)(x:It)(t:Nat)(l':List It):Prop:=my l.length (l.set i {x with tm:=t}) i l'
theorem Cq (aa qp qm i t:Nat)(l:List It)(x:It)(w:World)(h:di w aa qp qm l)(hx:l[i]? =some x)(hk:aY x.key)(ht:t≤1099511627776):
  Calls Pg 180 #[PT (some ⟨qp,0,none⟩),.string x.key,X Y t] w fun e w'=>e=rT (X Y 0)∧(∃l',px l i x t l'∧di w' aa qp qm l')∧Fr [376,378] [] aa w w':=by
 obtain⟨A,c,hp⟩:=h.hp
 obtain⟨m,hm,hpm⟩:=h.mp
 have hget:=h.get hm hpm hx
 obtain⟨hil,-⟩:=List.getElem?_eq_some_iff.1 hx
 obtain⟨g,rfl,-,-⟩:=fy hp.row (by omega)
 have hlk:=hm.lookup (P:=Pg) encS (t:=365) underlying365 (z:=PT none) (by kernel_rfl) x.key hk false
 rw[hget] at hlk
 simp only[if_false,Bool.false_eq_true] at hlk
 unfold aW at hlk
 obtain⟨-,c1⟩:=hp.blk.c2
 obtain⟨hW1,hf1⟩:=hp.retime (g:=g) hx t ht
 have hx1:(l.set i {x with tm:=t})[i]? =some {x with tm:=t}:=by rw[List.getElem?_set_self hil]
 have cx:=(hp.its i x hx).2.2.cell 1
 have fx:=(hp.its i x hx).2.2.frozen 1
 have c2:(w.setCell ⟨x.p,1,none⟩ (X Y t)).drew.cell? ⟨x.p,2,none⟩=some (X Y i):=(hW1.its i _ hx1).2.2.cell 2
 unfold fN at cx
 simp only[ga,gz,gN] at cx
 have CF:=jH (Bg aa qp qm g l.length c i (l.set i {x with tm:=t}) _ (hW1.made (bR _ _).drew) hil (by have:=h.few;omega))
 have HM:=jH (aI hm (aI hpm (aI hf1 h)))
 have HX:=jH (aI hx (Am hx t))
 obtain⟨xp,xk,xt⟩:=x
 dsimp only at *
 clear h hp hm hpm hget hx hW1 hf1 hx1 hil
 go_enter func180,ntmps180
 go_wp2_with fail
 go_region_with (go_at_call 287;(with_reducible refine CF.out.mono ?_);rintro e w1 ⟨rfl,⟨l2,hF,hW2⟩,hf2⟩)
 all_goals
  have hfr:Fr [376,378] [] aa w w1:=((HM.out.2.2.1.mono (by simp) (by simp)).drew).trans hf2
  have ax:l2.length=l.length:=by
   have h1:=hF.perm.length_eq
   simpa using h1
  have HE:Hid (px l i ⟨xp,xk,xt⟩ t l2∧di w1 aa qp qm l2∧Fr [376,378] [] aa w w1):=by
   refine⟨hF,⟨⟨_,_,ax▸hW2⟩,⟨m,hfr.mapIs HM.out.1 (by simp),?_⟩,HM.out.2.2.2.lom,by have:=HM.out.2.2.2.few;omega⟩,hfr⟩
   exact HM.out.2.1.trans (HX.out.2▸(hF.perm.map _).symm)
  clear hfr ax hF hW2 hf2
  go_wp2_with fail
  go_ret
  exact⟨rfl,⟨l2,HE.out.1,HE.out.2.1⟩,HE.out.2.2⟩
def py (l:List It)(x:It)(l':List It):Prop:=eF (l++[x]) l.length l'
theorem Cr (aa qp qm t:Nat)(l:List It)(k:ByteArray)(w:World)(h:di w aa qp qm l)(hk:aY k)(hnew:∀x∈l,x.key≠k)(ht:t≤1099511627776)(au:l.length < 1024):
  Calls Pg 180 #[PT (some ⟨qp,0,none⟩),.string k,X Y t] w fun e w'=>e=rT (X Y 0)∧(∃p l',py l ⟨p,k,t⟩ l'∧di w' aa qp qm l')∧bC qp [369,376,378] [qm] aa w w':=by
 obtain⟨A,c,hp⟩:=h.hp
 obtain⟨m,hm,hpm⟩:=h.mp
 have hget:av m k=none:=di.none_ hpm hnew
 have hlk:=hm.lookup (P:=Pg) encS (t:=365) underlying365 (z:=PT none) (by kernel_rfl) k hk false
 rw[hget] at hlk
 simp only[if_false,Bool.false_eq_true] at hlk
 obtain⟨-,c1⟩:=hp.blk.c2
 have c0:=hp.blk.c1
 have ae:Below w.heap.size w (w.alloc (cL #[.string k,X Y t,X Y 0] 378)):=(bR _ _).alloc (nR _) _
 have hx1:=ab.new w 378 #[.string k,X Y t,X Y 0]
 obtain⟨w2,hup,hm2,cQ,hs2⟩:=(hm.alloc (cL #[.string k,X Y t,X Y 0] 378)).update (P:=Pg) encS (t:=365) underlying365 k hk w.heap.size
 unfold aW at hup
 have hhi:=h.hi
 obtain⟨es,clk,hmb,-⟩:=id (hm.alloc (cL #[.string k,X Y t,X Y 0] 378))
 have hf2:Fr [] [qm] aa w w2:=(Fr.of_below [] [qm] ae hhi).but hmb cQ (by simp) h.lom (nT hhi ae.size)
 have hx2:ab w2 w.heap.size 378 #[.string k,X Y t,X Y 0]:=cQ.blk hx1 (fun e=>by rw[e] at hx1;exact(hm.alloc _).ne_blk hx1 rfl)
 have hW2:=hp.fr hf2 (by simp) (by simp) (by simp)
 have hnp:∀(j:Nat) (y:It),l[j]? =some y→y.p≠w.heap.size:=fun j y hy=>Nat.ne_of_lt (hp.its j y hy).2.2.lt
 have CP:=jH (Bf aa qp qm l.length c w.heap.size A k t l _ w2 hW2 hx2 hhi ht hnp (by omega))
 have HM:=jH (aI hm2 (aI hpm (aI hf2 (aI hget h))))
 have hq:=hp.blk.lt
 have d1:decide ((1024:Int)≤(l.length:Int))=false:=decide_eq_false (by omega)
 have HL:=jH au
 have e1:((l.length:Int)≥1024)=False:=by simp;omega
 clear e1
 clear h hp hm hpm hget hhi hf2 hx2 hW2 hnp cQ hm2 hx1 ae hmb hs2 au hnew
 go_enter func180,ntmps180
 go_wp2_with fail
 refine CP.out.mono ?_
 rintro e w3 ⟨rfl,⟨A3,c3,l3,hU,hW3⟩,hf3⟩
 have hfr:=((HM.out.2.2.1.q qp (by simp)).mono (K':=[369,376,378]) (M':=[qm]) (by simp) (by simp)).trans (hf3.mono (fun _ h=>h) (M':=[qm]) (by simp))
 have HE:Hid (py l ⟨w.heap.size,k,t⟩ l3∧di w3 aa qp qm l3∧bC qp [369,376,378] [qm] aa w w3):=by
  have ax:l3.length=l.length + 1:=by have:=hU.perm.length_eq;simpa using this
  refine⟨hU,⟨⟨_,_,ax▸hW3⟩,⟨_,hf3.mapIs HM.out.1 (by simp),?_⟩,HM.out.2.2.2.2.lom,by have:=HL.out;omega⟩,hfr⟩
  have h1:aw m k w.heap.size=m++[(k,w.heap.size)]:=by
   unfold aw
   rw[if_neg]
   intro hany
   obtain⟨q,hq,he⟩:=List.any_eq_true.1 hany
   exact nX.1 HM.out.2.2.2.1 q hq (by simpa using he)
  rw[h1]
  refine(HM.out.2.1.append_right _).trans ?_
  refine List.Perm.trans ?_ (hU.perm.map _).symm
  simp[iJ]
 clear hfr hU hW3 hf3
 go_wp2_with fail
 go_ret
 exact⟨rfl,⟨_,l3,HE.out.1,HE.out.2.1⟩,HE.out.2.2⟩
end
section
open Go.RowKit
theorem gS {P:Program}{w:World}{ops:Array Oper}{rest:List Oper}{o:Oper}{a:Act}{Q:Exit→Act→World→Prop}(hw:Region.wanted o (yielded ops a.tmps)=true)(s x:Operand)(t:TypeId)
  (ho:o.op=.call {callee:=.builtin .append,args:=#[s,x],argTypes:=#[t,t]})
  (e:TypeId)(z:Value)(hi:(P.info? e).map (fun i=>(i.zero,i.size,i.bytes))=some (some z,1,16))(hzc:z.cells.size=1)(ht:P.underlying t=some (.slice e))
  (aa:Nat)(v:Value)(n:Nat)(xs:List Value)(hs:a.eval s=v)(hown:w.ownsRow aa e 1 v n xs)
  (B:Nat)(A:Option Addr)(m c:Nat)(news:List Value)(hx:a.eval x=G A m c)(hr:Reads w B 1 A m news)(h1:∀u∈news,u.oneCell'=true)
  (k:Nat)(hk:n + m=k)(eB:k≤1099511627776)(an:aa≤w.heap.size)
  (h:∀A' c' w',w'.ownsRow aa e 1 (G A' k c') k (xs++news)→Below aa w w'→w.grownBy w' v.ownBlock→((Value.slice A' k c').ownBlock=v.ownBlock∨(Value.slice A' k c').ownBlock=some w.heap.size)→wpList P ops Q rest (a.put o.dst (G A' k c')) w'):
  wpList P ops Q (o::rest) a w:=by
 subst hk
 obtain⟨i0,hi0,hz0,hz1,hz2⟩:=info_parts hi
 refine jR w hw s x t ho aa e i0 _ 1 16 ht hi0 hz0 hz1 hz2 hzc (by omega) v n xs hs hown B A m c news hx hr h1 (by unfold maxLen;omega) (by omega) an ?_
 intro v' w' h1 h2 h3
 obtain⟨A',c',rfl⟩:=cV h1
 exact h A' c' w' h1 ((bR _ _).grown h2 an (fun k hk=>(hown.lt k hk).1)) h2 h3
theorem jS {P:Program}{w:World}{ops:Array Oper}{rest:List Oper}{o:Oper}{a:Act}{Q:Exit→Act→World→Prop}(hw:Region.wanted o (yielded ops a.tmps)=true)(s x:Operand)(t:TypeId)
  (ho:o.op=.call {callee:=.builtin .append,args:=#[s,x],argTypes:=#[t,t]})
  (size bytes:Nat)(e:TypeId)(z:Value)(hi:(P.info? e).map (fun i=>(i.zero,i.size,i.bytes))=some (some z,size,bytes))(hzc:z.cells.size=size)(hsz:0 < size)(hby:bytes≤1024)(ht:P.underlying t=some (.slice e))
  (aa:Nat)(v:Value)(n:Nat)(xs:List Value)(hs:a.eval s=v)(hown:w.ownsRow aa e size v n xs)
  (B:Nat)(A:Option Addr)(m c:Nat)(news:List Value)(hx:a.eval x=G A m c)(hr:Reads w B size A m news)(h1:∀u∈news,u.oneCell'=true)
  (k:Nat)(hk:n + m=k)(eB:k≤1000000000)(an:aa≤w.heap.size)
  (h:∀A' c' w',w'.ownsRow aa e size (G A' k c') k (xs++news)→Below aa w w'→w.grownBy w' v.ownBlock→((Value.slice A' k c').ownBlock=v.ownBlock∨(Value.slice A' k c').ownBlock=some w.heap.size)→wpList P ops Q rest (a.put o.dst (G A' k c')) w'):
  wpList P ops Q (o::rest) a w:=by
 subst hk
 obtain⟨i0,hi0,hz0,hz1,hz2⟩:=info_parts hi
 refine jR w hw s x t ho aa e i0 _ size bytes ht hi0 hz0 hz1 hz2 hzc hsz v n xs hs hown B A m c news hx hr h1 (by unfold maxLen;omega) (nT (Nat.mul_le_mul eB hby) (by omega)) an ?_
 intro v' w' h1 h2 h3
 obtain⟨A',c',rfl⟩:=cV h1
 exact h A' c' w' h1 ((bR _ _).grown h2 an (fun k hk=>(hown.lt k hk).1)) h2 h3
theorem qL {P:Program}{w:World}{ops:Array Oper}{o:Oper}{a:Act}{K:Act→World→Prop}{Q:Exit→Act→World→Prop}{E:Prop}(hw:Region.wanted o (yielded ops a.tmps)=true)(s x:Operand)(t:TypeId)
  (ho:o.op=.call {callee:=.builtin .append,args:=#[s,x],argTypes:=#[t,t]})
  (size bytes:Nat)(e:TypeId)(z:Value)(hi:(P.info? e).map (fun i=>(i.zero,i.size,i.bytes))=some (some z,size,bytes))(hzc:z.cells.size=size)(hsz:0 < size)(hby:bytes≤1024)(ht:P.underlying t=some (.slice e))
  (aa:Nat)(v:Value)(n:Nat)(xs:List Value)(hs:a.eval s=v)(hown:w.ownsRow aa e size v n xs)
  (B:Nat)(A:Option Addr)(m c:Nat)(news:List Value)(hx:a.eval x=G A m c)(hr:Reads w B size A m news)(h1:∀u∈news,u.oneCell'=true)
  (k:Nat)(hk:n + m=k)(eB:k≤1000000000)(an:aa≤w.heap.size)
  (h:∀A' c' w',w'.ownsRow aa e size (G A' k c') k (xs++news)→Below aa w w'→w.grownBy w' v.ownBlock→((Value.slice A' k c').ownBlock=v.ownBlock∨(Value.slice A' k c').ownBlock=some w.heap.size)→K (a.put o.dst (G A' k c')) w'):
  if Region.wanted o (yielded ops a.tmps)=true then Oper.wp P o a w K Q else E:=by
 subst hk
 obtain⟨i0,hi0,hz0,hz1,hz2⟩:=info_parts hi
 rw[if_pos hw]
 refine kV w s x t ho aa e i0 _ size bytes ht hi0 hz0 hz1 hz2 hzc hsz v n xs hs hown B A m c news hx hr h1 (by unfold maxLen;omega) (nT (Nat.mul_le_mul eB hby) (by omega)) an ?_
 intro v' w' h1 h2 h3
 obtain⟨A',c',rfl⟩:=cV h1
 exact h A' c' w' h1 ((bR _ _).grown h2 an (fun k hk=>(hown.lt k hk).1)) h2 h3
end
section
open Go.RowKit Go.Maps
theorem gF:(Pg.info? 9).map (fun i=>(i.zero,i.size,i.bytes))=some (some (.string ByteArray.empty),1,16):=by kernel_rfl
end
section
open Go.RowKit Go.Maps
section
variable {κ ν:Type}{P:Program}{kt t e:TypeId}{ek:κ→Value}{ok:κ→Prop}{ev:ν→Value}{w w':World}{b aa:Nat}{m:List (κ×ν)}
theorem aL.updF [DecidableEq κ](h:aL w ek ok ev b m)(E:iz P kt ek ok)(ht:P.underlying t=some (.map kt e))(x:κ)(hx:ok x)(v:ν)(hb:aa≤b)(hs:aa≤w.heap.size):
  ∃w',(Instr.mapUpdate t (.map (some b)) (ek x) (ev v)).run P w=.ok () w'∧aL w' ek ok ev b (aw m x v)∧Fr [] [b] aa w w'∧w'.heap.size=w.heap.size:=by
 obtain⟨es,clk,hmb,-⟩:=id h
 obtain⟨w',h1,h2,h3,h4⟩:=h.update E ht x hx v
 exact⟨w',h1,h2,(Fr.refl _ _ aa w).but hmb h3 (by simp) hb hs,h4⟩
end
theorem kO:∀(aO a b:Nat),a < 256 ^ aO→b < 256 ^ aO→be a aO=be b aO→a=b:=by
 intro aO
 induction aO with
 |zero=>intro a b ha hb _;simp at ha hb;omega
 |succ k ih=>
  intro a b ha hb h
  have split:∀n,be n (k + 1)=be (n / 256) k++[n % 256]:=by
   intro n
   unfold be
   rw[List.range_succ,List.map_append]
   congr 1
   ·apply List.map_congr_left
    intro i hi
    have hi':i < k:=List.mem_range.1 hi
    rw[Nat.div_div_eq_div_mul,←Nat.pow_succ']
    congr 2
    congr 1
    omega
   ·simp
  rw[split a,split b] at h
  obtain⟨h1,h2⟩:=List.append_inj' h rfl
  have h3:=ih (a / 256) (b / 256) (by rw[Nat.div_lt_iff_lt_mul (by omega)];rw[Nat.pow_succ] at ha;omega) (by rw[Nat.div_lt_iff_lt_mul (by omega)];rw[Nat.pow_succ] at hb;omega) h1
  simp at h2
  omega
theorem rX {k:Tu}(h:cP k=true):0≤k.proto∧k.proto≤17∧0≤k.sport∧k.sport≤65535∧0≤k.dport∧k.dport≤65535:=by
 unfold cP at h
 simp at h
 omega
theorem ku {a b:Tu}(ha:bT a)(hb:bT b)(ma:cP a=true)(mb:cP b=true)(h:bD a=bD b):a=b:=by
 have h1:du a=du b:=by
  have:=(vK (jX a) (jX b)).symm
  have h2:((eJ (du a)).toList==(eJ (du b)).toList)=true:=by
   unfold bD at h
   rw[h]
   simp
  rw[h2] at this
  exact of_decide_eq_true this
 have pa:=rX ma
 have pb:=rX mb
 unfold du at h1
 obtain⟨h1,e5⟩:=List.append_inj' h1 (by simp[be_length])
 obtain⟨h1,e4⟩:=List.append_inj' h1 (by simp[be_length])
 obtain⟨h1,e3⟩:=List.append_inj' h1 (by simp[be_length])
 obtain⟨e1,e2⟩:=List.append_inj' h1 (by simp[be_length])
 have un:∀z:Int,0≤z→z≤65535→ai z=z.toNat:=fun z h0 h1=>by unfold ai;omega
 rw[un _ pa.1 (by omega),un _ pb.1 (by omega)] at e3
 rw[un _ pa.2.2.1 (by omega),un _ pb.2.2.1 (by omega)] at e4
 rw[un _ pa.2.2.2.2.1 (by omega),un _ pb.2.2.2.2.1 (by omega)] at e5
 have f1:=kO 4 _ _ (by simpa using ha.src) (by simpa using hb.src) e1
 have f2:=kO 4 _ _ (by simpa using ha.dst) (by simpa using hb.dst) e2
 have f3:=kO 1 _ _ (by omega) (by omega) e3
 have f4:=kO 2 _ _ (by omega) (by omega) e4
 have f5:=kO 2 _ _ (by omega) (by omega) e5
 obtain⟨a1,a2,a3,a4,a5⟩:=a
 obtain⟨b1,b2,b3,b4,b5⟩:=b
 dsimp only at *
 have:a3=b3:=by omega
 have:a4=b4:=by omega
 have:a5=b5:=by omega
 subst f1 f2
 simp_all
structure cg (w:World)(aa tp tm tk qp qm most ah:Nat)(fm:List (Tu×Fl))(l:List It):Prop where
 tab:gL w aa tp tm tk qp most ah fm
 q:di w aa qp qm l
 link:(l.map fun x=>(x.key,x.tm)).Perm (fm.map fun p=>(bD p.1,p.2.seen))
 ok:∀p∈fm,p.2.k=p.1∧cI p.2
 nem:qm≠tm
 nek:qm≠tk
 most:most≤256
 few:fm.length≤256
section
variable {w w':World}{aa tp tm tk qp qm most ah:Nat}{fm:List (Tu×Fl)}{l:List It}
theorem cg.fr {base':Nat}{K:List TypeId}{M:List Nat}(h:cg w aa tp tm tk qp qm most ah fm l)(hf:Fr K M base' w w')(h0:150∉K)(h1:369∉K)(h2:376∉K)(h3:378∉K)(h4:qm∉M)(h5:tm∉M)(h6:tk∉M):cg w' aa tp tm tk qp qm most ah fm l:=
 {h with tab:=h.tab.fr hf h0 h5 h6,q:=h.q.fr hf h1 h2 h3 h4}
theorem cg.made (h:cg w aa tp tm tk qp qm most ah fm l)(hb:Below w.heap.size w w'):cg w' aa tp tm tk qp qm most ah fm l:=
 {h with tab:=h.tab.made hb,q:=h.q.made hb}
theorem cg.hi (h:cg w aa tp tm tk qp qm most ah fm l):aa≤w.heap.size:=h.q.hi
theorem cg.item (h:cg w aa tp tm tk qp qm most ah fm l){k:Tu}{f:Fl}(hf:av fm k=some f):∃(i:Nat) (x:It),l[i]? =some x∧x.key=bD k∧x.tm=f.seen:=by
 have h1:(bD k,f.seen)∈fm.map fun p=>(bD p.1,p.2.seen):=List.mem_map.2 ⟨(k,f),gW hf,rfl⟩
 have h2:=h.link.mem_iff.2 h1
 obtain⟨x,hx,he⟩:=List.mem_map.1 h2
 injection he with e1 e2
 obtain⟨i,hi⟩:=List.getElem?_of_mem hx
 exact⟨i,x,hi,e1,e2⟩
theorem cg.noitem (h:cg w aa tp tm tk qp qm most ah fm l){k:Tu}(hk:bT k)(bu:cP k=true)(hn:av fm k=none):∀x∈l,x.key≠bD k:=by
 intro x hx e
 have h1:=h.link.mem_iff.1 (List.mem_map.2 ⟨x,hx,rfl⟩)
 obtain⟨p,hp,he⟩:=List.mem_map.1 h1
 injection he with e1 e2
 obtain⟨o1,o2⟩:=h.ok p hp
 have:=ku (o1▸o2.k) hk (o1▸o2.may) bu (e1.trans e)
 exact nX.1 hn p hp this
theorem Ap {f:Fl}(hok:∀p∈fm,p.2.k=p.1∧cI p.2)(hf:cI f):aw (keysOf fm) (bD f.k) f.k=keysOf (aw fm f.k f):=by
 unfold aw keysOf
 have hany:(fm.map fun p=>(bD p.1,p.1)).any (fun p=>decide (p.1=bD f.k))=fm.any (fun p=>decide (p.1=f.k)):=by
  rw[List.any_map,Bool.eq_iff_iff,List.any_eq_true,List.any_eq_true]
  constructor
  ·rintro⟨p,hp,he⟩
   obtain⟨o1,o2⟩:=hok p hp
   exact⟨p,hp,by simpa using ku (o1▸o2.k) hf.k (o1▸o2.may) hf.may (by simpa using he)⟩
  ·rintro⟨p,hp,he⟩
   exact⟨p,hp,by simp at he;simp[he]⟩
 rw[hany]
 by_cases ha:fm.any (fun p=>decide (p.1=f.k))=true
 ·rw[if_pos ha,if_pos ha,List.map_map,List.map_map]
  apply List.map_congr_left
  intro p hp
  obtain⟨o1,o2⟩:=hok p hp
  simp only[Function.comp]
  by_cases he:p.1=f.k
  ·rw[if_pos (by rw[he]),if_pos he]
  ·rw[if_neg (fun e=>he (ku (o1▸o2.k) hf.k (o1▸o2.may) hf.may e)),if_neg he]
 ·rw[if_neg ha,if_neg ha]
  simp
end
end
section
open Go.RowKit Go.Maps
def dK (l:List It)(k:ByteArray)(t:Nat)(l':List It):Prop:=(∃(i:Nat) (x:It),l[i]? =some x∧x.key=k∧px l i x t l')∨(∃p,(∀x∈l,x.key≠k)∧py l ⟨p,k,t⟩ l')
def KF:List TypeId:=[369,376,378]
theorem Cs (aa qp qm t:Nat)(l:List It)(k:ByteArray)(w:World)(h:di w aa qp qm l)(hk:aY k)(ht:t≤1099511627776)(hc:(∃(i:Nat) (x:It),l[i]? =some x∧x.key=k)∨((∀x∈l,x.key≠k)∧l.length < 1024)):
  Calls Pg 180 #[PT (some ⟨qp,0,none⟩),.string k,X Y t] w fun e w'=>e=rT (X Y 0)∧(∃l',dK l k t l'∧di w' aa qp qm l')∧bC qp KF [qm] aa w w':=by
 rcases hc with⟨i,x,hx,rfl⟩|⟨hno,au⟩
 ·refine(Cq aa qp qm i t l x w h hx hk ht).mono ?_
  rintro e w' ⟨rfl,⟨l',hS,hW⟩,hf⟩
  exact⟨rfl,⟨l',.inl ⟨i,x,hx,rfl,hS⟩,hW⟩,(hf.q qp (by decide)).mono (by simp[KF]) (by simp)⟩
 ·refine(Cr aa qp qm t l k w h hk hno ht au).mono ?_
  rintro e w' ⟨rfl,⟨p,l',hS,hW⟩,hf⟩
  exact⟨rfl,⟨l',.inr ⟨p,hno,hS⟩,hW⟩,hf.mono (fun _ h=>h) (fun _ h=>h)⟩
theorem zX {fm:List (Tu×Fl)}{l l':List It}{f:Fl}(hok:∀p∈fm,p.2.k=p.1∧cI p.2)(hf:cI f)(hkeys:(l.map It.key).Nodup)(hlink:(l.map fun x=>(x.key,x.tm)).Perm (fm.map fun p=>(bD p.1,p.2.seen)))(hq:dK l (bD f.k) f.seen l'):
  (l'.map fun x=>(x.key,x.tm)).Perm ((aw fm f.k f).map fun p=>(bD p.1,p.2.seen)):=by
 rcases hq with⟨i,x,hx,hxk,hS⟩|⟨p,hno,hN⟩
 ·have hany:fm.any (fun p=>decide (p.1=f.k))=true:=by
   have h1:=hlink.mem_iff.1 (List.mem_map.2 ⟨x,List.mem_of_getElem? hx,rfl⟩)
   obtain⟨p,hp,he⟩:=List.mem_map.1 h1
   injection he with e1 e2
   obtain⟨o1,o2⟩:=hok p hp
   exact List.any_eq_true.2 ⟨p,hp,by simpa using ku (o1▸o2.k) hf.k (o1▸o2.may) hf.may (e1.trans hxk)⟩
  have h1:=hS.perm.map fun x=>(x.key,x.tm)
  refine h1.trans ?_
  have h2:=hlink.map fun p=>if p.1=bD f.k then (bD f.k,f.seen) else p
  have e1:(l.set i {x with tm:=f.seen}).map (fun x=>(x.key,x.tm))=(l.map fun x=>(x.key,x.tm)).map fun p=>if p.1=bD f.k then (bD f.k,f.seen) else p:=by
   apply List.ext_getElem?
   intro j
   rw[List.getElem?_map,List.getElem?_map,List.getElem?_map,List.getElem?_set]
   obtain⟨hil,hxi⟩:=List.getElem?_eq_some_iff.1 hx
   split
   ·rename_i e
    subst e
    rw[hx]
    simp[hxk]
   ·rename_i az
    cases hj:l[j]? with
    |none=>rfl
    |some y=>
     have hyk:y.key≠bD f.k:=by
      intro e
      obtain⟨hjl,hyj⟩:=List.getElem?_eq_some_iff.1 hj
      have:=(List.getElem_inj (xs:=l.map It.key) (i:=i) (j:=j) (h₀:=by simpa using hil) (h₁:=by simpa using hjl) hkeys).1 (by simp[hxi,hyj,hxk,e])
      exact az this
     simp[hyk]
  have e2:(aw fm f.k f).map (fun p=>(bD p.1,p.2.seen))=(fm.map fun p=>(bD p.1,p.2.seen)).map fun p=>if p.1=bD f.k then (bD f.k,f.seen) else p:=by
   unfold aw
   rw[if_pos hany,List.map_map,List.map_map]
   apply List.map_congr_left
   intro p hp
   obtain⟨o1,o2⟩:=hok p hp
   simp only[Function.comp]
   by_cases he:p.1=f.k
   ·rw[if_pos he,if_pos (by rw[he])]
   ·rw[if_neg he,if_neg (fun e=>he (ku (o1▸o2.k) hf.k (o1▸o2.may) hf.may e))]
  rw[e1,e2]
  exact h2
 ·have hany:¬fm.any (fun p=>decide (p.1=f.k))=true:=by
   intro h
   obtain⟨p,hp,he⟩:=List.any_eq_true.1 h
   have h1:=hlink.mem_iff.2 (List.mem_map.2 ⟨p,hp,rfl⟩)
   obtain⟨x,hx,he2⟩:=List.mem_map.1 h1
   injection he2 with e1 e2
   exact hno x hx (by rw[e1];simp at he;rw[he])
  unfold aw
  rw[if_neg hany]
  have h1:=hN.perm.map fun x=>(x.key,x.tm)
  refine h1.trans ?_
  rw[List.map_append,List.map_append]
  exact hlink.append_right _
theorem zl {κ ν:Type}[DecidableEq κ](m:List (κ×ν))(x:κ)(v:ν)(h:x∈aU m):(aw m x v).length=m.length:=by
 unfold aw
 rw[if_pos]
 ·simp
 ·obtain⟨p,hp,e⟩:=List.mem_map.1 h
  exact List.any_eq_true.2 ⟨p,hp,by simpa using e⟩
theorem jw {w:World}{q tp:Nat}{t1 t2:TypeId}{v0 v1 v2 v3 v4 v5 v6 v7 u0 u1 u2 u3 u4:Value}(hx:ab w q t1 #[v0,v1,v2,v3,v4,v5,v6,v7])(ht:ab w tp t2 #[u0,u1,u2,u3,u4]):
  w.cell? ⟨q,0,none⟩=some v0∧w.cell? ⟨q,1,none⟩=some v1∧w.cell? ⟨q,2,none⟩=some v2∧w.cell? ⟨q,3,none⟩=some v3∧w.cell? ⟨q,4,none⟩=some v4∧w.cell? ⟨q,7,none⟩=some v7∧w.cell? ⟨tp,3,none⟩=some u3∧w.cell? ⟨tp,4,none⟩=some u4:=
 ⟨hx.cell 0,hx.cell 1,hx.cell 2,hx.cell 3,hx.cell 4,hx.cell 7,ht.cell 3,ht.cell 4⟩
theorem sS (aa tp tm tk qp qm most ah:Nat)(fm:List (Tu×Fl))(l:List It)(f:Fl)(hf:cI f)(w:World)(h:cg w aa tp tm tk qp qm most ah fm l)(hfew:(aw fm f.k f).length≤256):
  Calls Pg 183 #[PT (some ⟨tp,0,none⟩),bj f] w fun e w'=>e=rT (tU #[])∧(∃l',dK l (bD f.k) f.seen l'∧cg w' aa tp tm tk qp qm most ah (aw fm f.k f) l')∧bC qp KF [tm,tk,qm] aa w w':=by
 have hcase:(∃(i:Nat) (x:It),l[i]? =some x∧x.key=bD f.k)∨((∀x∈l,x.key≠bD f.k)∧l.length < 1024):=by
  cases hg:av fm f.k with
  |some f0=>
   obtain⟨i,x,h1,h2,_⟩:=h.item hg
   exact .inl ⟨i,x,h1,h2⟩
  |none=>
   refine .inr ⟨h.noitem hf.k hf.may hg,?_⟩
   have h1:=h.link.length_eq
   have h2:=h.few
   simp at h1
   omega
 have CS:=jH (fun W hW=>Cs aa qp qm f.seen l (bD f.k) W hW (sq _) hf.seen hcase)
 have CK:=jH (fun W=>B6 f.k hf.k W)
 have HKO:Hid (aY (bD f.k)):=sq f.k
 have ao:=(bR w.heap.size w).alloc (nR _) (.cells f.vals 47)
 have hx0:=ab.new w 47 f.vals
 have h0:=h.made ao
 obtain⟨w1,hup1,hm1,hf1,hs1⟩:=(h0.tab.mf.drew).updF (P:=Pg) (aa:=aa) iO (t:=147) underlying147 f.k hf.k f h0.tab.lom h0.hi
 have hx1:=hf1.blk _ _ _ hx0.drew (by simp)
 have ht1:=hf1.blk _ _ _ h0.tab.blk.drew (by simp)
 have hk1:=hf1.mapIs h0.tab.ks.drew (by simpa using h.tab.ne.symm)
 have hq1:=(h0.q.made (bR _ _).drew).fr hf1 (by simp) (by simp) (by simp) (by simpa using h.nem)
 have HKM:=jH (Ap h.ok hf)
 have H:=jH (aI h (aI hf hfew))
 have HF1:Hid (bC qp KF [tm,tk,qm] aa w w1):=(((bC.refl qp KF [tm,tk,qm] aa w).made ao h.hi).drew).trans ((hf1.q qp (by simp)).mono (by simp) (by simp))
 obtain⟨-,-,b2⟩:=h0.tab.blk.c3
 have H1:=jH (aI hm1 (aI hk1 (aI hq1 (aI hx1 ht1))))
 obtain⟨⟨src,dst,proto,sport,dport⟩,be0,g0,seen⟩:=f
 unfold bS bj at hup1
 unfold bj
 unfold bS at CK
 unfold Tu.vals Fl.vals at *
 dsimp only at *
 clear h hf hfew h0 ao hm1 hf1 hs1 hx1 ht1 hk1 hq1 hcase hx0
 have htp:tp < w.heap.size:=H.out.1.tab.blk.lt
 go_enter func183,ntmps183
 go_wp2_with fail
 go_region
 all_goals
  obtain⟨q,hq⟩:∃q,q=w.heap.size:=⟨_,rfl⟩
  have HQ:=jH hq
  rw[←hq] at H1⊢
  clear hq hup1 b2 htp
  have d0:=jw H1.out.2.2.2.1.drew H1.out.2.2.2.2.drew
  have ae:aa≤w1.heap.size:=H1.out.2.2.1.hi
  go_wp2_with fail
  go_region_held3 (fun wS=>wS.cell? ⟨q,0,none⟩=some (X Z src)∧wS.cell? ⟨q,1,none⟩=some (X Z dst)∧wS.cell? ⟨q,2,none⟩=some (X Y proto)∧wS.cell? ⟨q,3,none⟩=some (X Y sport)∧wS.cell? ⟨q,4,none⟩=some (X Y dport)∧wS.cell? ⟨q,7,none⟩=some (X Y seen)∧wS.cell? ⟨tp,3,none⟩=some (.map (some tk))∧wS.cell? ⟨tp,4,none⟩=some (PT (some ⟨qp,0,none⟩))) (first|with_reducible exact d0|with_reducible exact d1|with_reducible exact d2|fail)
   (first|(go_at_call 290;(with_reducible refine(CK.out _).mono ?_);rintro e w2 ⟨rfl,af⟩;have hb12:=((bR w1.heap.size w1).drew).trans af;have y2:=H1.out.2.2.2.1.drew.below af H1.out.2.2.2.1.lt;have z2:=H1.out.2.2.2.2.drew.below af H1.out.2.2.2.2.lt;have d1:=jw y2 z2;obtain⟨w3,hup2,hm3,hf3,hs3⟩:=(H1.out.2.1.below hb12 H1.out.2.1.lt).updF (P:=Pg) (aa:=aa) encS (t:=148) underlying148 _ HKO.out ⟨src,dst,proto,sport,dport⟩ H.out.1.tab.lok (nT ae hb12.size);unfold bS Tu.vals at hup2;dsimp only at hup2;have y3:=hf3.blk _ _ _ y2 (by simp);have z3:=hf3.blk _ _ _ z2 (by simp);have d2:=jw y3 z3))
  all_goals
   have hb12:=((bR w1.heap.size w1).drew).trans af
   have HG:Hid (aL w3 bS bT bj tm (aw fm ⟨src,dst,proto,sport,dport⟩ ⟨⟨src,dst,proto,sport,dport⟩,be0,g0,seen⟩)∧aL w3 Value.string aY bS tk (keysOf (aw fm ⟨src,dst,proto,sport,dport⟩ ⟨⟨src,dst,proto,sport,dport⟩,be0,g0,seen⟩))∧di w3 aa qp qm l∧bC qp KF [tm,tk,qm] aa w w3):=
    ⟨hf3.mapIs (H1.out.1.below hb12 H1.out.1.lt) (by simpa using H.out.1.tab.ne),HKM.out▸hm3,(H1.out.2.2.1.made hb12).fr hf3 (by simp) (by simp) (by simp) (by simpa using H.out.1.nek),(HF1.out.made hb12 ae).trans ((hf3.q qp (by simp)).mono (by simp) (by simp))⟩
   have HY:=jH (aI y3 z3)
   have al:aa≤w3.heap.size:=HG.out.2.2.1.hi
   clear hb12 af y2 z2 d0 d1 d2 hup2 hm3 hf3 hs3 y3 z3
   have e0:=jw HY.out.1.drew HY.out.2.drew
   go_wp2_with fail
   go_region_held3 (fun wS=>wS.cell? ⟨q,0,none⟩=some (X Z src)∧wS.cell? ⟨q,1,none⟩=some (X Z dst)∧wS.cell? ⟨q,2,none⟩=some (X Y proto)∧wS.cell? ⟨q,3,none⟩=some (X Y sport)∧wS.cell? ⟨q,4,none⟩=some (X Y dport)∧wS.cell? ⟨q,7,none⟩=some (X Y seen)∧wS.cell? ⟨tp,3,none⟩=some (.map (some tk))∧wS.cell? ⟨tp,4,none⟩=some (PT (some ⟨qp,0,none⟩))) (first|with_reducible exact e0|with_reducible exact e1|with_reducible exact e2|fail)
    (first
     |(go_at_call 290;(with_reducible refine(CK.out _).mono ?_);rintro e w4 ⟨rfl,aq⟩;have hb34:=((bR w3.heap.size w3).drew).trans aq;have y4:=HY.out.1.drew.below aq HY.out.1.lt;have z4:=HY.out.2.drew.below aq HY.out.2.lt;have e1:=jw y4 z4;have C4:=CS.out w4 (HG.out.2.2.1.made hb34))
     |(go_at_call 180;(with_reducible refine C4.mono ?_);rintro e w5 ⟨rfl,⟨l',hQ5,hD5⟩,hf5⟩;have y5:=hf5.blk _ _ _ y4 (by decide);have z5:=hf5.blk _ _ _ z4 (by decide);have e2:=jw y5 z5))
   all_goals
    have hf35:bC qp KF [tm,tk,qm] aa w w5:=(HG.out.2.2.2.made hb34 al).trans (hf5.mono (fun _ h=>h) (by simp))
    have HE:Hid (dK l (bD ⟨src,dst,proto,sport,dport⟩) seen l'∧cg w5 aa tp tm tk qp qm most ah (aw fm ⟨src,dst,proto,sport,dport⟩ ⟨⟨src,dst,proto,sport,dport⟩,be0,g0,seen⟩) l'∧bC qp KF [tm,tk,qm] aa w w5):=by
     refine⟨hQ5,{tab:=⟨H.out.1.tab.lot,H.out.1.tab.lom,H.out.1.tab.lok,H.out.1.tab.ne,z5,?_,?_⟩,q:=hD5,link:=?_,ok:=?_,nem:=H.out.1.nem,nek:=H.out.1.nek,most:=H.out.1.most,few:=H.out.2.2},hf35⟩
     ·exact hf5.mapIs (HG.out.1.below hb34 HG.out.1.lt) (by simpa using H.out.1.nem.symm)
     ·exact hf5.mapIs (HG.out.2.1.below hb34 HG.out.2.1.lt) (by simpa using H.out.1.nek.symm)
     ·exact zX (f:=⟨⟨src,dst,proto,sport,dport⟩,be0,g0,seen⟩) H.out.1.ok H.out.2.1 H.out.1.q.keys H.out.1.link hQ5
     ·intro p hp
      rcases nN hp with hp|rfl
      ·exact H.out.1.ok p hp
      ·exact⟨rfl,H.out.2.1⟩
    clear hf35 hQ5 hD5 hf5 y5 z5 e0 e1 e2 y4 z4 C4 hb34 aq
    go_wp2_with fail
    go_end0
    exact⟨rfl,⟨l',HE.out.1,HE.out.2.1⟩,HE.out.2.2⟩
theorem B4 (most ah:Nat)(h1:most≤256)(h2:1≤ah)(h3:ah≤1099511627776)(w:World):Calls Pg 87 #[X Y most,X Y ah] w fun e w'=>(∃tp tm tk qp qm,e=rT (PT (some ⟨tp,0,none⟩))∧cg w' w.heap.size tp tm tk qp qm most ah [] [])∧Below w.heap.size w w':=by
 have hmk1:∀W:World,(Instr.makeMap 147 none).run Pg W=.ok (.map (some W.heap.size)) (W.alloc (.map #[] 0)):=fun _=>rfl
 have hmk2:∀W:World,(Instr.makeMap 148 none).run Pg W=.ok (.map (some W.heap.size)) (W.alloc (.map #[] 0)):=fun _=>rfl
 have d1:min (most:Int) 256=(most:Int):=by omega
 have d2:max 0 (most:Int)=(most:Int):=by omega
 have d3:min (ah:Int) 1099511627776=(ah:Int):=by omega
 have d4:max 1 (ah:Int)=(ah:Int):=by omega
 have HB:=jH (aI h1 (aI h2 h3))
 clear h1 h2 h3
 have CD:=jH (tl ((w.alloc (.map #[] 0)).alloc (.map #[] 0)))
 go_enter func87,ntmps87
 go_wp2_with fail
 refine CD.out.mono ?_
 rintro e w1 ⟨rfl,hq,hb,hz⟩
 have HZ:=jH (aI hz (aI hq hb))
 clear hz hq hb
 go_wp2_with fail
 go_ret
 obtain⟨hz,hq,hb⟩:=HZ.out
 have m1:aL (w.alloc (.map #[] 0)) bS bT bj w.heap.size []:=aL.made w
 have m2:aL ((w.alloc (.map #[] 0)).alloc (.map #[] 0)) Value.string aY bS (w.heap.size + 1) []:=by have:=aL.made (ek:=Value.string) (ok:=aY) (ev:=bS) (w.alloc (.map #[] 0));simpa using this
 have hs:((w.alloc (.map #[] 0)).alloc (.map #[] 0)).heap.size=w.heap.size + 2:=by simp
 have m1':=(m1.alloc (.map #[] 0)).below hb (by rw[hs];omega)
 have m2':=m2.below hb (by rw[hs];omega)
 have hbA:=(((bR w.heap.size w).alloc (nR _) (.map #[] 0)).alloc (by simp) (.map #[] 0)).trans (hb.mono (by rw[hs];omega))
 have hbB:=(bR w1.heap.size w1).alloc (nR _) (cL #[X Y most,X Y ah,.map (some w.heap.size),.map (some (w.heap.size + 1)),PT (some ⟨w.heap.size + 2 + 1,0,none⟩)] 150)
 rw[hs] at hq hz
 refine⟨⟨w1.heap.size,w.heap.size,w.heap.size + 1,w.heap.size + 2 + 1,w.heap.size + 2,rfl,?_⟩,hbA.trans (hbB.mono (by omega))⟩
 have hq1:Q0 w1 w.heap.size (w.heap.size + 2 + 1) (w.heap.size + 2):=⟨by omega,by omega,hq.blk,hq.mp⟩
 exact{tab:=⟨by omega,by omega,by omega,by omega,ab.new w1 _ _,m1'.alloc _,m2'.alloc _⟩,q:=(di.of_q0 hq1 (by omega)).made hbB,link:=List.Perm.refl _,ok:=fun p hp=>(by cases hp),nem:=by omega,nek:=by omega,most:=HB.out.1,few:=by simp}
theorem BY (aa tp tm tk qp qm most ah now:Nat)(fm:List (Tu×Fl))(l:List It)(f:Fl)(aV:now≤1099511627776)(hle:f.seen≤now)(w:World)(h:cg w aa tp tm tk qp qm most ah fm l)(hg:av fm f.k=some f):
  Calls Pg 208 #[PT (some ⟨tp,0,none⟩),bS f.k,X Y now] w fun e w'=>e=rT (bL true)∧(∃l',dK l (bD f.k) now l'∧cg w' aa tp tm tk qp qm most ah (aw fm f.k {f with seen:=now}) l')∧bC qp KF [tm,tk,qm] aa w w':=by
 have hok:cI f:=(h.ok _ (gW hg)).2
 have hok2:cI {f with seen:=now}:=⟨hok.k,hok.may,hok.be,hok.gen,aV⟩
 have ax:(aw fm f.k {f with seen:=now}).length≤256:=by
  rw[zl]
  ·exact h.few
  ·exact List.mem_map.2 ⟨_,gW hg,rfl⟩
 have ao:=(bR w.heap.size w).alloc (nR _) (.cells f.k.vals 39)
 have h0:=h.made ao
 have CG:=jH (oN aa tp tm tk qp most ah fm f.k hok.k _ h0.tab)
 rw[hg] at CG
 unfold jG at CG
 have CT:=jH (sR now aV)
 have CS:=jH (fun W hW=>sS aa tp tm tk qp qm most ah fm l {f with seen:=now} hok2 W hW ax)
 have H:=jH (aI h (aI h0 ao))
 have d1:decide (f.seen≤now)=true:=decide_eq_true hle
 obtain⟨⟨src,dst,proto,sport,dport⟩,be0,g0,seen⟩:=f
 unfold bS bj at *
 unfold Tu.vals Fl.vals at *
 dsimp only at *
 clear h h0 ao hok hok2 ax hle aV hg
 go_enter func208,ntmps208
 go_wp2_with fail
 refine CG.out.mono ?_
 rintro e w1 ⟨rfl,ae⟩
 have HB1:=jH ae
 clear ae
 go_wp2_with fail
 refine(CT.out _).mono ?_
 rintro e w2 ⟨rfl,rfl⟩
 go_wp2_with fail
 have af:=HB1.out.trans (((bR w1.heap.size w1).alloc (nR _) (cL #[X Z src,X Z dst,X Y proto,X Y sport,X Y dport,X Y be0,X Y g0,X Y now] 47)).mono HB1.out.size)
 have aA:=H.out.2.2.trans (af.mono H.out.2.2.size)
 have CW:=jH (CS.out _ (H.out.2.1.made af))
 have HBW:=jH aA
 clear af aA
 refine CW.out.mono ?_
 rintro e w3 ⟨rfl,⟨l',hq,hW⟩,hf⟩
 have HE:=jH (aI hq (aI hW (((bC.refl qp KF [tm,tk,qm] aa w).made HBW.out H.out.1.hi).trans hf)))
 clear hq hW hf
 go_wp2_with fail
 go_ret
 exact⟨rfl,⟨l',HE.out.1,HE.out.2.1⟩,HE.out.2.2⟩
theorem sT (aa tp tm tk qp qm most ah:Nat)(fm:List (Tu×Fl))(l:List It)(f:Fl)(hf:cI f)(w:World)(h:cg w aa tp tm tk qp qm most ah fm l)(hg:av fm f.k=none)(au:fm.length < most):
  Calls Pg 91 #[PT (some ⟨tp,0,none⟩),bj f] w fun e w'=>e=rT (tU #[bL true,X Y 0])∧(∃l',dK l (bD f.k) f.seen l'∧cg w' aa tp tm tk qp qm most ah (aw fm f.k f) l')∧bC qp KF [tm,tk,qm] aa w w':=by
 have ax:(aw fm f.k f).length≤256:=by
  have:=rN fm f.k f
  have:=h.most
  omega
 have ao:=(bR w.heap.size w).alloc (nR _) (.cells f.vals 47)
 have h0:=h.made ao
 have CM:=jH (B5 f hf)
 have CS:=jH (fun W hW=>sS aa tp tm tk qp qm most ah fm l f hf W hW ax)
 have hx0:=ab.new w 47 f.vals
 have hk:=hf.k
 have H:=jH (aI h (aI h0 (aI ao hx0)))
 have HL:=jH au
 have hmost:=h.most
 have HG:=jH hg
 obtain⟨⟨src,dst,proto,sport,dport⟩,be0,g0,seen⟩:=f
 unfold bj at *
 unfold Fl.vals at *
 dsimp only at *
 obtain⟨q,hq⟩:∃q,q=w.heap.size:=⟨_,rfl⟩
 have HQ:=jH hq
 clear h h0 ao hx0 hf ax au hg
 go_enter func91,ntmps91
 go_wp2_with fail
 rw[←hq]
 clear hq
 refine(CM.out _).mono ?_
 rintro e w1 ⟨rfl,ae⟩
 have hx1:=H.out.2.2.2.below ae H.out.2.2.2.lt
 have h1:=H.out.2.1.made ae
 have bf:=H.out.2.2.1.trans (ae.mono H.out.2.2.1.size)
 rw[←HQ.out] at hx1
 have hlk:=h1.tab.mf.drew.lookup (P:=Pg) iO (t:=147) underlying147 (z:=iN) (by kernel_rfl) ⟨src,dst,proto,sport,dport⟩ hk true
 have hlkA:=fun o=>(h1.tab.mf.alloc o).drew.lookup (P:=Pg) iO (t:=147) underlying147 (z:=iN) (by kernel_rfl) ⟨src,dst,proto,sport,dport⟩ hk true
 rw[HG.out] at hlk hlkA
 unfold bS Tu.vals iN at hlk hlkA
 simp only[if_true] at hlk hlkA
 have ax:=fun ty W (hW:aL W bS bT bj tm fm)=>hW.len (P:=Pg) (ty:=ty) (t:=147) underlying147
 obtain⟨c0,c1,c2,c3,c4,c5,c6,c7⟩:=hx1.c8
 obtain⟨t0,-,t2⟩:=h1.tab.blk.c3
 have hql:=hx1.lt
 have htl:=h1.tab.blk.lt
 have H1:=jH (aI h1 (aI bf hx1))
 clear h1 bf ae hx1
 go_wp2_with fail
 go_region
 all_goals
  have hb12:Below w1.heap.size w1 (w1.alloc (cL #[X Z 0,X Z 0,X Y 0,X Y 0,X Y 0,X Y 0,X Y 0,X Y 0] 47)).drew:=((bR _ _).alloc (nR _) _).drew
  generalize (w1.alloc (cL #[X Z 0,X Z 0,X Y 0,X Y 0,X Y 0,X Y 0,X Y 0,X Y 0] 47)).drew=w2 at *
  have h2:=H1.out.1.made hb12
  have hx2:=H1.out.2.2.below hb12 H1.out.2.2.lt
  have hln:=fun ty=>ax ty w2.drew h2.tab.mf
  have t0':w2.drew.cell? ⟨tp,0,none⟩=some (X Y most):=h2.tab.blk.cell 0
  have t2':w2.drew.cell? ⟨tp,2,none⟩=some (.map (some tm)):=h2.tab.blk.cell 2
  clear hlk hlkA ax c0 c1 c2 c3 c4 c5 c6 c7 t0 t2 hql htl
  obtain⟨n,hn⟩:∃n,fm.length=n:=⟨_,rfl⟩
  rw[hn] at hln
  have d1:decide (most≤n)=false:=decide_eq_false (by have:=HL.out;omega)
  clear hn
  obtain⟨y0,y1,y2,y3,y4,y5,y6,y7⟩:=hx2.drew.c8
  have CW:=jH (CS.out w2.drew (h2.made (bR _ _).drew))
  have HBW:Hid (Below w.heap.size w w2.drew):=(H1.out.2.1.trans (hb12.mono H1.out.2.1.size)).drew
  clear h2 hx2 hb12
  go_wp2_with fail
  go_region
  all_goals
   go_wp2_with fail
   refine CW.out.mono ?_
   rintro e w3 ⟨rfl,⟨l',hq,hW⟩,hf⟩
   have HE:=jH (aI hq (aI hW (((bC.refl qp KF [tm,tk,qm] aa w).made HBW.out H.out.1.hi).trans hf)))
   clear hq hW hf
   go_wp2_with fail
   go_ret2
   exact⟨rfl,⟨l',HE.out.1,HE.out.2.1⟩,HE.out.2.2⟩
def bE (fs:List Fl):List Value:=fs.flatMap fun f=>f.vals.toList
theorem oK (fs:List Fl):(bE fs).length=fs.length * 8:=by
 induction fs with
 |nil=>rfl
 |cons f r ih=>simp[bE,Fl.vals] at *;omega
theorem BX (a b:List Fl):bE (a++b)=bE a++bE b:=by simp[bE]
theorem BW (fs:List Fl):∀u∈bE fs,u.oneCell'=true:=by
 intro u hu
 obtain⟨f,_,h⟩:=List.mem_flatMap.1 hu
 simp[Fl.vals] at h
 rcases h with rfl|rfl|rfl|rfl|rfl|rfl|rfl|rfl<;>rfl
theorem AM:(Pg.info? 47).map (fun i=>(i.zero,i.size,i.bytes))=some (some (aG #[X Z 0,X Z 0,X Y 0,X Y 0,X Y 0,X Y 0,X Y 0,X Y 0]),8,56):=by kernel_rfl
def KI:List TypeId:=KF++[9,47]
end
section
open Go.RowKit Go.Maps Go.Shelf Go.Sort
theorem DS (a b:Int):cG a b < 0↔a < b:=by unfold cG;(repeat' split)<;>omega
theorem yH (x:Int)(r:List Int):eO (x::r) < 0↔(x < 0∨(x=0∧eO r < 0)):=by
 show (if x≠0 then x else eO r) < 0↔_
 split<;>omega
theorem DT (a b:Int):cG a b=0↔a=b:=by unfold cG;(repeat' split)<;>omega
theorem yG:¬eO [] < 0:=by decide
theorem sk (a b:Tu):dY a b=true↔((a.src:Int) < b.src∨((a.src:Int)=b.src∧((a.dst:Int) < b.dst∨((a.dst:Int)=b.dst∧(a.proto < b.proto∨(a.proto=b.proto∧(a.sport < b.sport∨(a.sport=b.sport∧a.dport < b.dport)))))))):=by
 unfold dY
 simp only[decide_eq_true_eq,yH,DS,DT,yG,and_false,or_false]
theorem sl (a b:Tu):dY a b=false↔¬((a.src:Int) < b.src∨((a.src:Int)=b.src∧((a.dst:Int) < b.dst∨((a.dst:Int)=b.dst∧(a.proto < b.proto∨(a.proto=b.proto∧(a.sport < b.sport∨(a.sport=b.sport∧a.dport < b.dport)))))))):=by
 rw[←sk,Bool.not_eq_true]
def gg (x y:Fl):Int:=if dY x.k y.k=true then -1 else 1
theorem oU (x y:Fl):ltOf gg x y=dY x.k y.k:=by
 unfold ltOf gg
 cases dY x.k y.k<;>rfl
theorem Ae (a:Tu):dY a a=false:=by rw[sl];omega
theorem zZ (a b c:Tu)(h:dY a b=true)(k:dY b c=true):dY a c=true:=by
 rw[sk] at *
 omega
theorem Ac (a b c:Tu)(h:dY a b=false)(k:dY b c=false):dY a c=false:=by
 rw[sl] at *
 omega
theorem vI:SWO (ltOf gg) where
 irrefl x:=by rw[oU];exact Ae _
 trans x y z h k:=by rw[oU] at *;exact zZ _ _ _ h k
 ntrans x y z h k:=by rw[oU] at *;exact Ac _ _ _ h k
def ei (f:Fl):List Value:=f.vals.toList
instance :Inhabited Fl:=⟨⟨⟨0,0,0,0,0⟩,0,0,0⟩⟩
theorem jJ (f:Fl):(ei f).length=8:=rfl
theorem oL:∀(fs:List Fl) (t:Nat),t < fs.length * 8→(bE fs)[t]? =some ((ei (fs[t / 8]!))[t % 8]!)
 |[],t,h=>by simp at h
 |f::r,t,h=>by
  have e0:bE (f::r)=ei f++bE r:=by simp[bE,ei]
  rw[e0]
  by_cases ht:t < 8
  ·rw[List.getElem?_append_left (by rw[jJ];exact ht),Nat.div_eq_of_lt ht,Nat.mod_eq_of_lt ht]
   have h3:t < (ei f).length:=by rw[jJ];exact ht
   rw[List.getElem?_eq_getElem h3]
   simp[h3]
  ·rw[List.getElem?_append_right (by rw[jJ];omega),jJ,oL r (t - 8) (by simp at h;omega)]
   have h1:t / 8=(t - 8) / 8 + 1:=by omega
   have h2:(t - 8) % 8=t % 8:=by omega
   rw[h2,h1]
   simp
theorem sY (fs:List Fl):(flatK ei 8 fs.toArray).toList=bE fs:=by
 apply List.ext_getElem?
 intro t
 by_cases ht:t < fs.length * 8
 ·rw[oL fs t ht]
  simp[flatK,ht]
 ·rw[List.getElem?_eq_none (by simp[flatK];omega),List.getElem?_eq_none (by rw[oK];omega)]
theorem oO (fs:List Fl):(flatK ei 8 fs.toArray).size=fs.length * 8:=by simp[flatK]
theorem Bd {w:World}{g:Nat}{cur:Array Value}{e:TypeId}{fs:List Fl}(hb:w.heap[g]? =some (.cells cur e (0,0)))(ht:cur.toList.take (fs.length * 8)=bE fs):HoldsK ei 8 w g 0 fs.toArray:=by
 intro j hj
 rw[oO] at hj
 refine⟨?_,by simp[World.frozen?,hb]⟩
 have h1:(cur.toList.take (fs.length * 8))[j]? =(bE fs)[j]?:=by rw[ht]
 rw[List.getElem?_take_of_lt hj,←sY fs] at h1
 simp only[World.cell?,hb,Nat.zero_add]
 simp only[Option.isSome_none,Bool.false_eq_true,if_false]
 rw[←Array.getElem?_toList,h1,Array.getElem?_toList]
 have hj2:j < (flatK ei 8 fs.toArray).size:=by rw[oO];exact hj
 rw[getElem!_pos _ j hj2,Array.getElem?_eq_getElem hj2]
 rfl
theorem vF (cur:Array Value)(ts:List Fl)(h:ts.length * 8≤cur.size):(putCells id 0 (flatK ei 8 ts.toArray) cur).toList.take (ts.length * 8)=bE ts:=by
 apply List.ext_getElem?
 intro j
 by_cases hj:j < ts.length * 8
 ·rw[List.getElem?_take_of_lt hj,←sY ts,Array.getElem?_toList,Array.getElem?_toList]
  have hj2:j < (flatK ei 8 ts.toArray).size:=by rw[oO];exact hj
  rw[Array.getElem?_eq_getElem hj2,←getElem!_pos _ j hj2]
  simp[putCells,hj,show j < cur.size by omega]
 ·rw[List.getElem?_take_eq_none (by omega),List.getElem?_eq_none (by rw[oK];omega)]
theorem Bi {w:World}{g n:Nat}{os:Array Obj}{cur:Array Value}{e:TypeId}{fr:Nat×Nat}(d:Array Fl)(hb:w.heap[g]? =some (.cells cur e fr)):
  (sortWorldK ei 8 w g 0 n d os).heap[g]? =some (cL (putCells id 0 (flatK ei 8 d) cur) e fr):=by
 have hg:g < w.heap.size:=(Array.getElem?_eq_some_iff.1 hb).1
 unfold sortWorldK putRowK
 rw[heap_grow_old _ _ (by simpa using hg)]
 simp[putRow,mapBlock,Sort.ahead,Array.getElem?_modify,hb,onCells]
theorem Bv {w:World}{g n:Nat}{os:Array Obj}(d:Array Fl):w.grownBy (sortWorldK ei 8 w g 0 n d os) (some g):=by
 unfold sortWorldK putRowK
 refine⟨rfl,rfl,rfl,by simp,fun k hk az=>?_⟩
 rw[heap_grow_old _ _ (by simpa using hk)]
 have:g≠k:=fun e=>az (by rw[e])
 simp[putRow,mapBlock,Sort.ahead,Array.getElem?_modify,this]
theorem yv {w:World}{aa g cap n:Nat}{e:TypeId}{os:Array Obj}{cur:Array Value}{ss ts:List Fl}(hl:ts.length=ss.length)(an:aa≤g)(hb:w.heap[g]? =some (.cells cur e (0,0)))
  (h1:ss.length≤cap)(h2:cap≤maxLen)(h3:cur.size=cap * 8):
  (sortWorldK ei 8 w g 0 n ts.toArray os).ownsRow aa e 8 (G (some ⟨g,0,none⟩) ss.length cap) ss.length (bE ts):=
 ⟨by rw[oK,hl],.inr ⟨g,cap,_,rfl,an,Bi _ hb,h1,h2,by simp[putCells,h3],by rw[←hl];exact vF cur ts (by omega)⟩⟩
theorem wj (c:Nat)(eg:∀args w,(callFunc c args).run Pg w=.ok (.enter c args) w)
  (hc:∀x y W,Calls Pg c #[bj x,bj y] W fun e w'=>e=rT (X Y (gg x y))∧∃q os',w'=grow (W.drewN q) os')
  (v:Value)(fs:List Fl)(aa:Nat)(w:World)(h:w.ownsRow aa 47 8 v fs.length (bE fs))(ax:fs.length≤1000000):
  Calls Pg 137 #[v,.func (.func c) #[] #[]] w fun e w'=>e=rT (tU #[])∧∃fs',fs'.Perm fs∧w'.ownsRow aa 47 8 v fs'.length (bE fs')∧w.grownBy w' v.ownBlock:=by
 have h0:=h
 rcases h.2 with⟨rfl,hn⟩|⟨g,cap,cur,rfl,an,hb,h1,h2,h3,h4⟩
 ·refine(AnyF.slices_SortFunc_none nk none 0 (.func (.func c) #[] #[]) w).mono ?_
  rintro e w' ⟨rfl,rfl⟩
  exact⟨rfl,fs,List.Perm.refl _,h0,World.grownBy.refl _ _⟩
 ·have hg:g < w.heap.size:=(Array.getElem?_eq_some_iff.1 hb).1
  have hcl:CmpLays Pg c #[] ei 8 gg g 0 fs.toArray.size w:=fun m os dk _ x y=>hc x y _
  have hcon:=AnyQ.slices_SortFunc nk 8 (fun w=>Tryz.isAgg47 w) (fun w=>Tryz.sizeOf47 w) ei jJ (fun x v hv=>by simp[ei,Fl.vals] at hv;rcases hv with rfl|rfl|rfl|rfl|rfl|rfl|rfl|rfl<;>rfl) gg vI c #[] g 0 cap fs.toArray w eg hcl (Bd hb h4) hg (by simp;omega)
  refine hcon.mono ?_
  rintro e w' ⟨rfl,d',n,os,hp,hs,rfl⟩
  have hd:d'.toList.Perm fs:=by
   have:=hp.2.2
   have e1:d'.extract 0 fs.toArray.size=d':=by rw[←hp.1];simp
   rw[e1] at this
   simpa using this
  have hl:d'.toList.length=fs.length:=hd.length_eq
  refine⟨rfl,d'.toList,hd,?_,Bv _⟩
  have:=yv (n:=n) (os:=os) hl an hb h1 h2 h3
  rw[hl]
  exact this
end
section
open Go.RowKit Go.Maps Go.Shelf
theorem cr.grownBy {p:Nat}{w w':World}(h:cr p w w'):w.grownBy w' (some p):=⟨h.os,h.tape,h.output,h.size,fun k hk az=>h.block k hk (fun e=>az (by rw[e]))⟩
theorem oo {κ ν:Type}{w w':World}{ek:κ→Value}{ok:κ→Prop}{ev:ν→Value}{r b:Nat}{m left:List (κ×ν)}(h:fC w ek ok ev r b m left)(hk:KeepsWalks w w'):fC w' ek ok ev r b m left:=by
 have h0:=h
 obtain⟨az,hm,hs,es,bG,seen,c0,since,g1,g2,rest⟩:=h
 exact h0.kept ((hk.same r _ g1 rfl).trans g1.symm) ((hk.same b _ g2 rfl).trans g2.symm)
theorem uN (n l Bm b:Nat)(hn:1≤n)(m:List (Tu×Fl))(J Jx:List Fl→World→Prop)
  (hY:∀pre x W,J pre W→pre.length < m.length→YieldAt Fence.wide (n - 1) Pg l #[bj x] W fun e W'=>(e=rT (bL true)∧J (pre++[x]) W'∧KeepsWalks W W')∨(e=rT (bL false)∧Jx (pre++[x]) W'))
  (W:World)(hJ:AbidesFrom W.heap.size J)(hm:W.cell? ⟨Bm,0,none⟩=some (.map (some b)))(hown:aL W bS bT bj b m)(h0:J [] W):
  CallsIn Fence.wide n Pg 138 #[.func (.yield l) #[] #[],PT (some ⟨Bm,0,none⟩)] W fun e W'=>(∃v,e=rT v)∧((∃xs,xs.Perm (m.map (·.2))∧J xs W')∨(∃pre,True∧Jx pre W')):=by
 obtain⟨w1,hrange,hit,ae,hs1⟩:=hown.range (P:=Pg) (t:=147) underlying147
 have HJ0:Hid (J [] w1):=hJ [] W w1 none h0 ⟨ae.os,ae.tape,ae.output,ae.size,fun k hk _=>ae.block k hk⟩ (fun r e=>by cases e)
 have HI:=jH hit
 clear hit ae hs1 h0
 refine callsIn_of_wp func138 rfl trivial ?_ rfl
 simp only[ntmps138,List.size_toArray,List.length_cons,List.length_nil,Nat.reduceAdd,Nat.reduceSub,Array.replicate_succ,Array.replicate_zero,List.push_toArray,List.append_toArray,List.nil_append,List.cons_append]
 gi_wp2
 gi_loopg [4] m.length (fun gk _ wr=>∃(left pre:List (Tu×Fl)),Hid (left.length=gk)∧Hid ((pre++left).Perm m)∧Hid (fC wr bS bT bj W.heap.size b m left)∧Hid (J (pre.map (·.2)) wr))
 case atStart=>exact⟨m,[],rfl,(by show List.Perm _ _;simp),HI.out,HJ0.out⟩
 case round=>
  obtain⟨left,pre,hgk,hpm,hit,hJs⟩:=hrel
  rcases hit.out.next (P:=Pg) 0 with⟨bI,hrun0⟩|⟨p,left',w2,cK,hpmm,hrun0,hit2,cQ,hs2,hent⟩
  ·have hrun:∀ty,(Instr.next (PT (some ⟨W.heap.size,0,none⟩)) false ty).run Pg wr=.ok (tU #[bL false]) wr:=fun ty=>hrun0
   have HP:Hid (pre.Perm m):=by show List.Perm _ _;have:=hpm.out;rwa [bI,List.append_nil] at this
   clear hrun0 bI
   gi_wp2
   go_end0
   exact⟨⟨_,rfl⟩,.inl ⟨pre.map (·.2),HP.out.map _,hJs.out⟩⟩
  ·have hrun:∀ty,(Instr.next (PT (some ⟨W.heap.size,0,none⟩)) false ty).run Pg wr=.ok (tU #[bL true,bS p.1,bj p.2]) w2:=fun ty=>hrun0
   have hJ2:J (pre.map (·.2)) w2:=hJ _ wr w2 (some W.heap.size) hJs.out cQ.grownBy (fun r e=>by
    cases e
    obtain⟨_,_,_,es,bG,seen,c0,since,g1,_⟩:=hit.out
    exact⟨nR _,_,g1,rfl⟩)
   have HM:=jH hm
   obtain⟨fx,bx⟩:=p
   obtain⟨⟨s2,d2,p2,sp2,dp2⟩,b2,g2,n2⟩:=bx
   unfold bj Fl.vals at hrun hent
   dsimp only at hrun hent
   have au:(pre.map (·.2)).length < m.length:=by
    have h1:=hpm.out.length_eq
    have h2:=cK.length_eq
    simp at h1 h2⊢
    omega
   have ax:left'.length + 1=gk:=by rw[←hgk.out,cK.length_eq];rfl
   have HL:=jH ax
   have hJ3:=hJ _ w2 (w2.alloc (cL (Fl.vals (Fl.mk (Tu.mk s2 d2 p2 sp2 dp2) b2 g2 n2)) 47)) none hJ2 ⟨rfl,rfl,rfl,by simp,fun k hk _=>Below.heap_alloc _ _ k hk⟩ (fun r e=>by cases e)
   obtain⟨fn,tmps,assign,body,hy,hR⟩:=hY (pre.map (·.2)) (Fl.mk (Tu.mk s2 d2 p2 sp2 dp2) b2 g2 n2) _ hJ3 au
   unfold bj Fl.vals at hy hR
   dsimp only at hy hR
   have HP2:Hid (((pre++[(fx,(Fl.mk (Tu.mk s2 d2 p2 sp2 dp2) b2 g2 n2))])++left').Perm m):=by
    show List.Perm _ _
    refine List.Perm.trans ?_ hpm.out
    rw[List.append_assoc]
    exact cK.symm.append_left pre
   have HI2:=jH hit2
   clear hrun0 hrange hJ3 au ax hJ2 cK hpmm hit2 cQ hs2
   gi_wp2
   refine hR.mono ?_
   rintro e W3 (⟨rfl,hJ3,hk3⟩|⟨rfl,hJx3⟩)
   ·have HE:Hid (fC W3 bS bT bj W.heap.size b m left'∧J ((pre++[(fx,(Fl.mk (Tu.mk s2 d2 p2 sp2 dp2) b2 g2 n2))]).map (·.2)) W3):=by
     refine⟨oo (oo HI2.out (KeepsWalks.alloc _ _)) hk3,?_⟩
     rw[List.map_append]
     exact hJ3
    clear hJ3 hk3 hy hR
    gi_wp2
    go_roundg (gk - 1)
    case measure=>have:=HL.out;omega
    case rel=>exact⟨left',_,(by show _=_;have:=HL.out;omega),HP2,HE.out.1,HE.out.2⟩
   ·have HX:=jH hJx3
    clear hJx3 hy hR
    gi_wp2
    refine bodyPost_ret (results_none rfl _ _ _) rfl ?_
    exact⟨⟨_,rfl⟩,.inr ⟨_,trivial,HX.out⟩⟩
theorem uM (n Bm b:Nat)(hn:1≤n)(m:List (Tu×Fl))(w:World)(hBm:Bm < w.heap.size)(hm:w.cell? ⟨Bm,0,none⟩=some (.map (some b)))(hown:aL w bS bT bj b m):
  SeqStopsK Fence.wide n Pg 138 #[PT (some ⟨Bm,0,none⟩)] (fun f:Fl=>#[bj f]) KeepsWalks (fun xs=>xs.Perm (m.map (·.2))) (fun _=>True) m.length w:=fun l J Jx W hW hJ _ hY h0=>
 uN n l Bm b hn m J Jx hY W hJ ((hW.cell (p:=⟨Bm,0,none⟩) hBm).trans hm) (hown.below hW hown.lt) h0
theorem rB {W W':World}{row:Option Nat}{aa:Nat}{e:TypeId}{size:Nat}{v:Value}{k:Nat}{xs:List Value}(h:W.ownsRow aa e size v k xs)(hg:W.grownBy W' row)
  (hrow:∀r,row=some r→∃o:Obj,W.heap[r]? =some o∧o.isCells=false):W'.ownsRow aa e size v k xs:=by
 refine h.kept hg ?_
 rcases h.2 with⟨rfl,_⟩|⟨g,cap,cur,rfl,_,hgb,_⟩
 ·exact .inl rfl
 ·refine .inr fun e'=>?_
  obtain⟨o,ho,hw⟩:=hrow g (by simpa [Value.ownBlock] using e'.symm)
  rw[hgb] at ho;cases ho;cases hw
theorem pd {W W':World}{row:Option Nat}{g:Nat}{t:TypeId}{cs:Array Value}(h:ab W g t cs)(hg:W.grownBy W' row)(hrow:∀r,row=some r→∃o:Obj,W.heap[r]? =some o∧o.isCells=false):ab W' g t cs:=
 h.grown hg (fun e=>by
  obtain⟨o,ho,hw⟩:=hrow g e.symm
  have h':W.heap[g]? =some (.cells cs t (0,0)):=h
  rw[h'] at ho;cases ho;cases hw)
def mu (w0:World)(pre:List Fl)(W:World):Prop:=∃v,ab W w0.heap.size 42 #[v]∧W.ownsRow w0.heap.size 47 8 v pre.length (bE pre)∧Below w0.heap.size w0 W
def uk (w0:World)(svv:Value)(x:Fl)(a':Act)(W:World):Prop:=∃b5,a'={tmps:=#[G none 0 0,svv,PT (some ⟨w0.heap.size,0,none⟩),undef,G none 0 0,PT (some ⟨b5,0,none⟩),svv,bj x,undef,undef,undef,undef,undef],defers:=[]}∧ab W b5 47 x.vals
theorem E5 (n:Nat)(hn:2≤n)(g:Nat)(lb:Array Value)(eg:∀args w,(callFunc g args).run Pg w=.ok (.enter g args) w)(S:List Fl→Prop)(N:Nat)(hN:N≤1000000)(w:World)(hseq:SeqStopsK Fence.wide (n - 1) Pg g lb (fun f:Fl=>#[bj f]) KeepsWalks S (fun _=>True) N w):
  CallsIn Fence.wide n Pg 246 #[G none 0 0,.func (.func g) #[] lb] w fun e w'=>∃(v:Value) (fs:List Fl),e=rT v∧S fs∧w'.ownsRow w.heap.size 47 8 v fs.length (bE fs)∧Below w.heap.size w w':=by
 refine callsIn_of_wp_marks func246 rfl trivial ?_ rfl
 simp only[ntmps246,List.size_toArray,List.length_cons,List.length_nil,Nat.reduceAdd,Nat.reduceSub,Array.replicate_succ,Array.replicate_zero,List.push_toArray,List.append_toArray,List.nil_append,List.cons_append]
 have HS:=jH hseq
 gi_wp2
 have ao:Below w.heap.size w (w.alloc (cL #[G none 0 0] 42)):=(bR _ _).alloc (nR _) _
 have hx0:=ab.new w 42 #[G none 0 0]
 have hz0:(w.alloc (cL #[G none 0 0] 42)).heap.size=w.heap.size + 1:=by simp
 generalize w.alloc (cL #[G none 0 0] 42)=w0 at *
 have hIb:∀pre W,mu w pre W→w.heap.size≤W.heap.size:=fun pre W h=>by obtain⟨v,_,_,hb⟩:=h;exact hb.size
 have hI:OwnFrom w0.heap.size (mu w):=fun pre A B row hI hg hr=>by
  obtain⟨v,h1,h2,h3⟩:=hI
  have hr2:∀r,row=some r→∃o:Obj,A.heap[r]? =some o∧o.isCells=false:=fun r e=>(hr r e).2
  exact⟨v,pd h1 hg hr2,rB h2 hg hr2,h3.grown hg h3.size (fun k e=>by have:=(hr k e).1;omega)⟩
 have hAx:∀x a',OwnFrom w0.heap.size (fun(_:Unit) W=>uk w (.func (.func g) #[] lb) x a' W):=fun x a' _ A B row hA hg hr=>by
  obtain⟨b5,h1,h2⟩:=hA
  exact⟨b5,h1,pd h2 hg (fun r e=>(hr r e).2)⟩
 refine wpIn_rangeFunc_ownH (S:=S) (Sp:=fun _=>True) rfl (by omega) (gf:=g) (lb:=lb) rfl trivial eg HS.out walksK_t walksK_b ao (fun _=>rfl) (mu w) (fun _ _ _=>False) hI (fun c pre A B row h=>h.elim) ⟨_,hx0,⟨rfl,.inl ⟨rfl,rfl⟩⟩,ao⟩ (uk w (.func (.func g) #[] lb)) hAx ?assign ?body ?done ?stop
 case assign=>
  intro l pre x W K hI0 hK
  have HI0:=jH hI0
  clear hI0
  obtain⟨⟨s2,d2,p2,sp2,dp2⟩,b2,g2,n2⟩:=x
  unfold bj Fl.vals
  dsimp only
  simp only[List.zip_toArray,List.zip_cons_cons,List.zip_nil_right,List.foldl_toArray',List.size_toArray,List.length_cons,List.length_nil,List.foldl_cons,List.foldl_nil,List.setIfInBounds_toArray,List.set_cons_succ,List.set_cons_zero]
  change Code.wpIn (Fence.wide.inRound l) (n - 1 - 1) Pg _ _ {tmps:=#[G none 0 0,.func (.func g) #[] lb,PT (some ⟨w.heap.size,0,none⟩),undef,G none 0 0,undef,.func (.func g) #[] lb,aG #[X Z s2,X Z d2,X Y p2,X Y sp2,X Y dp2,X Y b2,X Y g2,X Y n2],undef,undef,undef,undef,undef],defers:=[]} W
  gi_wp2_with (rw[Oper.semAt_eq _ _ _ (fun c h=>by cases h)];go_simp;try go_bits)
  refine hK _ _ ?_ ?_ ?_ ?_
  ·exact(KeepsOthers.alloc _ _).from _
  ·exact KeepsWalks.alloc _ _
  ·obtain⟨v,h1,h2,h3⟩:=HI0.out
   exact⟨v,h1.alloc _,h2.alloc _,h3.alloc h3.size _⟩
  ·exact⟨W.heap.size,rfl,ab.new W _ _⟩
 case body=>
  rintro l pre x a' W hl - hI0 ⟨b5,rfl,hx5⟩ ax
  obtain⟨v,h1,h2,h3⟩:=hI0
  obtain⟨i0,hi0,hiz,his,hib⟩:=info_parts AM
  have c0:=h1.c1
  have f0:=h1.frozen 0
  have az:w.heap.size≠b5:=h1.ne_ hx5 (by decide)
  obtain⟨⟨s2,d2,p2,sp2,dp2⟩,b2,g2,n2⟩:=x
  unfold bj Fl.vals at *
  dsimp only at *
  obtain⟨x0,x1,x2,x3,x4,x5,x6,x7⟩:=hx5.c8
  have hbW:w.heap.size≤W.heap.size:=h3.size
  have hg0:=h1.lt
  gi_wp2_with (first
   |(gi_at_builtin;refine cu ?_)
   |(rw[Oper.semAt_eq _ _ _ (fun c h=>by cases h)];go_simp;try go_bits))
  refine cw ?_
  have hrA:=eo W 47 (0,0) #[X Z s2,X Z d2,X Y p2,X Y sp2,X Y dp2,X Y b2,X Y g2,X Y n2] 1 8 (W.heap.size + 1) W.heap.size rfl rfl rfl _ rfl
  have hcA:∀(j:Nat) (u:Value),[X Z s2,X Z d2,X Y p2,X Y sp2,X Y dp2,X Y b2,X Y g2,X Y n2][j]? =some u→(W.alloc (cL #[X Z s2,X Z d2,X Y p2,X Y sp2,X Y dp2,X Y b2,X Y g2,X Y n2] 47)).cell? ((⟨W.heap.size,0,none⟩:Addr).add j)=some u:=by
   obtain⟨ad,he,_,hc⟩:=hrA.2 (by omega)
   injection he with he
   subst he
   exact hc
  have HA:=jH (aI h1 (aI h2 (aI h3 hl)))
  refine wpListIn_append_own _ rfl (.tmp 8) (.tmp 10) _ rfl w.heap.size 47 i0 _ 8 56 underlying42 hi0 hiz his hib rfl (by decide) v pre.length (bE pre) rfl (h2.alloc _) ⟨W.heap.size,0,none⟩ 1 1 _ rfl rfl hcA (BW [Fl.mk (Tu.mk s2 d2 p2 sp2 dp2) b2 g2 n2]) (by unfold maxLen;omega) (by omega) (by simp;omega) ?_
  intro v9 w9 hown9 hg9 _
  have h1A:=h1.alloc (cL #[X Z s2,X Z d2,X Y p2,X Y sp2,X Y dp2,X Y b2,X Y g2,X Y n2] 47)
  have h2A:=h2.alloc (cL #[X Z s2,X Z d2,X Y p2,X Y sp2,X Y dp2,X Y b2,X Y g2,X Y n2] 47)
  have h19:ab w9 w.heap.size 42 #[v]:=h1A.grown hg9 (fun e=>dj h2A h1A (by decide) e.symm)
  have c9:=h19.c1
  have f9:=h19.frozen 0
  obtain⟨A9,k9,rfl⟩:=cV hown9
  have HK:Hid (KeepsFrom w0.heap.size W (w9.setCell ⟨w.heap.size,0,none⟩ (G A9 (pre.length + 1) k9))∧KeepsWalks W (w9.setCell ⟨w.heap.size,0,none⟩ (G A9 (pre.length + 1) k9))∧mu w (pre++[Fl.mk (Tu.mk s2 d2 p2 sp2 dp2) b2 g2 n2]) (w9.setCell ⟨w.heap.size,0,none⟩ (G A9 (pre.length + 1) k9))):=by
   have hnw:∀(j:Nat) (o:Obj),v.ownBlock=some j→(W.alloc (cL #[X Z s2,X Z d2,X Y p2,X Y sp2,X Y dp2,X Y b2,X Y g2,X Y n2] 47)).heap[j]? =some o→o.isCells=true:=by
    intro j o hj ho
    rcases h2A.2 with⟨rfl,_⟩|⟨g',cap,cur,rfl,_,hgb,_⟩
    ·simp[Value.ownBlock] at hj
    ·have:g'=j:=by simpa [Value.ownBlock] using hj
     subst this;rw[hgb] at ho;cases ho;rfl
   have hsame:∀(k:Nat) (o:Obj),W.heap[k]? =some o→o.isCells=false→(w9.setCell ⟨w.heap.size,0,none⟩ (G A9 (pre.length + 1) k9)).heap[k]? =some o:=by
    intro k o hk ho
    have hkA:=(Below.heap_alloc W (cL #[X Z s2,X Z d2,X Y p2,X Y sp2,X Y dp2,X Y b2,X Y g2,X Y n2] 47) k (Array.getElem?_eq_some_iff.1 hk).1).trans hk
    have hk9:w9.heap[k]? =some o:=(hg9.block k (Array.getElem?_eq_some_iff.1 hkA).1 (fun e=>by have:=hnw k o e.symm hkA;rw[ho] at this;cases this)).trans hkA
    rw[Below.heap_setCell _ _ _ _ (fun e=>?_)]
    ·exact hk9
    ·have e':k=w.heap.size:=e
     subst e'
     have h1':w9.heap[w.heap.size]? =some (cL #[v] 42 (0,0)):=h19
     rw[h1'] at hk9
     cases hk9
     cases ho
   have hsz:W.heap.size≤(w9.setCell ⟨w.heap.size,0,none⟩ (G A9 (pre.length + 1) k9)).heap.size:=by
    have:=hg9.size
    simp at this⊢
    omega
   refine⟨⟨hsz,fun k o _ hk ho=>hsame k o hk ho⟩,⟨hsz,fun k o hk ho=>hsame k o hk (Obj.not_cells_of_walk ho)⟩,_,h19.set_ 0 _,?_,?_⟩
   ·have:=aB hown9 h19 (by decide) 0 (G A9 (pre.length + 1) k9)
    rw[BX,List.length_append]
    exact this
   ·exact((h3.alloc h3.size _).grown hg9 (by simp;omega) (fun k e=>(h2A.lt k e).1)).setCell (p:=⟨w.heap.size,0,none⟩) (nR _) _
  clear hown9 hg9 h1A h2A h19 h1 h2 h3 hcA hrA x0 x1 x2 x3 x4 x5 x6 x7 c0 f0
  gi_wp2_with (rw[Oper.semAt_eq _ _ _ (fun c h=>by cases h)];go_simp;try go_bits)
  exact HK.out
 case done=>
  rintro D xs W hD hS ⟨v,h1,h2,h3⟩ hK
  have c0:=h1.c1
  have HD:=jH (aI hS (aI h2 (aI h3 (aI hD hK))))
  clear hS h2 h3 hK
  gi_wp2
  obtain⟨hS,h2,h3,hD',hK⟩:=HD.out
  refine⟨by simp,.inl ⟨_,_,rfl,run_takeDeferred hK,?_⟩⟩
  exact⟨_,results_tmp rfl _ _ _,v,xs,rfl,hS,rB h2 (grownBy_putObj' W D _) (fun r e=>by cases e;exact⟨_,hK,rfl⟩),h3.grown (grownBy_putObj' W D _) h3.size (fun k e=>by cases e;omega)⟩
 case stop=>
  intro D c pre W hD _ hF
  exact hF.elim
end
section
open Go.RowKit Go.Maps Go.Shelf Go.Sort
theorem Ar (n l Bm b:Nat)(hn:1≤n)(J:List Int→World→Prop)
  (W:World)(hJ:AbidesFrom W.heap.size J)(hm:W.cell? ⟨Bm,0,none⟩=some (.map (some b)))(hown:aL W dZ anyI dZ b ([]:List (Int×Int)))(h0:J [] W):
  CallsIn Fence.wide n Pg 135 #[.func (.yield l) #[] #[],PT (some ⟨Bm,0,none⟩)] W fun e W'=>(∃v,e=rT v)∧J [] W':=by
 obtain⟨w1,hrange,hit,ae,hs1⟩:=hown.range (P:=Pg) (t:=137) underlying137
 have HJ0:Hid (J [] w1):=hJ [] W w1 none h0 ⟨ae.os,ae.tape,ae.output,ae.size,fun k hk _=>ae.block k hk⟩ (fun r e=>by cases e)
 have hnx:∀ty,(Instr.next (PT (some ⟨W.heap.size,0,none⟩)) false ty).run Pg w1=.ok (tU #[bL false]) w1:=by
  intro ty
  rcases hit.next (P:=Pg) ty with⟨_,h⟩|⟨p,left',w2,cK,_⟩
  ·exact h
  ·exact absurd cK.length_eq (by simp)
 clear hit ae hs1 h0
 refine callsIn_of_wp func135 rfl trivial ?_ rfl
 simp only[ntmps135,List.size_toArray,List.length_cons,List.length_nil,Nat.reduceAdd,Nat.reduceSub,Array.replicate_succ,Array.replicate_zero,List.push_toArray,List.append_toArray,List.nil_append,List.cons_append]
 gi_wp2
 gi_loopg [3] 0 (fun gk _ wr=>wr=w1)
 case atStart=>rfl
 case round=>
  subst hrel
  gi_wp2
  go_end0
  exact⟨⟨_,rfl⟩,HJ0.out⟩
theorem Aq (n Bm b:Nat)(hn:1≤n)(w:World)(hBm:Bm < w.heap.size)(hm:w.cell? ⟨Bm,0,none⟩=some (.map (some b)))(hown:aL w dZ anyI dZ b ([]:List (Int×Int))):
  SeqStopsK Fence.wide n Pg 135 #[PT (some ⟨Bm,0,none⟩)] (fun i:Int=>#[X Y i]) KeepsWalks (fun xs=>xs=[]) (fun _=>True) 0 w:=fun l J Jx W hW hJ _ hY h0=>
 (Ar n l Bm b hn J W hJ ((hW.cell (p:=⟨Bm,0,none⟩) hBm).trans hm) (hown.below hW hown.lt) h0).mono fun _ _ ⟨h1,h2⟩=>⟨h1,.inl ⟨[],rfl,h2⟩⟩
def um (w0:World)(pre:List Int)(W:World):Prop:=ab W w0.heap.size 51 #[G none 0 0]∧Below w0.heap.size w0 W
theorem E6 (n:Nat)(hn:2≤n)(g:Nat)(lb:Array Value)(eg:∀args w,(callFunc g args).run Pg w=.ok (.enter g args) w)(w:World)(hseq:SeqStopsK Fence.wide (n - 1) Pg g lb (fun i:Int=>#[X Y i]) KeepsWalks (fun xs=>xs=[]) (fun _=>True) 0 w):
  CallsIn Fence.wide n Pg 244 #[G none 0 0,.func (.func g) #[] lb] w fun e w'=>e=rT (G none 0 0)∧Below w.heap.size w w':=by
 refine callsIn_of_wp_marks func244 rfl trivial ?_ rfl
 simp only[ntmps244,List.size_toArray,List.length_cons,List.length_nil,Nat.reduceAdd,Nat.reduceSub,Array.replicate_succ,Array.replicate_zero,List.push_toArray,List.append_toArray,List.nil_append,List.cons_append]
 have HS:=jH hseq
 gi_wp2
 have ao:Below w.heap.size w (w.alloc (cL #[G none 0 0] 51)):=(bR _ _).alloc (nR _) _
 have hx0:=ab.new w 51 #[G none 0 0]
 have hz0:(w.alloc (cL #[G none 0 0] 51)).heap.size=w.heap.size + 1:=by simp
 generalize w.alloc (cL #[G none 0 0] 51)=w0 at *
 have hI:OwnFrom w0.heap.size (um w):=fun pre A B row hI hg hr=>by
  obtain⟨h1,h3⟩:=hI
  exact⟨pd h1 hg (fun r e=>(hr r e).2),h3.grown hg h3.size (fun k e=>by have:=(hr k e).1;omega)⟩
 refine wpIn_rangeFunc_ownH (S:=fun xs:List Int=>xs=[]) (Sp:=fun _=>True) rfl (by omega) (gf:=g) (lb:=lb) rfl trivial eg HS.out walksK_t walksK_b ao (fun _=>rfl) (um w) (fun _ _ _=>False) hI (fun c pre A B row h=>h.elim) ⟨hx0,ao⟩ (fun _ _ _=>True) (fun _ _ _ _ _ _ _ _ _=>trivial) ?assign ?body ?done ?stop
 case assign=>
  intro l pre x W K hI0 hK
  simp only[List.zip_toArray,List.zip_cons_cons,List.zip_nil_right,List.foldl_toArray',List.size_toArray,List.length_cons,List.length_nil,List.foldl_cons,List.foldl_nil,List.setIfInBounds_toArray,List.set_cons_succ,List.set_cons_zero]
  gi_wp2_with (rw[Oper.semAt_eq _ _ _ (fun c h=>by cases h)];go_simp;try go_bits)
  refine hK _ _ ?_ ?_ ?_ ?_
  ·exact(KeepsOthers.refl _).from _
  ·exact KeepsWalks.refl _
  ·exact hI0
  ·trivial
 case body=>
  rintro l pre x a' W hl - hI0 hA ax
  exact absurd ax (by omega)
 case done=>
  rintro D xs W hD rfl ⟨h1,h3⟩ hK
  have c0:=h1.c1
  have HD:=jH (aI h3 (aI hD hK))
  clear h3 hK
  gi_wp2
  obtain⟨h3,hD',hK⟩:=HD.out
  refine⟨by simp,.inl ⟨_,_,rfl,run_takeDeferred hK,?_⟩⟩
  exact⟨_,results_tmp rfl _ _ _,rfl,h3.grown (grownBy_putObj' W D _) h3.size (fun k e=>by cases e;omega)⟩
 case stop=>
  intro D c pre W hD _ hF
  exact hF.elim
theorem DL (g:Nat)(lb:Array Value)(eg:∀args w,(callFunc g args).run Pg w=.ok (.enter g args) w)(w:World)(hseq:SeqStopsK Fence.wide 7 Pg g lb (fun i:Int=>#[X Y i]) KeepsWalks (fun xs=>xs=[]) (fun _=>True) 0 w):
  Calls Pg 133 #[.func (.func g) #[] lb] w fun e w'=>e=rT (G none 0 0)∧Below w.heap.size w w':=by
 have C0:=jH (callsIn_wide.1 (E6 8 (by omega) g lb eg w hseq))
 clear hseq
 go_enter func133,ntmps133
 go_wp2_with fail
 refine C0.out.mono ?_
 rintro e w1 ⟨rfl,hb⟩
 have HO:=jH hb
 clear hb
 go_wp2
 go_ret
 exact⟨rfl,HO.out⟩
theorem AF (w:World):Calls Pg 357 #[G none 0 0,X Y 0,X Y 0] w fun e w'=>e=rT (tU #[])∧w'=w:=by
 go_enter func357,ntmps357
 go_wp2
 refine wp_loop_rounds 1 ?_
 rw[rounds_succ]
 go_wp2
 go_end0
 exact⟨rfl,rfl⟩
theorem yn (lim:Int)(w:World):Calls Pg 245 #[G none 0 0,X Y 0,X Y 0,X Y lim] w fun e w'=>e=rT (tU #[])∧w'=w:=by
 go_enter func245,ntmps245
 go_wp2
 refine wp_loop_rounds 1 ?_
 rw[rounds_succ]
 go_wp2_with (go_at_call 357;refine(AF _).mono ?_;rintro e w' ⟨rfl,rfl⟩)
 (try simp only[Exit.inBlock,Exit.then]);refine bodyPost_ret (results_none rfl _ _ _) rfl ?_
 exact⟨rfl,rfl⟩
theorem Er (w:World):Calls Pg 188 #[X .u64 0] w fun e w'=>e=rT (X Y 0)∧w'=w:=by
 have h:=Any.bits_Len (SlLaysF0.n15.bits (P:=Pg) (ρ:=qT) {nk with}) 0 w (by omega) (by omega)
 exact h
theorem wm (w:World):Calls Pg 134 #[G none 0 0] w fun e w'=>e=rT (tU #[])∧w'=w:=by
 go_enter func134,ntmps134
 go_wp2_with (first|(go_at_call 188;refine(Er _).mono ?_;rintro e w' ⟨rfl,rfl⟩)|(go_at_call 245;refine(yn _ _).mono ?_;rintro e w' ⟨rfl,rfl⟩))
 go_end0
 exact⟨rfl,rfl⟩
theorem nh (Bm b:Nat)(w:World)(hBm:Bm < w.heap.size)(hm:w.cell? ⟨Bm,0,none⟩=some (.map (some b)))(hown:aL w dZ anyI dZ b ([]:List (Int×Int))):
  Calls Pg 55 #[.func (.func 135) #[] #[PT (some ⟨Bm,0,none⟩)]] w fun e w'=>e=rT (G none 0 0)∧Below w.heap.size w w':=by
 have C0:=jH (DL 135 #[PT (some ⟨Bm,0,none⟩)] (enters_of func135 (by kernel_rfl) rfl) w (Aq 7 Bm b (by omega) w hBm hm hown))
 clear hown hm
 go_enter func55,ntmps55
 go_wp2_with fail
 refine C0.out.mono ?_
 rintro e w1 ⟨rfl,hb⟩
 have HO:=jH hb
 clear hb C0
 go_wp2_with (go_at_call 134;refine(wm _).mono ?_;rintro e w' ⟨rfl,rfl⟩)
 go_ret
 exact⟨rfl,HO.out⟩
theorem oj (b:Nat)(w:World):
  Calls Pg 56 #[.map (some b)] w fun e w'=>e=rT (.func (.func 135) #[] #[PT (some ⟨w.heap.size,0,none⟩)])∧w'=w.alloc (cL #[.map (some b)] 137):=by
 go_enter func56,ntmps56
 go_wp2
 go_ret
 exact⟨rfl,rfl⟩
end
section
open Go.RowKit Go.Maps
theorem dU.frq {w w':World}{aa base' dp dm qp qm qp2:Nat}{K:List TypeId}{M:List Nat}(h:dU w aa dp dm qp qm)(hf:bC qp2 K M base' w w')(h1:qp≠qp2)(h2:140∉K)(h3:qm∉M)(h4:dm∉M):dU w' aa dp dm qp qm:=⟨h.lod,h.lom,h.ne,hf.blk _ _ _ h.blk h2,⟨h.q.loq,h.q.lom,hf.que _ _ h.q.blk h1,hf.mapIs h.q.mp h3⟩,hf.mapIs h.mp h4⟩
theorem tw (aa dp dm qp qm:Nat)(w:World)(h:dU w aa dp dm qp qm):Calls Pg 22 #[PT (some ⟨dp,0,none⟩)] w fun e w'=>e=rT (G none 0 0)∧Below w.heap.size w w':=by
 obtain⟨-,x1⟩:=h.blk.c2
 have KA:=jH (oj dm w)
 have HD:(fun Vv:World=>Hid (aL Vv dZ anyI dZ dm ([]:List (Int×Int))∧Below w.heap.size w Vv∧Vv.cell? ⟨w.heap.size,0,none⟩=some (.map (some dm))∧Vv.heap.size=w.heap.size + 1)) (w.alloc (cL #[.map (some dm)] 137)):=
  ⟨h.mp.alloc _,(bR _ _).alloc (nR _) _,(ab.new w _ _).cell 0,by simp⟩
 clear h
 go_enter func22,ntmps22
 go_wp2_with fail
 refine KA.out.mono ?_
 rintro e w3 ⟨rfl,rfl⟩
 generalize w.alloc (cL #[.map (some dm)] 137)=wk at HD⊢
 have SA:=jH (nh w.heap.size dm wk (by have:=HD.out.2.2.2;omega) HD.out.2.2.1 HD.out.1)
 clear KA
 go_wp2_with fail
 refine SA.out.mono ?_
 rintro e w4 ⟨rfl,aq⟩
 have H4:Hid (Below w.heap.size w w4):=HD.out.2.1.trans (aq.mono (by have:=HD.out.2.2.2;omega))
 clear SA HD aq
 go_wp2_with fail
 refine wp_loop_rounds 1 ?_
 rw[rounds_succ]
 go_wp2_with fail
 go_ret
 exact⟨rfl,H4.out⟩
end
section
open Go.RowKit
structure Fj (w:World)(p ag:Nat)(l:List Be)(t:List Int)(made:Int)(A:Option Addr)(n c:Nat)(A2:Option Addr)(c2:Nat):Prop where
 blk:ab w p 269 #[X Y ag,G A n c,G A2 ag c2,X Y made]
 bes:w.ownsRow 0 34 3 (G A n c) n (aC l)
 tab:w.ownsRow 0 3 1 (G A2 ag c2) ag (iv t)
 few:n≤16
def Ch (w:World)(p ag:Nat)(l:List Be)(t:List Int)(made:Int):Prop:=∃A n c A2 c2,Fj w p ag l t made A n c A2 c2
theorem Ch.below {w w':World}{p ag:Nat}{l:List Be}{t:List Int}{made:Int}(h:Ch w p ag l t made)(hb:Below w.heap.size w w'):Ch w' p ag l t made:=by
 obtain⟨A,n,c,A2,c2,h1,h2,h3,h4⟩:=h
 exact⟨A,n,c,A2,c2,h1.below hb h1.lt,aJ h2 hb,aJ h3 hb,h4⟩
theorem Ch.blk {w:World}{p ag:Nat}{l:List Be}{t:List Int}{made:Int}(h:Ch w p ag l t made):∃cs,ab w p 269 cs:=by
 obtain⟨A,n,c,A2,c2,h1,h2,h3,h4⟩:=h
 exact⟨_,h1⟩
theorem zD:¬gP ([]:List Be).length []:=fun h=>by have:=h.1;simp at this
theorem yX (n:Nat)(hn:n≤1000000)(hm:dd n=true)(w:World):
  Calls Pg 88 #[X Y n] w fun e w'=>∃p,e=rT (PT (some ⟨p,0,none⟩))∧w.heap.size≤p∧Ch w' p n [] (List.replicate n (-1)) 0∧Below w.heap.size w w':=by
 have CM:=jH (lM n hn)
 have CT:=jH (qy none 0 0 w.heap.size n [] w Reads.none_ (nR _) (fun b hb=>by cases hb) (by omega) (by omega) hm)
 rw[qB zD] at CT
 rw[hm] at CM
 clear hm
 go_enter func88,ntmps88
 go_wp2_with fail
 refine(CM.out _).mono ?_
 rintro e w' ⟨rfl,rfl⟩
 go_wp2_with fail
 refine CT.out.mono ?_
 rintro e w1 ⟨A1,c1,rfl,aQ,ae⟩
 have hs1:=ae.size
 go_wp2_with fail
 go_ret
 exact⟨w1.heap.size,rfl,hs1,⟨none,0,0,A1,c1,ab.new_ rfl,World.ownsRow_nil _ _ _ _,cO (aQ.alloc _) (Nat.zero_le _),by omega⟩,ae.alloc hs1 _⟩
theorem Es {p:Be→Bool}{l:List Be}(h:dD l):dD (de p l):=fun b hb=>h b (List.mem_filter.1 hb).1
theorem Ax (p:Be→Bool)(l:List Be):(de p l).length≤l.length:=List.length_filter_le _ _
theorem wW (p ag:Nat)(l0:List Be)(t0:List Int)(made:Int)(ov:Value)(o:Be→Bool)(A:Option Addr)(n c B:Nat)(l:List Be)(w:World)(hch:Ch w p ag l0 t0 made)(hm:dd ag=true)
  (hr:Reads w B 3 A n (aC l))(hB:B≤w.heap.size)(hok:dD l)(hnc:n≤c)(bI:A=none→c=0)(bu:dz n l)(hmd:0≤made∧made≤1000000)
  (hW:∀W,Below B w W→Calls Pg 116 #[G A n c,ov] W fun e w'=>∃A' m c',e=rT (G A' m c')∧m=(de o l).length∧m≤c'∧Reads w' w'.heap.size 3 A' m (aC (de o l))∧Below W.heap.size W w'):
  Calls Pg 184 #[PT (some ⟨p,0,none⟩),G A n c,ov] w fun e w'=>e=rT (X Y 0)∧Ch w' p ag l (tableF (de o l) ag) (made + 1)∧cr p w w':=by
 obtain⟨A0,n0,c0,At,ct,aZ,hbes,htab,hfew⟩:=hch
 have hn16:=bu.1
 have CM:=jH (lQ A n c B l w hr hB hok (by omega) hnc)
 have CMy:=jH bu
 clear bu
 go_enter func184,ntmps184
 go_wp2_with fail
 refine CM.out.mono ?_
 rintro e w1 ⟨⟨b,rfl,hbm⟩,ae⟩
 obtain rfl:=hbm.2 CMy.out
 clear hbm CM
 have hb1B:=ae.mono hB
 have hBp:Hid (p < w.heap.size):=aZ.lt
 have hblk1:=aZ.below ae aZ.lt
 have CC:=jH (fun W (hb:Below B w W)=>gH A n c B l W (hr.below hb) (nT hB hb.size) (by omega) bI)
 have CW:=jH hW
 have CT:=jH (fun(A':Option Addr) (m c':Nat) (W:World) (hR:Reads W W.heap.size 3 A' m (aC (de o l))) (h1:m≤16) (h2:m≤c')=>qy A' m c' _ ag _ W hR (nR _) (Es hok) (by omega) h2 hm)
 have hkl:=Ax o l
 have hll:=hr.be_length
 have HK:=jH (aI hkl hll)
 have HR:=jH hr
 clear hkl hll hW hm hr hok bI hbes htab aZ hfew
 go_wp2_with fail
 have HB:=jH (aI ae (aI hb1B hblk1))
 clear ae hb1B hblk1
 have d0:w1.drew.cell? ⟨p,0,none⟩=some (X Y ag):=by have:=HB.out.2.2.cell 0;simpa using this
 go_region_held3 (fun wS=>wS.cell? ⟨p,0,none⟩=some (X Y ag)) (first|with_reducible exact d0|with_reducible exact z0|with_reducible exact y0|with_reducible exact x0|with_reducible exact sA _|with_reducible exact sB _ _|fail)
  (first
  |(go_at_call 21;(with_reducible refine(CC.out _ HB.out.2.1.drew).mono ?_);rintro e w2 ⟨A2,c2,rfl,bH,af⟩;have hbk2:=HB.out.2.2.drew.below af HB.out.2.2.lt;have z0:=hbk2.cell 0;simp only[ga,gz,gN] at z0)
  |(go_at_call 116;have hbW:=HB.out.2.1.drew.trans (af.mono (nT hB HB.out.1.size));(with_reducible refine(CW.out _ hbW).mono ?_);rintro e w3 ⟨A3,m3,c3,rfl,hm3,hmc3,hr3,al⟩;have HM3:=jH hm3;clear hm3;have hbk3:=hbk2.below al hbk2.lt;have y0:=hbk3.cell 0;simp only[ga,gz,gN] at y0)
  |(go_at_call 178;have hm16:m3≤16:=(by have:=HK.out;have:=HM3.out;omega);(with_reducible refine(CT.out _ _ _ _ hr3 hm16 hmc3).mono ?_);rintro e w4 ⟨A4,c4,rfl,bF,aq⟩;have hbk4:=hbk3.below aq hbk3.lt;have x0:=hbk4.cell 0;have x1:=hbk4.cell 1;have x2:=hbk4.cell 2;have f1:=hbk4.frozen 1;have f2:=hbk4.frozen 2;simp only[ga,gz,gN] at x0 x1 x2;have sA:∀u,(w4.setCell ⟨p,1,none⟩ u).cell? ⟨p,0,none⟩=some (X Y ag):=(fun u=>(World.cell?_setCell_other w4 ⟨p,1,none⟩ ⟨p,0,none⟩ u (by intro e;cases e)).trans x0);have sB:∀u v,((w4.setCell ⟨p,1,none⟩ u).setCell ⟨p,2,none⟩ v).cell? ⟨p,0,none⟩=some (X Y ag):=(fun u v=>(World.cell?_setCell_other _ ⟨p,2,none⟩ ⟨p,0,none⟩ v (by intro e;cases e)).trans (sA u))))
 have q1:w.heap.size≤w1.drew.heap.size:=HB.out.1.size
 have q2:=nT q1 af.size
 have q3:=nT q2 al.size
 have hb24:=(af.mono q1).trans ((al.mono q2).trans (aq.mono q3))
 have hB4:Below w.heap.size w w4:=HB.out.1.drew.trans hb24
 have hbes4:=aJ (aJ bH al) aq
 have H1:=(hbk4.set_ 1 (G A2 n c2)).set_ 2 (G A4 ag c4)
 have hB5:=(cr.of_below (p:=p) hB4).set_ 1 (G A2 n c2) |>.set_ 2 (G A4 ag c4)
 have hbes5:=aB (aB hbes4 hbk4 (by decide) 1 (G A2 n c2)) (hbk4.set_ 1 (G A2 n c2)) (by decide) 2 (G A4 ag c4)
 have htab5:=aB (aB bF hbk4 (by decide) 1 (G A2 n c2)) (hbk4.set_ 1 (G A2 n c2)) (by decide) 2 (G A4 ag c4)
 generalize (w4.setCell ⟨p,1,none⟩ (G A2 n c2)).setCell ⟨p,2,none⟩ (G A4 ag c4)=w5 at *
 have HF:=jH (aI H1 (aI hB5 (aI hbes5 htab5)))
 have e3:=H1.cell 3
 have f3:=H1.frozen 3
 simp[gN] at e3
 have ew:IntKind.i64.wrap (made + 1)=made + 1:=IntWalk.i64_in _ (by omega)
 clear H1 hB5 hbes5 htab5 hbes4 hB4 hb24 f1 f2 x0 x1 x2 hbk4 bF bH hbk2 hbk3 hr3 d0 z0 y0 sA sB
 go_wp2_with fail
 go_ret
 refine⟨rfl,⟨A2,n,c2,A4,c4,?_,?_,?_,hn16⟩,HF.out.2.1.set_ _ _⟩
 ·exact HF.out.1.set_ 3 _
 ·exact cO (aB HF.out.2.2.1 HF.out.1 (by decide) 3 _) (Nat.zero_le _)
 ·exact cO (aB HF.out.2.2.2 HF.out.1 (by decide) 3 _) (Nat.zero_le _)
end
section
open Go.RowKit Go.Shelf
theorem uC (q g:Nat)(rv:Value)(o:Int→Bool)(eg:∀args w,(callFunc g args).run Pg w=.ok (.enter g args) w)(x:Be)(w:World)(hq:w.cell? ⟨q,0,none⟩=some (.func (.func g) #[rv] #[]))
  (hp:∀(W:World),Below w.heap.size w W→Calls Pg g #[rv,X Y x.id] W fun e w'=>e=rT (bL (o x.id))∧Below w.heap.size w w'):
  Calls Pg 220 #[aG #[X Y x.id,X Z x.addr,X Y x.weight],PT (some ⟨q,0,none⟩)] w fun e w'=>e=rT (bL (o x.id))∧Below w.heap.size w w':=by
 have au:=World.block_lt_of_cell? w _ hq
 have hq2:(w.alloc (cL #[X Y x.id,X Z x.addr,X Y x.weight] 34)).cell? ⟨q,0,none⟩=some (.func (.func g) #[rv] #[]):=by
  rw[World.cell?_alloc_lt _ _ _ au];exact hq
 have hcall:=hp _ ((bR w.heap.size w).alloc (nR _) (cL #[X Y x.id,X Z x.addr,X Y x.weight] 34))
 obtain⟨xi,xa,xw⟩:=x
 dsimp only at hq2 hcall⊢
 have bn:∀w,(binOp .neq 169 (.func (.func g) #[rv] #[]) .nilFunc).run Pg w=.ok (bL true) w:=fun _=>by kernel_rfl
 clear hp
 go_enter func220,ntmps220
 go_wp2_with (go_at_fn g;refine hcall.mono ?_;rintro e w' ⟨rfl,hb'⟩)
 go_ret
 exact⟨rfl,hb'⟩
theorem Bq (ov:Value)(g:Nat)(rv:Value)(hov:ov=.func (.func g) #[rv] #[])(o:Int→Bool)(A:Option Addr)(n c B:Nat)(l:List Be)(w:World)(hr:Reads w B 3 A n (aC l))(hB:B≤w.heap.size)(hn:n≤1000000)(bI:A=none→c=0)
  (hp:∀(W:World) (x:Be),Below (w.heap.size + 1) (w.alloc (cL #[ov] 169)) W→Calls Pg 220 #[aG #[X Y x.id,X Z x.addr,X Y x.weight],PT (some ⟨w.heap.size,0,none⟩)] W fun e w'=>e=rT (bL (o x.id))∧Below W.heap.size W w'):
  Calls Pg 116 #[G A n c,ov] w fun e w'=>∃A' m c',e=rT (G A' m c')∧m=(de (fun b=>o b.id) l).length∧m≤c'∧Reads w' w'.heap.size 3 A' m (aC (de (fun b=>o b.id) l))∧Below w.heap.size w w':=by
 have eg:∀args w,(callFunc 220 args).run Pg w=.ok (.enter 220 args) w:=enters_of func220 (by kernel_rfl) rfl
 have ao:=(bR w.heap.size w).alloc (nR _) (cL #[ov] 169)
 have hr0:=hr.alloc hB (cL #[ov] 169)
 have hs0:(w.alloc (cL #[ov] 169)).heap.size=w.heap.size + 1:=by simp
 have CC:=jH (gH A n c B l _ hr0 (nT hB ao.size) (by omega) bI)
 rw[hs0] at CC
 have HP:=jH hp
 have HB:=jH ao
 clear hp hr0 ao
 subst hov
 go_enter func116,ntmps116
 go_wp2_with fail
 refine CC.out.mono ?_
 rintro e w1 ⟨A1,c1,rfl,aQ,ae⟩
 have hsz1:w.heap.size + 1≤w1.heap.size:=by have:=ae.size;rw[hs0] at this;exact this
 have CD:=jH (Dd 220 #[PT (some ⟨w.heap.size,0,none⟩)] (fun b=>o b.id) eg A1 n c1 _ l w1 aQ hsz1 hn (fun W x hW=>HP.out W x (ae.trans hW)))
 clear eg aQ CC
 go_wp2_with fail
 refine CD.out.mono ?_
 rintro e w2 ⟨A2,m,c2,rfl,hm0,hmc0,hr2,af⟩
 have hm:=jH (aI hm0 hmc0)
 clear hm0 hmc0
 go_wp2_with fail
 go_ret
 exact⟨A2,m,c2,rfl,hm.out.1,hm.out.2,hr2,HB.out.trans ((ae.trans af).mono (by omega))⟩
theorem Br (g:Nat)(rv:Value)(o:Int→Bool)(eg:∀args w,(callFunc g args).run Pg w=.ok (.enter g args) w)(A:Option Addr)(n c B:Nat)(l:List Be)(w:World)(hr:Reads w B 3 A n (aC l))(hB:B≤w.heap.size)(hn:n≤1000000)(bI:A=none→c=0)
  (hp:∀(W:World) (id:Int),Below w.heap.size w W→Calls Pg g #[rv,X Y id] W fun e w'=>e=rT (bL (o id))∧Below W.heap.size W w'):
  Calls Pg 116 #[G A n c,.func (.func g) #[rv] #[]] w fun e w'=>∃A' m c',e=rT (G A' m c')∧m=(de (fun b=>o b.id) l).length∧m≤c'∧Reads w' w'.heap.size 3 A' m (aC (de (fun b=>o b.id) l))∧Below w.heap.size w w':=by
 refine Bq (.func (.func g) #[rv] #[]) g rv rfl o A n c B l w hr hB hn bI (fun W x hW=>uC _ g rv o eg x W ?_ ?_)
 ·have:=((ab.new w 169 #[.func (.func g) #[rv] #[]]).below hW (by omega)).cell 0
  simpa using this
 ·intro W' hW'
  have ao:=(bR w.heap.size w).alloc (nR _) (cL #[.func (.func g) #[rv] #[]] 169)
  have hbW:=ao.trans (hW.mono (nS _))
  have hsz:=hbW.size
  refine(hp W' x.id (hbW.trans (hW'.mono hsz))).mono ?_
  rintro e w2 ⟨rfl,af⟩
  exact⟨rfl,hW'.trans (af.mono hW'.size)⟩
end
section
open Go.RowKit Go.Maps
def ie (w:World)(aa ss lg sp:Nat):Prop:=aa≤ss∧∃v2 v3 v4 v5,ab w ss 175 #[PT (some ⟨lg,0,none⟩),PT (some ⟨sp,0,none⟩),v2,v3,v4,v5]
theorem ie.fr {w w':World}{aa base' ss lg sp:Nat}{K:List TypeId}{M:List Nat}(h:ie w aa ss lg sp)(hf:Fr K M base' w w')(h1:175∉K):ie w' aa ss lg sp:=by
 obtain⟨h0,v2,v3,v4,v5,hb⟩:=h
 exact⟨h0,v2,v3,v4,v5,hf.blk _ _ _ hb h1⟩
theorem ie.made {w w':World}{aa ss lg sp:Nat}(h:ie w aa ss lg sp)(hb:Below w.heap.size w w'):ie w' aa ss lg sp:=by
 obtain⟨h0,v2,v3,v4,v5,hk⟩:=h
 exact⟨h0,v2,v3,v4,v5,hk.below hb hk.lt⟩
theorem vM (aa ss lg sp:Nat)(w:World)(h:ie w aa ss lg sp):Calls Pg 39 #[PT (some ⟨ss,0,none⟩)] w fun e w'=>e=rT (PT (some ⟨sp,0,none⟩))∧w=w':=by
 obtain⟨-,v2,v3,v4,v5,hb⟩:=h
 obtain⟨-,c1⟩:=hb.c2
 clear hb
 go_enter func39,ntmps39
 go_wp2_with fail
 go_ret
 exact⟨rfl,rfl⟩
end
section
open Go.RowKit Go.Maps
def dn:List Nat→Nat→List (ByteArray×Nat)
 |[],m=>[((⟨#[109]⟩:ByteArray),m)]
 |a::r,m=>(aN 1,a)::((⟨#[109]⟩:ByteArray),m)::r.mapIdx fun i f=>(aN (i + 2),f)
def bJ (k:Nat):List Nat:=(List.range k).map (·+ 1)
structure dt (D:aF)(Q V:Nat)(cls:List (List Nat))(L:List Nat)(s:Nat)(fl:List Nat)(fm:Nat):Prop where
 quota:D.quota=Q
 fail:D.fail=0
 chg:D.chg=[]
 now:D.now=dn fl fm
 sure:D.sure=dn fl fm
 len:fl.length=cls.length + 1
 few:cls.length≤2
 segs:∀i (h:i < cls.length),∃f,fl[i]? =some f∧av D.fs f=some ⟨cls[i],cls[i].length⟩
 last:∃f,fl[cls.length]? =some f∧av D.fs f=some ⟨L,s⟩
 man:av D.fs fm=some ⟨ck V (cls.length + 2) (bJ (cls.length + 1)),(ck V (cls.length + 2) (bJ (cls.length + 1))).length⟩
 nod:(fm::fl).Nodup
theorem lp:aN 1≠aN 2∧aN 1≠aN 3∧aN 2≠aN 3∧aN 1≠(⟨#[109]⟩:ByteArray)∧aN 2≠(⟨#[109]⟩:ByteArray)∧aN 3≠(⟨#[109]⟩:ByteArray)∧aN 1≠(⟨#[109,46,110,101,119]⟩:ByteArray)∧aN 2≠(⟨#[109,46,110,101,119]⟩:ByteArray)∧aN 3≠(⟨#[109,46,110,101,119]⟩:ByteArray)∧(⟨#[109,46,110,101,119]⟩:ByteArray)≠(⟨#[109]⟩:ByteArray):=by decide
theorem Ah (Q ops f1 f2 s V:Nat)(L:List Nat)(h:f1≠f2):dt (iP Q ops f1 f2 L s V) Q V [] L s [f1] f2:=
 ⟨rfl,rfl,rfl,rfl,rfl,rfl,by decide,fun i h=>by simp at h,⟨f1,rfl,by unfold iP;rw[dX,if_pos rfl]⟩,by unfold iP;rw[dX,if_neg h,dX,if_pos rfl];rfl,by simp[Ne.symm h]⟩
section
variable {D:aF}{Q V s fm:Nat}{cls:List (List Nat)}{L:List Nat}{fl:List Nat}
theorem dt.at_ (h:dt D Q V cls L s fl fm){i f:Nat}(hi:fl[i]? =some f):av D.now (aN (i + 1))=some f:=by
 obtain⟨n1,n2,n3,n4,n5,n6,-⟩:=lp
 have hl:=h.len
 have hf:=h.few
 have hil:=(List.getElem?_eq_some_iff.1 hi).1
 rw[h.now]
 match fl,hl,hi with
 |[a],_,hi=>
  obtain rfl:i=0:=by simp at hil;omega
  simp at hi
  simp[dn,dX,hi]
 |[a,b],_,hi=>
  obtain rfl|rfl:i=0∨i=1:=by simp at hil;omega
  ·simp at hi
   simp[dn,dX,hi]
  ·simp at hi
   simp[dn,dX,hi,n1,n5.symm]
 |[a,b,c],_,hi=>
  obtain rfl|rfl|rfl:i=0∨i=1∨i=2:=by simp at hil;omega
  ·simp at hi
   simp[dn,dX,hi]
  ·simp at hi
   simp[dn,dX,hi,n1,n5.symm]
  ·simp at hi
   simp[dn,dX,hi,n2,n3,n6.symm]
 |[],hl,_=>simp at hl
 |_::_::_::_::_,hl,_=>simp at hl;omega
theorem dt.last_ (h:dt D Q V cls L s fl fm):∃f,fl[cls.length]? =some f∧av D.now (aN (cls.length + 1))=some f∧av D.fs f=some ⟨L,s⟩:=by
 obtain⟨f,h1,h2⟩:=h.last
 exact⟨f,h1,h.at_ h1,h2⟩
theorem dt.hd (h:dt D Q V cls L s fl fm):av D.now (⟨#[109]⟩:ByteArray)=some fm:=by
 obtain⟨n1,n2,n3,n4,n5,n6,-⟩:=lp
 rw[h.now]
 cases fl with
 |nil=>simp[dn,dX]
 |cons a r=>simp[dn,dX,n4]
theorem dt.apart (h:dt D Q V cls L s fl fm){f:Nat}(hf:fl[cls.length]? =some f):fm≠f∧∀i g,i < cls.length→fl[i]? =some g→g≠f:=by
 have hn:=h.nod
 rw[List.nodup_cons] at hn
 obtain⟨hf1,hf2⟩:=List.getElem?_eq_some_iff.1 hf
 refine⟨fun e=>hn.1 (e▸hf2▸List.getElem_mem hf1),fun i g hi hg e=>?_⟩
 obtain⟨hg1,hg2⟩:=List.getElem?_eq_some_iff.1 hg
 have:=(List.getElem_inj (xs:=fl) (i:=i) (j:=cls.length) (h₀:=hg1) (h₁:=hf1) hn.2).1 (by rw[hg2,hf2,e])
 omega
theorem dt.put (h:dt D Q V cls L s fl fm){f:Nat}(hf:fl[cls.length]? =some f)(L':List Nat)(s' o:Nat):dt {D with ops:=o,fs:=aw D.fs f ⟨L',s'⟩} Q V cls L' s' fl fm:=by
 obtain⟨h1,h2⟩:=h.apart hf
 refine⟨h.quota,h.fail,h.chg,h.now,h.sure,h.len,h.few,fun i hi=>?_,⟨f,hf,eP _ _ _⟩,?_,h.nod⟩
 ·obtain⟨g,k1,k2⟩:=h.segs i hi
  exact⟨g,k1,by rw[←k2];exact eQ _ _ (h2 i g hi k1)⟩
 ·rw[←h.man]
  exact eQ _ _ h1
def gy (D:aF)(V k f f2 f4:Nat)(L:List Nat)(s:Nat):aF:=eZ (hZ (br (cY (br D f ⟨L,s⟩) (aN (k + 2)) f2 []) f2 ⟨[],0⟩) f4 (ck V (k + 3) (bJ (k + 2))))
theorem vb {k:Nat}(hk:k≤1){fl:List Nat}(hl:fl.length=k + 1)(fm f2 f4:Nat):
  eV ⟨2,(⟨#[109,46,110,101,119]⟩:ByteArray),(⟨#[109]⟩:ByteArray),none⟩ (aw (aw (dn fl fm) (aN (k + 2)) f2) (⟨#[109,46,110,101,119]⟩:ByteArray) f4)=dn (fl++[f2]) f4:=by
 obtain⟨n1,n2,n3,n4,n5,n6,n7,n8,n9,n10⟩:=lp
 obtain rfl|rfl:k=0∨k=1:=by omega
 ·match fl,hl with
  |[a],_=>
   simp[eV,dn,aw,av,fM,n1,n4,n5,n7,n8,n10,n1.symm,n4.symm,n5.symm,n7.symm,n8.symm,n10.symm]
  |[],hl=>simp at hl
  |_::_::_,hl=>simp at hl
 ·match fl,hl with
  |[a,b],_=>
   simp[eV,dn,aw,av,fM,n1,n2,n3,n4,n5,n6,n7,n8,n9,n10,n1.symm,n2.symm,n3.symm,n4.symm,n5.symm,n6.symm,n7.symm,n8.symm,n9.symm,n10.symm]
  |[],hl=>simp at hl
  |[_],hl=>simp at hl
  |_::_::_::_,hl=>simp at hl
theorem dt.key (h:dt D Q V cls L s fl fm){i g:Nat}(hi:fl[i]? =some g):∃p,av D.fs g=some p:=by
 have hl:=h.len
 have hil:=(List.getElem?_eq_some_iff.1 hi).1
 by_cases hc:i < cls.length
 ·obtain⟨f,k1,k2⟩:=h.segs i hc
  rw[hi] at k1
  injection k1 with k1
  exact⟨_,k1▸k2⟩
 ·obtain rfl:i=cls.length:=by omega
  obtain⟨f,k1,k2⟩:=h.last
  rw[hi] at k1
  injection k1 with k1
  exact⟨_,k1▸k2⟩
theorem nV {κ ν:Type}[DecidableEq κ]{m:List (κ×ν)}{x:κ}{v:ν}(h:av m x=some v):x∈aU m:=List.mem_map.2 ⟨(x,v),gW h,rfl⟩
theorem dt.turned (h:dt D Q V cls L s fl fm){f f2 f4:Nat}(hf:fl[cls.length]? =some f)(hk:cls.length≤1)(h2:f2∉aU (br D f ⟨L,s⟩).fs)(h4:f4∉aU (br (cY (br D f ⟨L,s⟩) (aN (cls.length + 2)) f2 []) f2 ⟨[],0⟩).fs):
  dt (gy D V cls.length f f2 f4 L s) Q V (cls++[L]) [] 0 (fl++[f2]) f4:=by
 have h1:dt (br D f ⟨L,s⟩) Q V cls L L.length fl fm:=h.put hf L L.length (D.ops + 1)
 obtain⟨fL,a1,a2⟩:=h1.last
 rw[hf] at a1
 injection a1 with a1
 subst a1
 generalize hD1:br D f ⟨L,s⟩=D1 at *
 have hl:=h1.len
 have hfs:(gy D V cls.length f f2 f4 L s).fs=aw (aw (aw (aw D1.fs f2 ⟨[],0⟩) f2 ⟨[],0⟩) f4 ⟨ck V (cls.length + 3) (bJ (cls.length + 2)),0⟩) f4 ⟨ck V (cls.length + 3) (bJ (cls.length + 2)),(ck V (cls.length + 3) (bJ (cls.length + 2))).length⟩:=by unfold gy;rw[hD1];rfl
 have h42:f4≠f2:=fun e=>h4 (by subst e;exact iq.2 (.inr rfl))
 have h4':f4∉aU D1.fs:=fun e=>h4 (iq.2 (.inl (iq.2 (.inl e))))
 have far:∀g p,av D1.fs g=some p→av (gy D V cls.length f f2 f4 L s).fs g=some p:=fun g p hg=>by
  have k:=nV hg
  have k2:g≠f2:=fun e=>h2 (e▸k)
  have k4:g≠f4:=fun e=>h4' (e▸k)
  rw[hfs,eQ _ _ k4,eQ _ _ k4,eQ _ _ k2,eQ _ _ k2]
  exact hg
 have aV:(gy D V cls.length f f2 f4 L s).now=dn (fl++[f2]) f4:=by
  have:(gy D V cls.length f f2 f4 L s).now=eV ⟨2,(⟨#[109,46,110,101,119]⟩:ByteArray),(⟨#[109]⟩:ByteArray),none⟩ (aw (aw D1.now (aN (cls.length + 2)) f2) (⟨#[109,46,110,101,119]⟩:ByteArray) f4):=by unfold gy;rw[hD1];rfl
  rw[this,h1.now]
  exact vb hk hl fm f2 f4
 exact{
  quota:=by show (br D f ⟨L,s⟩).quota=Q;rw[hD1];exact h1.quota
  fail:=by show (br D f ⟨L,s⟩).fail=0;rw[hD1];exact h1.fail
  chg:=rfl
  now:=aV
  sure:=aV
  len:=by rw[List.length_append,List.length_append,hl];rfl
  few:=by rw[List.length_append];simp;omega
  segs:=fun i hi=>by
   rw[List.length_append] at hi
   simp only[List.length_cons,List.length_nil] at hi
   by_cases hc:i < cls.length
   ·obtain⟨g,k1,k2⟩:=h1.segs i hc
    refine⟨g,by rw[List.getElem?_append_left (by omega)];exact k1,?_⟩
    rw[far g _ k2]
    simp[List.getElem_append_left hc]
   ·obtain rfl:i=cls.length:=by omega
    refine⟨f,by rw[List.getElem?_append_left (by omega)];exact hf,?_⟩
    rw[far f _ a2]
    simp
  last:=⟨f2,by rw[List.length_append];simp[←hl],by rw[hfs,eQ _ _ (Ne.symm h42),eQ _ _ (Ne.symm h42)];exact eP _ _ _⟩
  man:=by rw[hfs,eP,List.length_append];rfl
  nod:=by
   have hn:=h1.nod
   rw[List.nodup_cons] at hn
   have key:∀g∈fl,g∈aU D1.fs:=fun g hg=>by
    obtain⟨i,hi⟩:=List.getElem?_of_mem hg
    obtain⟨p,hp⟩:=h1.key hi
    exact nV hp
   rw[List.nodup_cons]
   refine⟨fun e=>?_,?_⟩
   ·rcases List.mem_append.1 e with e|e
    ·exact h4' (key _ e)
    ·exact h42 (by simpa using e)
   ·rw[List.nodup_append]
    refine⟨hn.2,by simp,fun x hx y hy e=>?_⟩
    obtain rfl:y=f2:=by simpa using hy
    exact h2 (key _ (e▸hx))}
end
end
section
open Go.RowKit
def KT:List TypeId:=[102,104,111,265]
def KL:List TypeId:=KD++[265]
theorem zV (aa lg d size V nx k:Nat)(segs body:List Nat)(M:List Nat)(A:Option Addr)(n c B:Nat)(w:World)(P0 P1 P2:World→Prop)(h0:P0 w)(hi:aa≤w.heap.size)(hst:∀a b,P0 a→Below a.heap.size a b→P0 b)(hL0:∀W,P0 W→bQ W aa lg d size V nx segs false)
  (hk:k≤255)(hV:V≤255)(hn:n≤4096)(hr:Reads w B 1 A n (bv body))(hB:B≤w.heap.size)(ha:ay body)
  (S1:∀W bl bb A1 c1,P0 W→ab W bl 171 #[PT (some ⟨lg,0,none⟩)]→ab W bb 23 #[G A1 (n + 16) c1]→Calls Pg 331 #[PT (some ⟨bl,0,none⟩),PT (some ⟨bb,0,none⟩)] W fun e w'=>e=rT (X Y 0)∧P1 w'∧Fr KT M aa W w')
  (S2:∀W bl bb A1 c1 b2,P1 W→ab W bl 171 #[PT (some ⟨lg,0,none⟩)]→ab W bb 23 #[G A1 (n + 16) c1]→W.ownsRow b2 5 1 (G A1 (n + 16) c1) (n + 16) (bv (df k V body))→Calls Pg 334 #[PT (some ⟨bl,0,none⟩),PT (some ⟨bb,0,none⟩)] W fun e w'=>e=rT (X Y 0)∧P2 w'∧Fr KL M aa W w'):
  Calls Pg 213 #[PT (some ⟨lg,0,none⟩),X Y k,G A n c] w fun e w'=>e=rT (X Y 0)∧P2 w'∧Fr KL M aa w w':=by
 have H:=jH (aI h0 (aI (hL0 w h0) hi))
 obtain⟨q,hq⟩:∃q,q=w.heap.size:=⟨_,rfl⟩
 have HQ:=jH hq
 have ao:=(bR w.heap.size w).alloc (nR _) (cL #[PT (some ⟨lg,0,none⟩)] 171)
 have hx0:=ab.new w 171 #[PT (some ⟨lg,0,none⟩)]
 have hs0:(w.alloc (cL #[PT (some ⟨lg,0,none⟩)] 171)).heap.size=q + 1:=by rw[hq];simp
 have CP:=jH (ri k V body A n c B _ hk hV hn (hr.alloc hB (cL #[PT (some ⟨lg,0,none⟩)] 171)) (by rw[hs0];omega) ha)
 obtain⟨hl0,A0,cc0,hlk,hlo⟩:=(hL0 w h0).made ao
 obtain⟨-,-,c2⟩:=hlk.c3
 rw[←hq] at ao hx0
 have c0:=hx0.c1
 have hall:ay (df k V body):=kC k V ha
 have hfl:(df k V body).length=n + 16:=by have:=hr.length;rw[fO];omega
 obtain⟨m,hm⟩:∃m,m=n + 16:=⟨_,rfl⟩
 rw[←hm] at CP hfl S1 S2
 generalize df k V body=fb at *
 clear h0 hi hr hlk hlo ha hm
 go_enter func213,ntmps213
 go_wp2_with fail
 rw[←hq]
 clear hq
 generalize w.alloc (cL #[PT (some ⟨lg,0,none⟩)] 171)=w0 at *
 refine CP.out.mono ?_
 rintro e w1 ⟨A1,c1,rfl,aQ,ae⟩
 have hx1:=hx0.below ae (by omega)
 have hsz1:=ae.size
 have bf:=ao.trans (ae.mono (by omega))
 have HX:=jH (aI hx1 (aI bf (hs0▸aQ)))
 have d0:=hx1.c1
 clear hx1 bf ao hx0 c0 c2 aQ CP
 have d1:∀o,(w1.alloc o).cell? ⟨q,0,none⟩=some (PT (some ⟨lg,0,none⟩)):=fun o=>by have:=(HX.out.1.alloc o).cell 0;simpa using this
 go_wp2_with fail
 have hx2:=((HX.out.1.alloc (cL #[G A1 m c1] 23)).alloc (cL #[.func (.func 228) #[PT (some ⟨lg,0,none⟩)] #[],.func (.func 331) #[] #[PT (some ⟨q,0,none⟩),PT (some ⟨w1.heap.size,0,none⟩)],.func (.func 334) #[] #[PT (some ⟨q,0,none⟩),PT (some ⟨w1.heap.size,0,none⟩)]] 71))
 have hn2:=(ab.new w1 23 #[G A1 m c1]).alloc (cL #[.func (.func 228) #[PT (some ⟨lg,0,none⟩)] #[],.func (.func 331) #[] #[PT (some ⟨q,0,none⟩),PT (some ⟨w1.heap.size,0,none⟩)],.func (.func 334) #[] #[PT (some ⟨q,0,none⟩),PT (some ⟨w1.heap.size,0,none⟩)]] 71)
 have hg2:=ab.new (w1.alloc (cL #[G A1 m c1] 23)) 71 #[.func (.func 228) #[PT (some ⟨lg,0,none⟩)] #[],.func (.func 331) #[] #[PT (some ⟨q,0,none⟩),PT (some ⟨w1.heap.size,0,none⟩)],.func (.func 334) #[] #[PT (some ⟨q,0,none⟩),PT (some ⟨w1.heap.size,0,none⟩)]]
 have hbl12:=(((bR w1.heap.size w1).alloc (nR _) (cL #[G A1 m c1] 23)).alloc (by simp) (cL #[.func (.func 228) #[PT (some ⟨lg,0,none⟩)] #[],.func (.func 331) #[] #[PT (some ⟨q,0,none⟩),PT (some ⟨w1.heap.size,0,none⟩)],.func (.func 334) #[] #[PT (some ⟨q,0,none⟩),PT (some ⟨w1.heap.size,0,none⟩)]] 71))
 have bH:=aJ HX.out.2.2 hbl12
 have hbl2:=HX.out.2.1.trans (hbl12.mono (by omega))
 rw[show (w1.alloc (cL #[G A1 m c1] 23)).heap.size=w1.heap.size + 1 by simp] at hg2
 generalize (w1.alloc (cL #[G A1 m c1] 23)).alloc (cL #[.func (.func 228) #[PT (some ⟨lg,0,none⟩)] #[],.func (.func 331) #[] #[PT (some ⟨q,0,none⟩),PT (some ⟨w1.heap.size,0,none⟩)],.func (.func 334) #[] #[PT (some ⟨q,0,none⟩),PT (some ⟨w1.heap.size,0,none⟩)]] 71)=w2 at *
 generalize w1.heap.size=k1 at *
 have hD2:P0 w2:=hst _ _ H.out.1 (HQ.out▸hbl2)
 have hbs2:aa≤w2.heap.size:=by have:=(HQ.out▸hbl2:Below w.heap.size w w2).size;have:=H.out.2.2;omega
 have hf02:Fr KL M aa w w2:=Fr.of_below _ _ (HQ.out▸hbl2) H.out.2.2
 refine(mi [(228,#[PT (some ⟨lg,0,none⟩)],#[]),(331,#[],#[PT (some ⟨q,0,none⟩),PT (some ⟨k1,0,none⟩)]),(334,#[],#[PT (some ⟨q,0,none⟩),PT (some ⟨k1,0,none⟩)])] (some ⟨k1 + 1,0,none⟩) 3 3 (k1 + 2)
  (fun i W=>Fr KL M aa w2 W∧match i with
   |0=>P0 W∧W.ownsRow (q + 1) 5 1 (G A1 m c1) m (bv fb)
   |1=>P0 W∧W.ownsRow (q + 1) 5 1 (G A1 m c1) m (bv fb)
   |2=>P1 W∧W.ownsRow (q + 1) 5 1 (G A1 m c1) m (bv fb)
   |_=>P2 W) w2 rfl (by omega)
  (fun p hp=>by
   rcases List.mem_cons.1 hp with rfl|hp
   ·exact enters_of func228 (by kernel_rfl) rfl
   ·rcases List.mem_cons.1 hp with rfl|hp
    ·exact enters_of func331 (by kernel_rfl) rfl
    ·rcases List.mem_cons.1 hp with rfl|hp
     ·exact enters_of func334 (by kernel_rfl) rfl
     ·cases hp)
  (fun i W hW=>gV (hW.1.blk _ _ _ hg2 (by decide)) rfl) ⟨Fr.refl _ _ _ _,hD2,bH⟩ ?_).mono ?_
 ·intro i hi W hW
  have hxW:=hW.1.blk _ _ _ hx2 (by decide)
  have hnW:=hW.1.blk _ _ _ hn2 (by decide)
  match i,hi,hW with
  |0,_,hW=>
   show Calls _ _ #[PT (some ⟨lg,0,none⟩)] _ _
   refine(qU aa lg d size V nx segs W (hL0 W hW.2.1)).mono ?_
   rintro e w' ⟨rfl,rfl⟩
   exact⟨rfl,hW.1,hW.2.1,hW.2.2⟩
  |1,_,hW=>
   show Calls _ _ #[PT (some ⟨q,0,none⟩),PT (some ⟨k1,0,none⟩)] _ _
   refine(S1 W q k1 A1 c1 hW.2.1 hxW hnW).mono ?_
   rintro e w' ⟨rfl,hp,hf⟩
   exact⟨rfl,hW.1.trans (hf.mono (by decide) (fun b hb=>hb)),hp,hf.own hW.2.2 (by decide)⟩
  |2,_,hW=>
   show Calls _ _ #[PT (some ⟨q,0,none⟩),PT (some ⟨k1,0,none⟩)] _ _
   refine(S2 W q k1 A1 c1 (q + 1) hW.2.1 hxW hnW hW.2.2).mono ?_
   rintro e w' ⟨rfl,hp,hf⟩
   exact⟨rfl,hW.1.trans hf,hp⟩
 ·rintro e w3 ⟨rfl,hfw,hD3⟩
  have HE:=jH (aI hD3 (hf02.trans hfw))
  clear hD3 hfw hx2 hn2 hg2 hbl2 hD2 hf02 bH hbl12
  go_wp2_with fail
  go_ret
  exact⟨rfl,HE.out.1,HE.out.2⟩
def KS:List TypeId:=[102,111]
theorem vh (aa lg d mn ms size V nx x bl f:Nat)(segs:List Nat)(D:aF)(p:bM)(w:World)(hl:ab w bl 171 #[PT (some ⟨lg,0,none⟩)])
  (hD:ar w aa d mn ms D)(hL:bQ w aa lg d size V nx segs false)(hs:segs.length≤64)(hx:segs.getLast? =some x)(h1:1≤x)(h2:x < 1000000)(bo:D.fail=0)(aP:D.ops≤900000000000)(hm:av D.now (aN x)=some f)(hp:av D.fs f=some p):
  Calls Pg 415 #[PT (some ⟨bl,0,none⟩)] w fun e w'=>e=rT (X Y 0)∧ar w' aa d mn ms (br D f p)∧Fr KS [] aa w w':=by
 obtain⟨hl0,A1,c1,hk,hko⟩:=id hL
 have c0:w.drew.cell? ⟨bl,0,none⟩=some (PT (some ⟨lg,0,none⟩))∧w.drew.cell? ⟨lg,0,none⟩=some (PT (some ⟨d,0,none⟩)):=⟨by have:=hl.cell 0;simpa using this,by have:=hk.cell 0;simpa using this⟩
 have hB:bl < w.heap.size∧lg < w.heap.size:=⟨hl.lt,hk.lt⟩
 have hLd:=hL.made (bR w.heap.size w).drew
 have C1:=jH (jd aa lg d size V nx segs false x w.drew hLd hs hx h1 h2)
 have HAP:=jH (fun W (hW:ar W aa d mn ms D)=>jt aa d mn ms D (aN x) W hW aP (fe (fK x)))
 rw[ju bo hm hp] at HAP
 dsimp only at HAP
 have H:=jH (aI hD (aI hl hk))
 generalize br D f p=D2 at *
 generalize aN x=nm at *
 clear hl hD hL hLd hk hko hm hp hx
 go_enter func415,ntmps415
 go_wp2_with fail
 go_region_held3 (fun wS=>wS.cell? ⟨bl,0,none⟩=some (PT (some ⟨lg,0,none⟩))∧wS.cell? ⟨lg,0,none⟩=some (PT (some ⟨d,0,none⟩))) (first|with_reducible exact c0|with_reducible exact e0|with_reducible exact g0|fail)
  (first
   |(go_at_call 194;(with_reducible refine C1.out.mono ?_);rintro e w1 ⟨rfl,ae⟩;have bf:=(bR w.heap.size w).drew.trans ae;have e0:w1.cell? ⟨bl,0,none⟩=some (PT (some ⟨lg,0,none⟩))∧w1.cell? ⟨lg,0,none⟩=some (PT (some ⟨d,0,none⟩)):=⟨(ae.cell hB.1).trans c0.1,(ae.cell hB.2).trans c0.2⟩;have C2:=HAP.out w1 (H.out.1.made bf))
   |(go_at_call 172;(with_reducible refine C2.mono ?_);rintro e w2 ⟨rfl,hD2,hf2⟩;have g0:w2.cell? ⟨bl,0,none⟩=some (PT (some ⟨lg,0,none⟩))∧w2.cell? ⟨lg,0,none⟩=some (PT (some ⟨d,0,none⟩)):=⟨by {have:=(hf2.blk _ _ _ (H.out.2.1.below bf hB.1) (by decide)).cell 0;simpa using this},by {have:=(hf2.blk _ _ _ (H.out.2.2.below bf hB.2) (by decide)).cell 0;simpa using this}⟩))
 all_goals
  have HE:=jH (aI hD2 ((Fr.of_below KS [] bf H.out.1.hi).trans (hf2.mono (by decide) (by simp))))
  clear C2 ae bf hD2 hf2
  go_wp2_with fail
  go_ret
  exact⟨rfl,HE.out.1,HE.out.2⟩
theorem zQ (aa lg d mn ms size V nx x bl f:Nat)(segs:List Nat)(D:aF)(p:bM)(w:World)(hl:ab w bl 171 #[PT (some ⟨lg,0,none⟩)])
  (hD:ar w aa d mn ms D)(hL:bQ w aa lg d size V nx segs false)(hs:segs.length≤64)(hx:segs.getLast? =some x)(h1:1≤x)(h2:x < 1000000)(bo:D.fail=0)(aP:D.ops≤900000000000)(hm:av D.now (aN x)=some f)(hp:av D.fs f=some p):
  Calls Pg 229 #[PT (some ⟨bl,0,none⟩)] w fun e w'=>e=rT (X Y 0)∧ar w' aa d mn ms (br D f p)∧Fr KS [] aa w w':=by
 obtain⟨hl0,A1,c1,hk,hko⟩:=id hL
 have c0:w.drew.cell? ⟨bl,0,none⟩=some (PT (some ⟨lg,0,none⟩))∧w.drew.cell? ⟨lg,0,none⟩=some (PT (some ⟨d,0,none⟩)):=⟨by have:=hl.cell 0;simpa using this,by have:=hk.cell 0;simpa using this⟩
 have hB:bl < w.heap.size∧lg < w.heap.size:=⟨hl.lt,hk.lt⟩
 have hLd:=hL.made (bR w.heap.size w).drew
 have C1:=jH (jd aa lg d size V nx segs false x w.drew hLd hs hx h1 h2)
 have HAP:=jH (fun W (hW:ar W aa d mn ms D)=>jt aa d mn ms D (aN x) W hW aP (fe (fK x)))
 rw[ju bo hm hp] at HAP
 dsimp only at HAP
 have H:=jH (aI hD (aI hl hk))
 generalize br D f p=D2 at *
 generalize aN x=nm at *
 clear hl hD hL hLd hk hko hm hp hx
 go_enter func229,ntmps229
 go_wp2_with fail
 go_region_held3 (fun wS=>wS.cell? ⟨bl,0,none⟩=some (PT (some ⟨lg,0,none⟩))∧wS.cell? ⟨lg,0,none⟩=some (PT (some ⟨d,0,none⟩))) (first|with_reducible exact c0|with_reducible exact e0|with_reducible exact g0|fail)
  (first
   |(go_at_call 194;(with_reducible refine C1.out.mono ?_);rintro e w1 ⟨rfl,ae⟩;have bf:=(bR w.heap.size w).drew.trans ae;have e0:w1.cell? ⟨bl,0,none⟩=some (PT (some ⟨lg,0,none⟩))∧w1.cell? ⟨lg,0,none⟩=some (PT (some ⟨d,0,none⟩)):=⟨(ae.cell hB.1).trans c0.1,(ae.cell hB.2).trans c0.2⟩;have C2:=HAP.out w1 (H.out.1.made bf))
   |(go_at_call 172;(with_reducible refine C2.mono ?_);rintro e w2 ⟨rfl,hD2,hf2⟩;have g0:w2.cell? ⟨bl,0,none⟩=some (PT (some ⟨lg,0,none⟩))∧w2.cell? ⟨lg,0,none⟩=some (PT (some ⟨d,0,none⟩)):=⟨by {have:=(hf2.blk _ _ _ (H.out.2.1.below bf hB.1) (by decide)).cell 0;simpa using this},by {have:=(hf2.blk _ _ _ (H.out.2.2.below bf hB.2) (by decide)).cell 0;simpa using this}⟩))
 all_goals
  have HE:=jH (aI hD2 ((Fr.of_below KS [] bf H.out.1.hi).trans (hf2.mono (by decide) (by simp))))
  clear C2 ae bf hD2 hf2
  go_wp2_with fail
  go_ret
  exact⟨rfl,HE.out.1,HE.out.2⟩
theorem vg (aa lg d mn ms size V nx bl:Nat)(segs:List Nat)(D:aF)(w:World)(hl:ab w bl 171 #[PT (some ⟨lg,0,none⟩)])
  (hD:ar w aa d mn ms D)(hL:bQ w aa lg d size V nx segs false)(aP:D.ops≤900000000000)(bo:D.fail=0)(h1:1≤nx)(h2:nx < 1000000)(aV:D.now.length≤100000)
  (hcl:D.chg.length≤1000000)(hm:av D.now (aN nx)=none)(cy:db D none 0=true):
  Calls Pg 416 #[PT (some ⟨bl,0,none⟩)] w fun e w'=>e=rT (X Y 0)∧(∃f,f∉aU D.fs∧ar w' aa d mn ms (cY D (aN nx) f []))∧Fr KN [mn] aa w w':=by
 obtain⟨hl0,A1,c1,hk,hko⟩:=id hL
 have c0:w.drew.cell? ⟨bl,0,none⟩=some (PT (some ⟨lg,0,none⟩))∧w.drew.cell? ⟨lg,0,none⟩=some (PT (some ⟨d,0,none⟩))∧w.drew.cell? ⟨lg,3,none⟩=some (X Y nx):=⟨by have:=hl.cell 0;simpa using this,by have:=hk.cell 0;simpa using this,by have:=hk.cell 3;simpa using this⟩
 have dc:=(bR w.heap.size w).drew
 have C2:=jH (tY aa d mn ms D nx w.drew (hD.made dc) aP bo h1 h2 aV hcl hm cy)
 have H:=jH (aI hD (aI hl hk))
 clear hl hD hL hk hko hm cy
 go_enter func416,ntmps416
 go_wp2_with fail
 go_region_held3 (fun wS=>wS.cell? ⟨bl,0,none⟩=some (PT (some ⟨lg,0,none⟩))∧wS.cell? ⟨lg,0,none⟩=some (PT (some ⟨d,0,none⟩))∧wS.cell? ⟨lg,3,none⟩=some (X Y nx)) (first|with_reducible exact c0|with_reducible exact g0|fail)
  (first
   |(go_at_call 170;(with_reducible refine C2.out.mono ?_);rintro e w2 ⟨rfl,hD2,hf2⟩;have g0:w2.cell? ⟨bl,0,none⟩=some (PT (some ⟨lg,0,none⟩))∧w2.cell? ⟨lg,0,none⟩=some (PT (some ⟨d,0,none⟩))∧w2.cell? ⟨lg,3,none⟩=some (X Y nx):=⟨by {have:=(hf2.blk _ _ _ (H.out.2.1.below dc H.out.2.1.lt) (by decide)).cell 0;simpa using this},by {have:=(hf2.blk _ _ _ (H.out.2.2.below dc H.out.2.2.lt) (by decide)).cell 0;simpa using this},by {have:=(hf2.blk _ _ _ (H.out.2.2.below dc H.out.2.2.lt) (by decide)).cell 3;simpa using this}⟩))
 all_goals
  have HE:=jH (aI hD2 ((Fr.of_below KN [mn] dc H.out.1.hi).trans hf2))
  clear hD2 hf2
  go_wp2_with fail
  go_ret
  exact⟨rfl,HE.out.1,HE.out.2⟩
theorem vf (aa lg d mn ms size V nx bl bn f:Nat)(name:ByteArray)(segs:List Nat)(D:aF)(p:bM)(w:World)(hl:ab w bl 171 #[PT (some ⟨lg,0,none⟩)])(hn:ab w bn 9 #[.string name])
  (hD:ar w aa d mn ms D)(hL:bQ w aa lg d size V nx segs false)(dv:aY name)(bo:D.fail=0)(aP:D.ops≤900000000000)(hm:av D.now name=some f)(hp:av D.fs f=some p):
  Calls Pg 417 #[PT (some ⟨bl,0,none⟩),PT (some ⟨bn,0,none⟩)] w fun e w'=>e=rT (X Y 0)∧ar w' aa d mn ms (br D f p)∧Fr KS [] aa w w':=by
 obtain⟨hl0,A1,c1,hk,hko⟩:=id hL
 have c0:w.drew.cell? ⟨bl,0,none⟩=some (PT (some ⟨lg,0,none⟩))∧w.drew.cell? ⟨lg,0,none⟩=some (PT (some ⟨d,0,none⟩))∧w.drew.cell? ⟨bn,0,none⟩=some (.string name):=⟨by have:=hl.cell 0;simpa using this,by have:=hk.cell 0;simpa using this,by have:=hn.cell 0;simpa using this⟩
 have dc:=(bR w.heap.size w).drew
 have C2:=jH (jt aa d mn ms D name w.drew (hD.made dc) aP dv)
 rw[ju bo hm hp] at C2
 dsimp only at C2
 have H:=jH (aI hD (aI hl (aI hk hn)))
 generalize br D f p=D2 at *
 clear hl hD hL hk hko hn hm hp
 go_enter func417,ntmps417
 go_wp2_with fail
 go_region_held3 (fun wS=>wS.cell? ⟨bl,0,none⟩=some (PT (some ⟨lg,0,none⟩))∧wS.cell? ⟨lg,0,none⟩=some (PT (some ⟨d,0,none⟩))∧wS.cell? ⟨bn,0,none⟩=some (.string name)) (first|with_reducible exact c0|with_reducible exact g0|fail)
  (first
   |(go_at_call 172;(with_reducible refine C2.out.mono ?_);rintro e w2 ⟨rfl,hD2,hf2⟩;have g0:w2.cell? ⟨bl,0,none⟩=some (PT (some ⟨lg,0,none⟩))∧w2.cell? ⟨lg,0,none⟩=some (PT (some ⟨d,0,none⟩))∧w2.cell? ⟨bn,0,none⟩=some (.string name):=⟨by {have:=(hf2.blk _ _ _ (H.out.2.1.below dc H.out.2.1.lt) (by decide)).cell 0;simpa using this},by {have:=(hf2.blk _ _ _ (H.out.2.2.1.below dc H.out.2.2.1.lt) (by decide)).cell 0;simpa using this},by {have:=(hf2.blk _ _ _ (H.out.2.2.2.below dc H.out.2.2.2.lt) (by decide)).cell 0;simpa using this}⟩))
 all_goals
  have HE:=jH (aI hD2 ((Fr.of_below KS [] dc H.out.1.hi).trans (hf2.mono (by decide) (by simp))))
  clear hD2 hf2
  go_wp2_with fail
  go_ret
  exact⟨rfl,HE.out.1,HE.out.2⟩
end
end Go.Proofs.YtgjnoccflmjheaaGreatDoor
