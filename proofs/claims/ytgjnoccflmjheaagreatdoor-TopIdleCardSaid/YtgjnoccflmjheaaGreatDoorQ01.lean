import Derived.Lib.MinMax
import Derived.Laws.CopyOwn
import Derived.Great.Walk
import Derived.DeepKeys4
import Derived.Shelf.SlLaysF0
import Derived.Test.YtgjnoccflmjheaaGreatDoorQ00
namespace Go.Proofs.YtgjnoccflmjheaaGreatDoor
set_option linter.unusedVariables false
set_option linter.unusedSimpArgs false
set_option maxHeartbeats 8000000
set_option maxRecDepth 100000
open Value renaming int→X,slice→G,pointer→PT,bool→bL,agg→aG,tuple→tU
open Obj renaming cells→cL
open Ending renaming returned→rT
open Go.Proofs.Tryz
open Go.Proofs.Tryz renaming prog→Pg
open RowKit.Below renaming refl→bR
open IntKind renaming i64→Y,u32→Z
open List renaming getElem?_toArray→ga,getElem?_cons_zero→gz,getElem?_cons_succ→gN
open Lib renaming hid→jH
open Nat renaming le_refl→nR,le_trans→nT,le_succ→nS
open And renaming intro→aI
section
open Go.RowKit
theorem DiskAt.row {w:World}{base d mn ms:Nat}{D:PDisk}(h:DiskAt w base d mn ms D){f:Nat}{p:PFile}(hp:mget D.fs f=some p):
  ∃A0 c0,Blk w f 111 #[G A0 p.b.length c0,X Y p.sure]∧w.ownsRow base 5 1 (G A0 p.b.length c0) p.b.length (bv p.b)∧base≤f∧p.b.length≤1048576∧
   ∀(l:List Nat) (k:Nat) (A3:Option Addr) (c3:Nat) (w4:World),AllB l→p.b.length + l.length=k→k≤1048576→w4.ownsRow base 5 1 (G A3 k c3) k (bv (p.b++l))→w.grownBy w4 (Value.slice A0 p.b.length c0).ownBlock→((Value.slice A3 k c3).ownBlock=(Value.slice A0 p.b.length c0).ownBlock∨(Value.slice A3 k c3).ownBlock=some w.heap.size)→
    DiskAt (w4.setCell ⟨f,0,none⟩ (G A3 k c3)) base d mn ms {D with fs:=mput D.fs f ⟨p.b++l,p.sure⟩}∧Fr [111,5] [] base w (w4.setCell ⟨f,0,none⟩ (G A3 k c3)):=by
 obtain⟨R,hR,hd⟩:=h.files
 obtain⟨a1,a2,a3,a4,a5,a6⟩:=hR f p hp
 obtain⟨A0,c0,eR⟩:=own_slice a3
 rw[eR] at a2 a3
 refine⟨A0,c0,a2,a3,a1,a5,fun l k A3 c3 w4 hl hk hk2 hown4 hg4 hblk4=>?_⟩
 subst hk
 have hb4:=a2.grown hg4 (fun e=>own_blk_ne a3 a2 (by decide) e.symm)
 have hk4:=hb4.set_ 0 (G A3 (p.b.length + l.length) c3)
 have fr0:Fr [111,5] [] base w w4:=(Fr.refl [111,5] [] base w).grown a3 hg4 (by decide) (nR _) h.hi
 have fr4:=fr0.set_ hb4 (by decide) a1 0 (G A3 (p.b.length + l.length) c3)
 refine⟨DiskAt.refile f _ h fr4 ?_,fr4⟩
 refine files_put f (G A3 (p.b.length + l.length) c3) _ ?_ hd a1 hk4 (by have:=own_set_far hown4 hb4 (by decide) 0 (G A3 (p.b.length + l.length) c3);rw[show (p.b++l).length=p.b.length + l.length by simp];exact this) (by simp;omega) (by simp;omega) (fun x hx=>(List.mem_append.1 hx).elim (a6 x) (hl x)) ?_
 ·intro g q hq hne
  obtain⟨b1,b2,b3,b4,b5,b6⟩:=hR g q hq
  have hdis:=hd g f q p hq hp hne
  have hob:(R g).ownBlock=none∨(R g).ownBlock≠(Value.slice A0 p.b.length c0).ownBlock:=by rw[←eR];exact hdis
  refine⟨b1,?_,?_,b4,b5,b6⟩
  ·exact(b2.grown hg4 (fun e=>own_blk_ne a3 b2 (by decide) e.symm)).far hne _
  ·exact own_set_far (own_grown_far b3 hg4 hob) hb4 (by decide) 0 _
 ·intro g q hq hne
  have hdis:=hd g f q p hq hp hne
  rw[eR] at hdis
  rcases hdis with e|e
  ·exact .inl e
  ·cases hv:(R g).ownBlock with
   |none=>exact .inl rfl
   |some x=>
    right
    rcases hblk4 with e4|e4
    ·rw[e4,←hv];exact e
    ·rw[e4]
     obtain⟨b1,b2,b3,b4,b5,b6⟩:=hR g q hq
     have:=(b3.lt x hv).2
     simp;omega
theorem fresh_key {w:World}{base d mn ms:Nat}{D:PDisk}(h:DiskAt w base d mn ms D){q:Nat}(hq:w.heap.size≤q):q∉mkeys D.fs:=fun hm=>by
 obtain⟨p,hp⟩:=mget_keys hm
 obtain⟨R,hR,hd⟩:=h.files
 have:=(hR q p hp).2.1.lt
 omega
theorem DiskAt.fresh {w:World}{base d mn ms:Nat}{D:PDisk}(h:DiskAt w base d mn ms D):
  DiskAt (w.alloc (cL #[G none 0 0,X Y 0] 111)) base d mn ms {D with fs:=mput D.fs w.heap.size ⟨[],0⟩}:=by
 have hb:=(bR w.heap.size w).alloc (nR _) (cL #[G none 0 0,X Y 0] 111)
 have hw:=h.made hb
 have hfr:Fr [111,5] [] base w (w.alloc (cL #[G none 0 0,X Y 0] 111)):=Fr.of_below _ _ hb h.hi
 refine DiskAt.refile w.heap.size ⟨[],0⟩ h hfr ?_
 obtain⟨R,hR,hd⟩:=hw.files
 exact files_put w.heap.size (G none 0 0) ⟨[],0⟩ (fun g p hp _=>hR g p hp) hd h.hi (Blk.new w _ _) ⟨rfl,.inl ⟨rfl,rfl⟩⟩ (by simp) (by simp) (by simp[AllB]) (fun g q hq hne=>by
  cases hv:(R g).ownBlock with
  |none=>exact .inl rfl
  |some x=>right;simp[Value.ownBlock])
theorem okS_empty:okS ByteArray.empty:=by unfold okS;decide
theorem mput_mput {κ ν:Type}[DecidableEq κ](m:List (κ×ν))(x:κ)(u v:ν):mput (mput m x u) x v=mput m x v:=by
 have hin:(mput m x u).any (fun p=>p.1=x)=true:=by
  have:x∈mkeys (mput m x u):=mkeys_mput_mem.2 (.inr rfl)
  obtain⟨p,hp,e⟩:=List.mem_map.1 this
  exact List.any_eq_true.2 ⟨p,hp,by simpa using e⟩
 have e1:mput (mput m x u) x v=(mput m x u).map (fun p=>if p.1=x then (x,v) else p):=by
  show (if _ then _ else _)=_
  rw[if_pos hin]
 rw[e1]
 unfold mput
 split
 ·rw[List.map_map]
  apply List.map_congr_left
  intro p _
  simp only[Function.comp]
  by_cases hp:p.1=x<;>simp[hp]
 ·rename_i hn
  rw[List.map_append]
  have:m.map (fun p=>if p.1=x then (x,v) else p)=m:=by
   conv=>rhs;rw[←List.map_id m]
   apply List.map_congr_left
   intro p hp
   rw[if_neg (fun e=>hn (List.any_eq_true.2 ⟨p,hp,by simpa using e⟩))]
   rfl
  rw[this]
  simp
theorem append_new (base base2 d mn ms:Nat)(D:PDisk)(name:ByteArray)(A:Option Addr)(n c:Nat)(l:List Nat)(w:World)(h:DiskAt w base d mn ms D)(hops:D.ops≤900000000000)(hfail:D.fail=0)(hname:namedP name=true)(hnow:D.now.length≤100000)
  (hcl:D.chg.length≤1000000)(hm:mget D.now name=none)(hsrc:w.ownsRow base2 5 1 (G A n c) n (bv l))(hlb:AllB l)(hroom:roomP D none n=true):
  Calls Pg 276 #[PT (some ⟨d,0,none⟩),.string name,G A n c] w fun e w'=>e=rT (X Y 0)∧(∃f,f∉mkeys D.fs∧DiskAt w' base d mn ms {changeP D.op ⟨1,name,ByteArray.empty,some f⟩ with fs:=mput D.fs f ⟨l,0⟩})∧Fr [102,104,111,5] [mn] base w w':=by
 have CB:=jH (begin_any base d mn ms D w h hops)
 rw[beginP_ok hfail] at CB
 dsimp only at CB
 have CN:=jH (fun w=>named_any name w)
 rw[hname] at CN
 have hok:okS name:=by have:=of_decide_eq_true hname;unfold okS;omega
 have hroom2:sizeP D≤D.quota∧n + sizeP D≤D.quota∧n + 0≤1048576:=by unfold roomP at hroom;simp only[Bool.and_eq_true,decide_eq_true_eq] at hroom;exact hroom.1
 have hqb:=h.quotaB
 have CR:=jH (fun W (hW:DiskAt W base d mn ms D.op)=>room_none base d mn ms D.op W hW hnow n (by omega))
 rw[show roomP D.op none n=true from hroom] at CR
 have HS:=jH hsrc
 have HP:=jH (aI hm (aI hlb (aI hroom2 hcl)))
 have hN:=jH (aI hok h)
 clear h hsrc hm hlb hroom hroom2 hnow hname hok hcl
 go_enter func276,ntmps276
 go_wp2_with fail
 refine CB.out.mono ?_
 rintro e w1 ⟨rfl,hD1,hf1⟩
 go_wp2_with fail
 refine(CN.out _).mono ?_
 rintro e w2 ⟨rfl,rfl⟩
 obtain⟨cv,hb,hc⟩:=hD1.blk
 obtain⟨-,c1⟩:=hb.c2
 have hlk:=hD1.now.lookup (P:=Pg) encS (t:=97) underlying97 (z:=PT none) (by kernel_rfl) name hN.out.1 false
 rw[show mget D.op.now name=none from HP.out.1] at hlk
 simp only[Bool.false_eq_true,if_false,encP] at hlk
 have H1:=jH (aI hD1 hf1)
 clear hb hc hD1 hf1
 go_wp2_with fail
 refine(CR.out _ H1.out.1).mono ?_
 rintro e w3 ⟨rfl,hbl⟩
 clear hlk
 have hD3:=H1.out.1.made hbl
 have hf3:=H1.out.2.made hbl H1.out.1.hi
 have hs3:=hf3.own HS.out (by decide)
 have HD:=jH (aI hD3 (aI hf3 hs3))
 clear hD3 hf3 hs3 c1
 obtain⟨q,hq⟩:∃q,q=w3.heap.size:=⟨_,rfl⟩
 have hDq:=HD.out.1.fresh
 have hkey:=fresh_key HD.out.1 (nR _)
 have hfq:=HD.out.2.1.made ((bR w3.heap.size w3).alloc (nR _) (cL #[G none 0 0,X Y 0] 111)) HD.out.1.hi
 rw[←hq] at hDq hkey
 have CC:=jH (change_any base d mn ms {D.op with fs:=mput D.fs q ⟨[],0⟩} ⟨1,name,ByteArray.empty,some q⟩ _ hDq
  ⟨.inl rfl,hN.out.1,okS_empty,fun _=>⟨q,rfl⟩,fun h=>by cases h⟩ (fun f hf=>by injection hf with hf;subst hf;exact mkeys_mput_mem.2 (.inr rfl)) HP.out.2.2.2)
 have HQ:=jH (aI hkey hfq)
 clear hDq hkey hfq
 go_wp2_with fail
 rw[←hq]
 refine CC.out.mono ?_
 rintro e w4 ⟨rfl,hD4,hf4⟩
 have hs4:=(HD.out.2.2.alloc (cL #[G none 0 0,X Y 0] 111))
 have hs5:=hf4.own hs4 (by decide)
 clear hs4
 obtain⟨A0,c0,a2,a3,a1,a5,hgrow⟩:=hD4.row (f:=q) (p:=⟨[],0⟩) (mget_mput_same _ _ _)
 have g0:=a2.c1
 have fz:=a2.frozen 0
 have HO:=jH (aI a2 a3)
 have hflt:=a2.lt
 have hbs:=hD4.hi
 have HD4:=jH (aI hD4 (aI hf4 hgrow))
 have HS5:=jH hs5
 clear hD4 hf4 hgrow a1 a2 a3 a5 hs5 hq CC
 go_wp2_with (at_builtin;refine stop_ ?_)
 refine on_ ?_
 refine wpList_append_b rfl (.tmp 42) (.tmp 43) _ rfl 5 infoB underlying23 base (G A0 0 c0) 0 [] rfl HO.out.2 w4.heap.size A n c l rfl (Reads.of_own HS5.out) n (by omega) (by have:=HP.out.2.2.1.2.2;omega) hbs ?_
 intro A3 c3 w5 hown5 hbl5 hg5 hblk5
 have hb5:=HO.out.1.grown hg5 (fun e=>own_blk_ne HO.out.2 HO.out.1 (by decide) e.symm)
 have hflt5:=hb5.lt
 have fz5:=hb5.frozen 0
 have g5:=hb5.c1
 clear g0 fz hflt
 go_wp2_with fail
 go_ret
 have hl:l.length=n:=by have:=HS.out.1;simp[bv] at this;omega
 obtain⟨r1,r2⟩:=HD4.out.2.2 l n A3 c3 w5 HP.out.2.1 (by simpa using hl) (by have:=HP.out.2.2.1.2.2;omega) hown5 hg5 hblk5
 have e0:mput (mput D.fs q ⟨[],0⟩) q ⟨l,0⟩=mput D.fs q ⟨l,0⟩:=mput_mput _ _ _ _
 have r1':DiskAt (w5.setCell ⟨q,0,none⟩ (G A3 n c3)) base d mn ms {changeP D.op ⟨1,name,ByteArray.empty,some q⟩ with fs:=mput (mput D.fs q ⟨[],0⟩) q ⟨l,0⟩}:=r1
 rw[e0] at r1'
 exact⟨rfl,⟨q,HQ.out.1,r1'⟩,((HQ.out.2.mono (by decide) (by simp)).trans (HD4.out.2.1.mono (by decide) (by simp))).trans (r2.mono (by decide) (by simp))⟩
theorem rename_ok (base d mn ms:Nat)(D:PDisk)(frm tn:ByteArray)(w:World)(h:DiskAt w base d mn ms D)(hops:D.ops≤900000000000)(hfail:D.fail=0)(hfrm:okS frm)(hto:namedP tn=true)(hne:(frm.toList==tn.toList)=false)
  (hcl:D.chg.length≤1000000)(f:Nat)(hm:mget D.now frm=some f):
  Calls Pg 283 #[PT (some ⟨d,0,none⟩),.string frm,.string tn] w fun e w'=>e=rT (X Y 0)∧DiskAt w' base d mn ms (changeP D.op ⟨2,frm,tn,none⟩)∧Fr [102,104] [mn] base w w':=by
 have CF:=jH (find_any base d mn ms D frm w h hops hfrm)
 rw[findP_ok hfail hm] at CF
 dsimp only[ptrV,Option.map_some] at CF
 have CN:=jH (fun w=>named_any tn w)
 rw[hto] at CN
 have hok:okS tn:=by have:=of_decide_eq_true hto;unfold okS;omega
 have CC:=jH (fun W (hW:DiskAt W base d mn ms D.op)=>change_any base d mn ms D.op ⟨2,frm,tn,none⟩ W hW ⟨.inr (.inl rfl),hfrm,hok,fun h=>(by cases h),fun _=>⟨f,hm⟩⟩ (fun f hf=>(by cases hf)) hcl)
 clear h hm hok hto hfrm hcl
 go_enter func283,ntmps283
 go_wp2_with fail
 refine CF.out.mono ?_
 rintro e w1 ⟨rfl,hD1,hf1⟩
 have H1:=jH (aI hD1 hf1)
 clear hD1 hf1
 go_wp2_with fail
 refine(CN.out _).mono ?_
 rintro e w2 ⟨rfl,rfl⟩
 go_wp2_with fail
 refine(CC.out _ H1.out.1).mono ?_
 rintro e w2 ⟨rfl,hD2,hf2⟩
 have H2:=jH (aI hD2 hf2)
 clear hD2 hf2
 go_wp2_with fail
 go_ret
 exact⟨rfl,H2.out.1,(H1.out.2.mono (by decide) (by simp)).trans H2.out.2⟩
def syncdirP (D:PDisk):PDisk:={D.op with sure:=D.now,chg:=[]}
theorem syncdir_ok (base d mn ms:Nat)(D:PDisk)(w:World)(h:DiskAt w base d mn ms D)(hops:D.ops≤900000000000)(hfail:D.fail=0):
  Calls Pg 197 #[PT (some ⟨d,0,none⟩)] w fun e w'=>e=rT (X Y 0)∧(∃ms',w.heap.size≤ms'∧DiskAt w' base d mn ms' (syncdirP D))∧Fr [102] [] base w w':=by
 have CB:=jH (begin_any base d mn ms D w h hops)
 rw[beginP_ok hfail] at CB
 dsimp only at CB
 have H0:=jH h
 clear h
 go_enter func197,ntmps197
 go_wp2_with fail
 refine CB.out.mono ?_
 rintro e w1 ⟨rfl,hD1,hf1⟩
 obtain⟨cv,hb,hc⟩:=hD1.blk
 obtain⟨-,c1⟩:=hb.c2
 have CC:=jH (clones_any w1 hD1.now)
 have H1:=jH (aI hD1 (aI hf1 (aI hb hc)))
 clear hb hc hD1 hf1
 go_wp2_with fail
 refine CC.out.mono ?_
 rintro e w2 ⟨rfl,hm2,hbl2,hs2⟩
 have hb2:=H1.out.2.2.1.below hbl2 H1.out.2.2.1.lt
 obtain⟨-,-,g2,g3⟩:=hb2.c4
 obtain⟨-,-,fz2,fz3⟩:=hb2.f4
 have hblt:=hb2.lt
 have H2:=jH (aI hm2 (aI hbl2 hs2))
 clear hm2 hbl2 hs2 c1
 go_wp2_with fail
 go_ret
 obtain⟨hD1,hf1,hb,hc⟩:=H1.out
 obtain⟨hm2,hbl2,hs2⟩:=H2.out
 have hD2:=hD1.made hbl2
 have hk:=(hb2.set_ 2 (.map (some w1.heap.size))).set_ 3 (G none 0 0)
 have fr2:Fr [102] [] base w2 ((w2.setCell ⟨d,2,none⟩ (.map (some w1.heap.size))).setCell ⟨d,3,none⟩ (G none 0 0)):=((Fr.refl _ _ _ _).set_ hb2 (by decide) hD1.lod 2 _).set_ (hb2.set_ 2 (.map (some w1.heap.size))) (by decide) hD1.lod 3 _
 have hw:w.heap.size≤w1.heap.size:=hf1.size
 refine⟨rfl,⟨w1.heap.size,hw,?_⟩,(hf1.made hbl2 hD1.hi).trans fr2⟩
 exact{lod:=hD1.lod,lon:=hD1.lon,los:=hD1.hi,hi:=nT hD2.hi fr2.size,ne:=fun e=>by have:=hD1.now.lt;omega,blk:=⟨G none 0 0,hk,rfl,.inl ⟨rfl,rfl⟩⟩,now:=fr2.mapIs hD2.now (by simp),sure:=fr2.mapIs hm2 (by simp),files:=hD2.files.fr fr2 (by decide) (by decide),ids:=hD1.ids,nowIn:=hD1.nowIn,sureIn:=hD1.nowIn,chgIn:=fun c hc'=>absurd hc' (by simp[syncdirP]),quotaB:=hD1.quotaB,opsB:=hD1.opsB,failB:=hD1.failB}
theorem newdisk_ok (n:Nat)(w:World)(hn:n≤1000000):
  Calls Pg 30 #[X Y n] w fun e w'=>∃d mn ms,e=rT (PT (some ⟨d,0,none⟩))∧DiskAt w' w.heap.size d mn ms ⟨n,0,0,[],[],[],[]⟩∧Below w.heap.size w w':=by
 have hmk:∀W:World,(Instr.makeMap 97 none).run Pg W=.ok (.map (some W.heap.size)) (W.alloc (.map #[] 0)):=fun _=>rfl
 have d1:min (n:Int) 67108864=(n:Int):=by omega
 have d2:max 0 (n:Int)=(n:Int):=by omega
 go_enter func30,ntmps30
 go_wp2_with fail
 go_ret
 have m1:MapIs (w.alloc (.map #[] 0)) Value.string okS encP w.heap.size []:=MapIs.made w
 have m2:MapIs ((w.alloc (.map #[] 0)).alloc (.map #[] 0)) Value.string okS encP (w.heap.size + 1) []:=by have:=MapIs.made (ek:=Value.string) (ok:=okS) (ev:=encP) (w.alloc (.map #[] 0));simpa using this
 have hb:=(((bR w.heap.size w).alloc (nR _) (.map #[] 0)).alloc (by simp) (.map #[] 0)).alloc (by simp;omega) (cL #[X Y n,.map (some w.heap.size),.map (some (w.heap.size + 1)),G none 0 0,X Y 0,X Y 0] 102)
 refine⟨w.heap.size + 2,w.heap.size,w.heap.size + 1,rfl,?_,hb⟩
 exact{lod:=by omega,lon:=by omega,los:=by omega,hi:=by simp;omega,ne:=by omega,blk:=⟨G none 0 0,Blk.new_ (by simp),rfl,.inl ⟨rfl,rfl⟩⟩,now:=(m1.alloc _).alloc _,sure:=m2.alloc _,files:=⟨fun _=>G none 0 0,fun f p hp=>by simp[mget] at hp,fun f g p q hp=>by simp[mget] at hp⟩,ids:=by simp[mkeys],nowIn:=fun p hp=>(by cases hp),sureIn:=fun p hp=>(by cases hp),chgIn:=fun c hc=>(by cases hc),quotaB:=by dsimp only;omega,opsB:=by simp,failB:=by simp}
def KD:List TypeId:=[102,104,111,5]
def newP (D:PDisk)(name:ByteArray)(f:Nat)(l:List Nat):PDisk:={changeP D.op ⟨1,name,ByteArray.empty,some f⟩ with fs:=mput D.fs f ⟨l,0⟩}
theorem there_any (base d mn ms:Nat)(D:PDisk)(name:ByteArray)(w:World)(h:DiskAt w base d mn ms D)(hname:okS name):
  Calls Pg 167 #[PT (some ⟨d,0,none⟩),.string name] w fun e w'=>e=rT (bL (mget D.now name).isSome)∧Below w.heap.size w w':=by
 have CR:=jH (read_disk base d mn ms D name w h hname)
 have HR:Hid (readP D name=none↔(mget D.now name).isSome=false):=by show _↔_;unfold readP;simp
 generalize readP D name=r at *
 generalize (mget D.now name).isSome=s at *
 clear h
 go_enter func167,ntmps167
 go_wp2_with fail
 refine CR.out.mono ?_
 rintro e w1 ⟨hret,hb⟩
 cases r with
 |none=>
  obtain rfl:=hret
  obtain rfl:=HR.out.1 rfl
  go_wp2_with fail
  go_ret
  exact⟨rfl,hb⟩
 |some l=>
  obtain⟨A,c,rfl,-,-⟩:=hret
  have hs:s=true:=by
   cases s with
   |true=>rfl
   |false=>exact absurd (HR.out.2 rfl) (by simp)
  subst hs
  go_wp2_with fail
  go_ret
  exact⟨rfl,hb⟩
theorem clear_none (base d mn ms:Nat)(D:PDisk)(name:ByteArray)(w:World)(h:DiskAt w base d mn ms D)(hname:okS name)(hm:mget D.now name=none):
  Calls Pg 274 #[PT (some ⟨d,0,none⟩),.string name] w fun e w'=>e=rT (X Y 0)∧Below w.heap.size w w':=by
 have CT:=jH (there_any base d mn ms D name w h hname)
 rw[hm] at CT
 dsimp only[Option.isSome_none] at CT
 clear h hm
 go_enter func274,ntmps274
 go_wp2_with fail
 refine CT.out.mono ?_
 rintro e w1 ⟨rfl,hb⟩
 go_wp2_with fail
 go_ret
 exact⟨rfl,hb⟩
theorem begin1_ok (base d mn ms:Nat)(D:PDisk)(name:ByteArray)(bx bn:Nat)(w:World)(hx:Blk w bx 63 #[PT (some ⟨d,0,none⟩)])(hy:Blk w bn 9 #[.string name])(h:DiskAt w base d mn ms D)(hname:okS name)(hm:mget D.now name=none):
  Calls Pg 273 #[PT (some ⟨bx,0,none⟩),PT (some ⟨bn,0,none⟩)] w fun e w'=>e=rT (X Y 0)∧Below w.heap.size w w':=by
 have CC:=jH (clear_none base d mn ms D name w h hname hm)
 have c0:=hx.c1
 have c1:=hy.c1
 clear h hm hx hy
 go_enter func273,ntmps273
 go_wp2_with fail
 refine CC.out.mono ?_
 rintro e w1 ⟨rfl,hb⟩
 go_wp2_with fail
 go_ret
 exact⟨rfl,hb⟩
theorem begin2_ok (base d mn ms:Nat)(D:PDisk)(name:ByteArray)(bx bn:Nat)(w:World)(hx:Blk w bx 63 #[PT (some ⟨d,0,none⟩)])(hy:Blk w bn 9 #[.string name])(h:DiskAt w base d mn ms D)(hops:D.ops≤900000000000)(hfail:D.fail=0)(hname:namedP name=true)(hnow:D.now.length≤100000)
  (hcl:D.chg.length≤1000000)(hm:mget D.now name=none)(hroom:roomP D none 0=true):
  Calls Pg 275 #[PT (some ⟨bx,0,none⟩),PT (some ⟨bn,0,none⟩)] w fun e w'=>e=rT (X Y 0)∧(∃f,f∉mkeys D.fs∧DiskAt w' base d mn ms (newP D name f []))∧Fr [102,104,111,5] [mn] base w w':=by
 have CC:=jH (append_new base base d mn ms D name none 0 0 [] w h hops hfail hname hnow hcl hm ⟨rfl,.inl ⟨rfl,rfl⟩⟩ (by intro x hx;cases hx) hroom)
 have c0:=hx.c1
 have c1:=hy.c1
 clear h hm hx hy
 go_enter func275,ntmps275
 go_wp2_with fail
 refine CC.out.mono ?_
 rintro e w1 ⟨rfl,hD,hf⟩
 have H:=jH (aI hD hf)
 clear hD hf
 go_wp2_with fail
 go_ret
 exact⟨rfl,H.out.1,H.out.2⟩
theorem nameS_ok (n:Nat):namedP (nameS n)=true:=by
 have h:(nameS n).size=7:=by simp[nameS,strB,nameK,ByteArray.size]
 unfold namedP
 rw[h];rfl
theorem okS_of_named {s:ByteArray}(h:namedP s=true):okS s:=by have:=of_decide_eq_true h;unfold okS;omega
theorem begin_ok (base d mn ms:Nat)(D:PDisk)(seg:Nat)(w:World)(h:DiskAt w base d mn ms D)(hops:D.ops≤900000000000)(hfail:D.fail=0)(h1:1≤seg)(h2:seg < 1000000)(hnow:D.now.length≤100000)
  (hcl:D.chg.length≤1000000)(hm:mget D.now (nameS seg)=none)(hroom:roomP D none 0=true):
  Calls Pg 170 #[PT (some ⟨d,0,none⟩),X Y seg] w fun e w'=>e=rT (X Y 0)∧(∃f,f∉mkeys D.fs∧DiskAt w' base d mn ms (newP D (nameS seg) f []))∧Fr KD [mn] base w w':=by
 have CN:=jH (fun W=>name_any seg h1 h2 W)
 have H:=jH h
 obtain⟨q,hq⟩:∃q,q=w.heap.size:=⟨_,rfl⟩
 have HQ:=jH hq
 have hb0:=(bR w.heap.size w).alloc (nR _) (cL #[PT (some ⟨d,0,none⟩)] 63)
 have hx0:=Blk.new w 63 #[PT (some ⟨d,0,none⟩)]
 have hs0:(w.alloc (cL #[PT (some ⟨d,0,none⟩)] 63)).heap.size=q + 1:=by rw[hq];simp
 rw[←hq] at hb0 hx0
 clear h
 go_enter func170,ntmps170
 go_wp2_with fail
 rw[←hq]
 clear hq
 generalize w.alloc (cL #[PT (some ⟨d,0,none⟩)] 63)=w0 at *
 refine(CN.out _).mono ?_
 rintro e w1 ⟨rfl,hb1⟩
 have hx1:=hx0.below hb1 (by omega)
 have hs1:=hb1.size
 have hb01:=hb0.trans (hb1.mono (by omega))
 have HX:=jH (aI hx1 hb01)
 clear hx1 hb01 hb0 hx0
 go_wp2_with fail
 have hx2:=((HX.out.1.alloc (cL #[.string (nameS seg)] 9)).alloc (cL #[.func (.func 273) #[] #[PT (some ⟨q,0,none⟩),PT (some ⟨w1.heap.size,0,none⟩)],.func (.func 275) #[] #[PT (some ⟨q,0,none⟩),PT (some ⟨w1.heap.size,0,none⟩)]] 71))
 have hn2:=(Blk.new w1 9 #[.string (nameS seg)]).alloc (cL #[.func (.func 273) #[] #[PT (some ⟨q,0,none⟩),PT (some ⟨w1.heap.size,0,none⟩)],.func (.func 275) #[] #[PT (some ⟨q,0,none⟩),PT (some ⟨w1.heap.size,0,none⟩)]] 71)
 have hg2:=Blk.new (w1.alloc (cL #[.string (nameS seg)] 9)) 71 #[.func (.func 273) #[] #[PT (some ⟨q,0,none⟩),PT (some ⟨w1.heap.size,0,none⟩)],.func (.func 275) #[] #[PT (some ⟨q,0,none⟩),PT (some ⟨w1.heap.size,0,none⟩)]]
 have hbl2:=HX.out.2.trans ((((bR w1.heap.size w1).alloc (nR _) (cL #[.string (nameS seg)] 9)).alloc (by simp) (cL #[.func (.func 273) #[] #[PT (some ⟨q,0,none⟩),PT (some ⟨w1.heap.size,0,none⟩)],.func (.func 275) #[] #[PT (some ⟨q,0,none⟩),PT (some ⟨w1.heap.size,0,none⟩)]] 71)).mono (by omega))
 rw[show (w1.alloc (cL #[.string (nameS seg)] 9)).heap.size=w1.heap.size + 1 by simp] at hg2
 generalize (w1.alloc (cL #[.string (nameS seg)] 9)).alloc (cL #[.func (.func 273) #[] #[PT (some ⟨q,0,none⟩),PT (some ⟨w1.heap.size,0,none⟩)],.func (.func 275) #[] #[PT (some ⟨q,0,none⟩),PT (some ⟨w1.heap.size,0,none⟩)]] 71)=w2 at *
 generalize w1.heap.size=k1 at *
 have hD2:DiskAt w2 base d mn ms D:=H.out.made (HQ.out▸hbl2)
 have hf02:Fr KD [mn] base w w2:=Fr.of_below _ _ (HQ.out▸hbl2) H.out.hi
 refine(all_ok [(273,#[PT (some ⟨q,0,none⟩),PT (some ⟨k1,0,none⟩)]),(275,#[PT (some ⟨q,0,none⟩),PT (some ⟨k1,0,none⟩)])] (some ⟨k1 + 1,0,none⟩) 2 2 (k1 + 2)
  (fun i W=>Fr KD [mn] base w2 W∧match i with|0=>DiskAt W base d mn ms D|1=>DiskAt W base d mn ms D|_=>∃f,f∉mkeys D.fs∧DiskAt W base d mn ms (newP D (nameS seg) f [])) w2 rfl (by omega)
  (fun p hp=>by
   rcases List.mem_cons.1 hp with rfl|hp
   ·exact enters_of func273 (by kernel_rfl) rfl
   ·rcases List.mem_cons.1 hp with rfl|hp
    ·exact enters_of func275 (by kernel_rfl) rfl
    ·cases hp)
  (fun i W hW=>reads_row (hW.1.blk _ _ _ hg2 (by decide)) rfl) ⟨Fr.refl _ _ _ _,hD2⟩ ?_).mono ?_
 ·intro i hi W hW
  have hxW:=hW.1.blk _ _ _ hx2 (by decide)
  have hnW:=hW.1.blk _ _ _ hn2 (by decide)
  match i,hi,hW with
  |0,_,hW=>
   refine(begin1_ok base d mn ms D (nameS seg) q k1 W hxW hnW hW.2 (okS_of_named (nameS_ok seg)) hm).mono ?_
   rintro e w' ⟨rfl,hb⟩
   exact⟨rfl,hW.1.made hb (DiskAt.hi hW.2),DiskAt.made hW.2 hb⟩
  |1,_,hW=>
   refine(begin2_ok base d mn ms D (nameS seg) q k1 W hxW hnW hW.2 hops hfail (nameS_ok seg) hnow hcl hm hroom).mono ?_
   rintro e w' ⟨rfl,hD,hf⟩
   exact⟨rfl,hW.1.trans hf,hD⟩
 ·rintro e w3 ⟨rfl,hfw,hD3⟩
  have HE:=jH (aI hD3 (hf02.trans hfw))
  clear hD3 hfw hx2 hn2 hg2 hbl2 hD2 hf02
  go_wp2_with fail
  go_ret
  exact⟨rfl,HE.out.1,HE.out.2⟩
def nv (l:List Nat):List Value:=l.map fun x:Nat=>X Y x
theorem nv_length (l:List Nat):(nv l).length=l.length:=by simp[nv]
theorem nv_get {l:List Nat}{j:Nat}(h:j < l.length):(nv l)[j]? =some (X Y (l[j]:Nat)):=by simp[nv,h]
theorem nv_at {w:World}{B:Nat}{A:Option Addr}{n:Nat}{l:List Nat}(h:Reads w B 1 A n (nv l)){j:Nat}(hj:j < n):
  ∃(b off:Nat) (hl:j < l.length),A=some ⟨b,off,none⟩∧b < B∧w.cell? ⟨b,off + j,none⟩=some (X Y (l[j]:Nat)):=by
 have hlen:l.length=n:=by have:=h.1;rw[nv_length] at this;omega
 obtain⟨b,off,e,hb,hc⟩:=h.plain (by omega) (by omega)
 exact⟨b,off,by omega,e,hb,hc j _ (nv_get (by omega))⟩
def prevL (l:List Nat)(k:Nat):Nat:=if k=0 then 0 else l.getD (k - 1) 0
structure MOk (V nx:Nat)(l:List Nat):Prop where
 v1:1≤V
 v3:V≤3
 l1:1≤l.length
 l64:l.length≤64
 n1:1≤nx
 n2:nx≤1000000
 inc:∀j (hj:j < l.length),prevL l j < l[j]∧l[j] < nx
theorem mmay_ok (V nx:Nat)(l:List Nat)(A:Option Addr)(n c B:Nat)(w:World)(ho:MOk V nx l)(hr:Reads w B 1 A n (nv l))(hB:B≤w.heap.size):
  Calls Pg 308 #[aG #[X Y V,X Y nx,G A n c]] w fun e w'=>e=rT (bL true)∧Below w.heap.size w w':=by
 obtain⟨v1,v3,l1,l64,n1,n2,inc⟩:=ho
 have hln:l.length=n:=by have:=hr.1;rw[nv_length] at this;omega
 obtain⟨q,hq⟩:∃q,q=w.heap.size:=⟨_,rfl⟩
 have hbl:=(bR w.heap.size w).alloc (nR _) (cL #[X Y V,X Y nx,G A n c] 259)
 have hb:=Blk.new w 259 #[X Y V,X Y nx,G A n c]
 rw[←hq] at hbl hb
 have hr1:=hr.alloc hB (cL #[X Y V,X Y nx,G A n c] 259)
 have d1:decide ((V:Int) < 1)=false:=decide_eq_false (by omega)
 have d2:decide ((3:Int) < (V:Int))=false:=decide_eq_false (by omega)
 have d3:decide ((n:Int) < 1)=false:=decide_eq_false (by omega)
 have d4:decide ((64:Int) < (n:Int))=false:=decide_eq_false (by omega)
 have d5:decide ((nx:Int) < 1)=false:=decide_eq_false (by omega)
 have d6:decide ((1000000:Int) < (nx:Int))=false:=decide_eq_false (by omega)
 obtain⟨c0,c1,c2⟩:=hb.c3
 have H:=jH (aI hb (aI hbl (aI hq hr1)))
 have hqB:B≤q:=by omega
 clear hb hbl hr1 hr hB
 go_enter func308,ntmps308
 go_wp2_with fail
 rw[←hq]
 clear hq
 generalize w.alloc (cL #[X Y V,X Y nx,G A n c] 259)=w1 at *
 go_loopw [3,39] (fun x i wr=>∃k:Nat,k≤n∧x=X Y (prevL l k:Nat)∧i=X Y k∧wr=w1) (fun _ i _=>n - (intOf i).toNat)
 case atStart=>exact⟨0,by omega,rfl,rfl,rfl⟩
 case round=>
  obtain⟨k,hk,rfl,rfl,rfl⟩:=hrel
  by_cases hkn:k < n
  ·obtain⟨b,off,hl,rfl,hbB,hcell⟩:=nv_at H.out.2.2.2 hkn
   have hi:=inc k hl
   have hp:prevL l (k + 1)=l[k]:=by unfold prevL;rw[if_neg (by omega)];simp[List.getD,hl]
   obtain⟨x,hx⟩:∃x,l[k]=x:=⟨_,rfl⟩
   obtain⟨y,hy⟩:∃y,prevL l k=y:=⟨_,rfl⟩
   rw[hx,hy] at hi
   rw[hx] at hp hcell
   rw[hy]
   have HP:=jH hp
   clear hx hy hp
   have e1:decide ((x:Int)≤(y:Int))=false:=decide_eq_false (by omega)
   have e2:decide ((nx:Int)≤(x:Int))=false:=decide_eq_false (by omega)
   have e3:decide ((k:Int) < (n:Int))=true:=decide_eq_true (by omega)
   go_wp2_with fail
   go_roundw
   case rel=>exact⟨k + 1,by omega,by rw[HP.out],by go_num,by first|rfl|trivial⟩
   case measure=>simp[intOf];omega
  ·have hkk:k=n:=by omega
   have e3:decide ((n:Int) < (n:Int))=false:=decide_eq_false (by omega)
   subst hkk
   go_wp2_with fail
   go_ret
   exact⟨rfl,H.out.2.2.1▸H.out.2.1⟩
def segB (l:List Nat):List Nat:=l.flatMap fun x=>be x 4
theorem segB_length (l:List Nat):(segB l).length=l.length * 4:=by
 induction l with
 |nil=>rfl
 |cons x r ih=>rw[show segB (x::r)=be x 4++segB r from rfl,List.length_append,be_length,ih,List.length_cons];omega
theorem segB_all (l:List Nat):AllB (segB l):=fun x hx=>by
 obtain⟨y,_,hy⟩:=List.mem_flatMap.1 hx
 exact be_all _ _ x hy
theorem segB_take (l:List Nat)(k:Nat)(h:k < l.length):segB (l.take (k + 1))=segB (l.take k)++be l[k] 4:=by
 unfold segB
 rw[List.take_succ_eq_append_getElem h,List.flatMap_append]
 simp only[List.flatMap_cons,List.flatMap_nil,List.append_nil]
def manBody (nx:Nat)(l:List Nat):List Nat:=be nx 4++be l.length 2++segB l
def manB (V nx:Nat)(l:List Nat):List Nat:=frameB 100 V (manBody nx l)
theorem manBody_length (nx:Nat)(l:List Nat):(manBody nx l).length=6 + l.length * 4:=by simp[manBody,be_length,segB_length];omega
theorem manBody_all (nx:Nat)(l:List Nat):AllB (manBody nx l):=allB_append (allB_append (be_all _ _) (be_all _ _)) (segB_all _)
theorem menc_ok (V nx:Nat)(l:List Nat)(A:Option Addr)(n c B:Nat)(w:World)(ho:MOk V nx l)(hr:Reads w B 1 A n (nv l))(hB:B≤w.heap.size):
  Calls Pg 278 #[aG #[X Y V,X Y nx,G A n c]] w fun e w'=>∃A' c',e=rT (tU #[G A' (manB V nx l).length c',X Y 0])∧w'.ownsRow w.heap.size 5 1 (G A' (manB V nx l).length c') (manB V nx l).length (bv (manB V nx l))∧Below w.heap.size w w':=by
 have hln:l.length=n:=by have:=hr.1;rw[nv_length] at this;omega
 have hML:(manB V nx l).length=n * 4 + 6 + 16:=by unfold manB;rw[frameB_length,manBody_length,hln];omega
 rw[hML]
 obtain⟨v1,v3,l1,l64,n1,n2,inc⟩:=id ho
 obtain⟨q,hq⟩:∃q,q=w.heap.size:=⟨_,rfl⟩
 have hbl:=(bR w.heap.size w).alloc (nR _) (cL #[X Y V,X Y nx,G A n c] 259)
 have hb:=Blk.new w 259 #[X Y V,X Y nx,G A n c]
 have hsz:(w.alloc (cL #[X Y V,X Y nx,G A n c] 259)).heap.size=q + 1:=by rw[hq];simp
 rw[←hq] at hbl hb
 have hr1:=hr.alloc hB (cL #[X Y V,X Y nx,G A n c] 259)
 obtain⟨c0,c1,c2⟩:=hb.c3
 have hqB:B≤q:=by omega
 have CM:=jH (mmay_ok V nx l A n c B _ ho hr1 (by rw[hsz];omega))
 have HQ:=jH hq
 have H:=jH (aI hb (aI hbl hr1))
 clear hb hbl hr1 hr hB ho hML
 go_enter func278,ntmps278
 go_wp2_with fail
 rw[←hq]
 generalize w.alloc (cL #[X Y V,X Y nx,G A n c] 259)=w1 at *
 refine CM.out.mono ?_
 rintro e w2 ⟨rfl,hb12⟩
 clear CM c0 c1 c2 hq
 have hs2:=hb12.size
 obtain⟨p,hp⟩:∃p,p=w2.heap.size:=⟨_,rfl⟩
 have hb1p:Below (q + 1) w1 (w2.alloc (cL #[G none 0 0] 251)):=(hb12.mono (by omega)).trans ((bR w2.heap.size w2).alloc (nR _) (cL #[G none 0 0] 251) |>.mono (by omega))
 have hwb:WBuf (w2.alloc (cL #[G none 0 0] 251)) p p []:=⟨nR _,none,0,hp▸Blk.new w2 251 #[G none 0 0],rfl,.inl ⟨rfl,rfl⟩⟩
 have hs3:(w2.alloc (cL #[G none 0 0] 251)).heap.size=p + 1:=by simp[hp]
 have hpq:q + 1≤p:=by omega
 have C1:=jH (u32_any p p nx [] _ (by omega) (by simp) hwb (by omega))
 have hb3:=H.out.1.below hb1p (by omega)
 obtain⟨-,c1⟩:=hb3.c2
 have ew:IntKind.u32.wrap (nx:Int)=(nx:Int):=by rw[IntKind.wrap_u32'];omega
 go_wp2_with fail
 rw[←hp]
 generalize w2.alloc (cL #[G none 0 0] 251)=w3 at *
 refine C1.out.mono ?_
 rintro e w4 ⟨rfl,hwb4,hb34⟩
 have hb14:=hb1p.trans (hb34.mono hpq)
 have hs4:=hb34.size
 rw[List.nil_append] at hwb4
 have C2:=jH (u16w_any p p (n:Int) _ w4 (by simp[be_length]) hwb4 (by omega))
 rw[u64n_nat n (by omega)] at C2
 clear C1 hb1p hwb hb3 c1 ew hb34 hb12 hp
 have hb4:=H.out.1.below hb14 (by omega)
 obtain⟨-,-,c2⟩:=hb4.c3
 go_wp2_with fail
 refine C2.out.mono ?_
 rintro e w5 ⟨rfl,hwb5,hb45⟩
 have hb15:=hb14.trans (hb45.mono hpq)
 have hs5:=hb45.size
 clear C2 hwb4 hb14 hb4 c2 hb45
 have hb5:=H.out.1.below hb15 (by omega)
 obtain⟨-,-,c2⟩:=hb5.c3
 go_wp2_with fail
 go_loopw [25] (fun i wr=>∃k:Nat,k≤n∧i=X Y k∧WBuf wr p p (be nx 4++be n 2++segB (l.take k))∧Below (q + 1) w1 wr∧p < wr.heap.size) (fun i _=>n - (intOf i).toNat)
 case atStart=>exact⟨0,by omega,rfl,by simpa [segB] using hwb5,hb15,by omega⟩
 case round=>
  obtain⟨k,hk,rfl,hwr,hbr,hpr⟩:=hrel
  clear c2 hwb5 hb5
  by_cases hkn:k < n
  ·obtain⟨b,off,hl,rfl,hbB,hcell⟩:=nv_at (H.out.2.2.below (hbr.mono (by omega))) hkn
   have hlt:l[k] < 1000000:=by have:=(inc k hl).2;omega
   have HT:Hid (be nx 4++be n 2++segB (l.take (k + 1))=(be nx 4++be n 2++segB (l.take k))++be l[k] 4):=by show _=_;rw[segB_take l k hl,List.append_assoc _ (segB _)]
   have hlen:(be nx 4++be n 2++segB (l.take k)).length≤1099511627776:=by simp only[List.length_append,be_length,segB_length,List.length_take];omega
   generalize be nx 4++be n 2++segB (l.take k)=m at *
   generalize l[k]=x at *
   have ew:IntKind.u32.wrap (x:Int)=(x:Int):=by rw[IntKind.wrap_u32'];omega
   have CU:=jH (u32_any p p x m wr (by omega) hlen hwr (by omega))
   have e3:decide ((k:Int) < (n:Int))=true:=decide_eq_true (by omega)
   clear hwr
   go_wp2_with fail
   refine CU.out.mono ?_
   rintro e w6 ⟨rfl,hwb6,hb6⟩
   have hs6:=hb6.size
   have HE:=jH (aI hwb6 (hbr.trans (hb6.mono hpq)))
   clear hwb6 hb6 hbr CU
   go_wp2_with fail
   go_roundw
   case rel=>exact⟨k + 1,by omega,by go_num,by rw[HT.out];exact HE.out.1,HE.out.2,by omega⟩
   case measure=>simp[intOf];omega
  ·have hkk:k=n:=by omega
   have e3:decide ((n:Int) < (n:Int))=false:=decide_eq_false (by omega)
   subst hkk
   rw[List.take_of_length_le (by omega),←hln,show be nx 4++be l.length 2++segB l=manBody nx l from rfl] at hwr
   have hbk:=H.out.1.below hbr (by omega)
   have d0:=hbk.c1
   have hbd:=(hbr.drew)
   have CB:=jH (bytes_any p p (manBody nx l) wr.drew (hwr.below (bR _ _).drew) (by rw[manBody_length];omega))
   rw[manBody_length,hln] at CB
   have d0':wr.drew.cell? ⟨q,0,none⟩=some (X Y V):=d0
   have hbk':Hid (Blk wr.drew q 259 #[X Y V,X Y nx,G A k c]):=hbk
   have hlw:q < wr.drew.heap.size:=hbk.lt
   clear hbk hwr
   go_wp2_with fail
   go_region_held3 (fun wS=>wS.cell? ⟨q,0,none⟩=some (X Y V)) (first|with_reducible exact d0'|with_reducible exact e0|with_reducible exact g0|fail)
    (first
     |(go_at_call 163;(with_reducible refine CB.out.mono ?_);rintro e w7 ⟨A7,c7,rfl,hown7,hb7⟩;have e0:w7.cell? ⟨q,0,none⟩=some (X Y V):=by {have:=(hbk'.out.below hb7 hlw).cell 0;simpa using this};have CP:=put_frame 100 V (manBody nx l) A7 (6 + k * 4) c7 w7.heap.size w7 (by omega) (by omega) (by omega) (Reads.of_own hown7) (nR _) (manBody_all _ _);rw[show ((100:Nat):Int)=100 from rfl] at CP)
     |(go_at_call 238;(with_reducible refine CP.mono ?_);rintro e w8 ⟨A8,c8,rfl,hown8,hb8⟩;have g0:w8.cell? ⟨q,0,none⟩=some (X Y V):=by {have:=((hbk'.out.below hb7 hlw).below hb8 (Nat.lt_of_lt_of_le hlw hb7.size)).cell 0;simpa using this}))
   all_goals
    go_wp2_with fail
    go_ret2
    have hB0:w.heap.size≤w7.heap.size:=by have:=HQ.out;have:=hb7.size;have:q < wr.heap.size:=hlw;omega
    refine⟨A8,c8,by rw[show k * 4 + 6 + 16=6 + k * 4 + 16 by omega];rfl,?_,?_⟩
    ·rw[show k * 4 + 6 + 16=6 + k * 4 + 16 by omega]
     exact ownsRow_mono hown8 hB0
    ·have h1:Below q w wr.drew:=(H.out.2.1.trans (hbr.mono (by omega))).drew
     rw[←HQ.out]
     exact(h1.trans (hb7.mono (Nat.le_of_lt hlw))).trans (hb8.mono (Nat.le_of_lt (Nat.lt_of_lt_of_le hlw hb7.size)))
def syncedP (D:PDisk)(f:Nat)(p:PFile):PDisk:={D.op with fs:=mput D.fs f ⟨p.b,p.b.length⟩}
theorem syncP_ok {D:PDisk}(h:D.fail=0){name:ByteArray}{f:Nat}{p:PFile}(hm:mget D.now name=some f)(hp:mget D.fs f=some p):syncP D name=(0,syncedP D f p):=by
 unfold syncP
 rw[findP_ok h hm]
 show ((0:Int),({D.op with fs:=mput D.op.fs f ⟨(fileOf D.op.fs f).b,(fileOf D.op.fs f).b.length⟩}:PDisk))=_
 rw[show fileOf D.op.fs f=p from fileOf_some hp]
 rfl
def commitP (D:PDisk)(f:Nat)(b:List Nat):PDisk:=changeP (syncedP (newP D (⟨#[109,46,110,101,119]⟩:ByteArray) f b) f ⟨b,0⟩).op ⟨2,(⟨#[109,46,110,101,119]⟩:ByteArray),(⟨#[109]⟩:ByteArray),none⟩
theorem fr_named:namedP (⟨#[109,46,110,101,119]⟩:ByteArray)=true:=by decide
theorem hd_named:namedP (⟨#[109]⟩:ByteArray)=true:=by decide
theorem fr_ne_hd:(ByteArray.toList (⟨#[109,46,110,101,119]⟩:ByteArray)==ByteArray.toList (⟨#[109]⟩:ByteArray))=false:=by kernel_rfl
theorem commit1_ok (base d mn ms:Nat)(D:PDisk)(bx:Nat)(w:World)(hx:Blk w bx 63 #[PT (some ⟨d,0,none⟩)])(h:DiskAt w base d mn ms D)(hm:mget D.now (⟨#[109,46,110,101,119]⟩:ByteArray)=none):
  Calls Pg 279 #[PT (some ⟨bx,0,none⟩)] w fun e w'=>e=rT (X Y 0)∧Below w.heap.size w w':=by
 have CC:=jH (clear_none base d mn ms D (⟨#[109,46,110,101,119]⟩:ByteArray) w h (okS_of_named fr_named) hm)
 have c0:=hx.c1
 clear h hm hx
 go_enter func279,ntmps279
 go_wp2_with fail
 refine CC.out.mono ?_
 rintro e w1 ⟨rfl,hb⟩
 go_wp2_with fail
 go_ret
 exact⟨rfl,hb⟩
theorem commit2_ok (base base2 d mn ms:Nat)(D:PDisk)(bx bn:Nat)(A:Option Addr)(n c:Nat)(l:List Nat)(w:World)(hx:Blk w bx 63 #[PT (some ⟨d,0,none⟩)])(hy:Blk w bn 23 #[G A n c])(h:DiskAt w base d mn ms D)(hops:D.ops≤900000000000)(hfail:D.fail=0)(hnow:D.now.length≤100000)
  (hcl:D.chg.length≤1000000)(hm:mget D.now (⟨#[109,46,110,101,119]⟩:ByteArray)=none)(hsrc:w.ownsRow base2 5 1 (G A n c) n (bv l))(hlb:AllB l)(hroom:roomP D none n=true):
  Calls Pg 280 #[PT (some ⟨bx,0,none⟩),PT (some ⟨bn,0,none⟩)] w fun e w'=>e=rT (X Y 0)∧(∃f,f∉mkeys D.fs∧DiskAt w' base d mn ms (newP D (⟨#[109,46,110,101,119]⟩:ByteArray) f l))∧Fr KD [mn] base w w':=by
 have CC:=jH (append_new base base2 d mn ms D (⟨#[109,46,110,101,119]⟩:ByteArray) A n c l w h hops hfail fr_named hnow hcl hm hsrc hlb hroom)
 have c0:=hx.c1
 have c1:=hy.c1
 clear h hm hx hy hsrc
 go_enter func280,ntmps280
 go_wp2_with fail
 refine CC.out.mono ?_
 rintro e w1 ⟨rfl,hD,hf⟩
 have H:=jH (aI hD hf)
 clear hD hf
 go_wp2_with fail
 go_ret
 exact⟨rfl,H.out.1,H.out.2⟩
theorem commit3_ok (base d mn ms:Nat)(D:PDisk)(bx f:Nat)(p:PFile)(w:World)(hx:Blk w bx 63 #[PT (some ⟨d,0,none⟩)])(h:DiskAt w base d mn ms D)(hops:D.ops≤900000000000)(hfail:D.fail=0)(hm:mget D.now (⟨#[109,46,110,101,119]⟩:ByteArray)=some f)(hp:mget D.fs f=some p):
  Calls Pg 281 #[PT (some ⟨bx,0,none⟩)] w fun e w'=>e=rT (X Y 0)∧DiskAt w' base d mn ms (syncedP D f p)∧Fr KD [mn] base w w':=by
 have CC:=jH (sync_any base d mn ms D (⟨#[109,46,110,101,119]⟩:ByteArray) w h hops (okS_of_named fr_named))
 rw[syncP_ok hfail hm hp] at CC
 dsimp only at CC
 have c0:=hx.c1
 clear h hm hx hp
 go_enter func281,ntmps281
 go_wp2_with fail
 refine CC.out.mono ?_
 rintro e w1 ⟨rfl,hD,hf⟩
 have H:=jH (aI hD hf)
 clear hD hf
 go_wp2_with fail
 go_ret
 exact⟨rfl,H.out.1,H.out.2.mono (by decide) (by simp)⟩
theorem commit4_ok (base d mn ms:Nat)(D:PDisk)(bx f:Nat)(w:World)(hx:Blk w bx 63 #[PT (some ⟨d,0,none⟩)])(h:DiskAt w base d mn ms D)(hops:D.ops≤900000000000)(hfail:D.fail=0)(hcl:D.chg.length≤1000000)(hm:mget D.now (⟨#[109,46,110,101,119]⟩:ByteArray)=some f):
  Calls Pg 282 #[PT (some ⟨bx,0,none⟩)] w fun e w'=>e=rT (X Y 0)∧DiskAt w' base d mn ms (changeP D.op ⟨2,(⟨#[109,46,110,101,119]⟩:ByteArray),(⟨#[109]⟩:ByteArray),none⟩)∧Fr KD [mn] base w w':=by
 have CC:=jH (rename_ok base d mn ms D (⟨#[109,46,110,101,119]⟩:ByteArray) (⟨#[109]⟩:ByteArray) w h hops hfail (okS_of_named fr_named) hd_named fr_ne_hd hcl f hm)
 have c0:=hx.c1
 clear h hm hx
 go_enter func282,ntmps282
 go_wp2_with fail
 refine CC.out.mono ?_
 rintro e w1 ⟨rfl,hD,hf⟩
 have H:=jH (aI hD hf)
 clear hD hf
 go_wp2_with fail
 go_ret
 exact⟨rfl,H.out.1,H.out.2.mono (by decide) (by simp)⟩
theorem commit_ok (base d mn ms:Nat)(D:PDisk)(V nx:Nat)(l:List Nat)(A:Option Addr)(n c B:Nat)(w:World)(h:DiskAt w base d mn ms D)(hops:D.ops≤800000000000)(hfail:D.fail=0)(hnow:D.now.length≤90000)
  (hcl:D.chg.length≤900000)(hm:mget D.now (⟨#[109,46,110,101,119]⟩:ByteArray)=none)(ho:MOk V nx l)(hr:Reads w B 1 A n (nv l))(hB:B≤w.heap.size)(hroom:roomP D none (manB V nx l).length=true):
  Calls Pg 175 #[PT (some ⟨d,0,none⟩),aG #[X Y V,X Y nx,G A n c]] w fun e w'=>e=rT (tU #[bL true,X Y 0])∧
   (∃f ms',f∉mkeys D.fs∧w.heap.size≤ms'∧DiskAt w' base d mn ms' (syncdirP (commitP D f (manB V nx l))))∧Fr KD [mn] base w w':=by
 have H:=jH h
 obtain⟨q,hq⟩:∃q,q=w.heap.size:=⟨_,rfl⟩
 have HQ:=jH hq
 have hb0:=((bR w.heap.size w).alloc (nR _) (cL #[PT (some ⟨d,0,none⟩)] 63)).alloc (by simp) (cL #[X Y V,X Y nx,G A n c] 259)
 have hx0:=(Blk.new w 63 #[PT (some ⟨d,0,none⟩)]).alloc (cL #[X Y V,X Y nx,G A n c] 259)
 have hr0:=(hr.alloc hB (cL #[PT (some ⟨d,0,none⟩)] 63)).alloc (by simp;omega) (cL #[X Y V,X Y nx,G A n c] 259)
 have hs0:((w.alloc (cL #[PT (some ⟨d,0,none⟩)] 63)).alloc (cL #[X Y V,X Y nx,G A n c] 259)).heap.size=q + 2:=by rw[hq];simp
 have CE:=jH (menc_ok V nx l A n c B _ ho hr0 (by rw[hs0];omega))
 rw[←hq] at hb0 hx0
 have hall:AllB (manB V nx l):=frameB_all _ _ (manBody_all _ _)
 clear h hr hr0
 generalize manB V nx l=mb at *
 go_enter func175,ntmps175
 go_wp2_with fail
 rw[←hq]
 clear hq
 generalize (w.alloc (cL #[PT (some ⟨d,0,none⟩)] 63)).alloc (cL #[X Y V,X Y nx,G A n c] 259)=w0 at *
 refine CE.out.mono ?_
 rintro e w1 ⟨A1,c1,rfl,hown1,hb1⟩
 have hx1:=hx0.below hb1 (by omega)
 have hs1:=hb1.size
 have hb01:=hb0.trans (hb1.mono (by omega))
 have HX:=jH (aI hx1 (aI hb01 hown1))
 clear hx1 hb01 hb0 hx0 hown1 CE
 go_wp2_with fail
 have hx2:=((HX.out.1.alloc (cL #[G A1 mb.length c1] 23)).alloc (cL #[.func (.func 279) #[] #[PT (some ⟨q,0,none⟩)],.func (.func 280) #[] #[PT (some ⟨q,0,none⟩),PT (some ⟨w1.heap.size,0,none⟩)],.func (.func 281) #[] #[PT (some ⟨q,0,none⟩)],.func (.func 282) #[] #[PT (some ⟨q,0,none⟩)]] 71))
 have hn2:=(Blk.new w1 23 #[G A1 mb.length c1]).alloc (cL #[.func (.func 279) #[] #[PT (some ⟨q,0,none⟩)],.func (.func 280) #[] #[PT (some ⟨q,0,none⟩),PT (some ⟨w1.heap.size,0,none⟩)],.func (.func 281) #[] #[PT (some ⟨q,0,none⟩)],.func (.func 282) #[] #[PT (some ⟨q,0,none⟩)]] 71)
 have hg2:=Blk.new (w1.alloc (cL #[G A1 mb.length c1] 23)) 71 #[.func (.func 279) #[] #[PT (some ⟨q,0,none⟩)],.func (.func 280) #[] #[PT (some ⟨q,0,none⟩),PT (some ⟨w1.heap.size,0,none⟩)],.func (.func 281) #[] #[PT (some ⟨q,0,none⟩)],.func (.func 282) #[] #[PT (some ⟨q,0,none⟩)]]
 have hbl12:=(((bR w1.heap.size w1).alloc (nR _) (cL #[G A1 mb.length c1] 23)).alloc (by simp) (cL #[.func (.func 279) #[] #[PT (some ⟨q,0,none⟩)],.func (.func 280) #[] #[PT (some ⟨q,0,none⟩),PT (some ⟨w1.heap.size,0,none⟩)],.func (.func 281) #[] #[PT (some ⟨q,0,none⟩)],.func (.func 282) #[] #[PT (some ⟨q,0,none⟩)]] 71))
 have hown2:=own_below (hs0▸HX.out.2.2) hbl12
 have hbl2:=HX.out.2.1.trans (hbl12.mono (by omega))
 rw[show (w1.alloc (cL #[G A1 mb.length c1] 23)).heap.size=w1.heap.size + 1 by simp] at hg2
 generalize (w1.alloc (cL #[G A1 mb.length c1] 23)).alloc (cL #[.func (.func 279) #[] #[PT (some ⟨q,0,none⟩)],.func (.func 280) #[] #[PT (some ⟨q,0,none⟩),PT (some ⟨w1.heap.size,0,none⟩)],.func (.func 281) #[] #[PT (some ⟨q,0,none⟩)],.func (.func 282) #[] #[PT (some ⟨q,0,none⟩)]] 71)=w2 at *
 generalize w1.heap.size=k1 at *
 have hD2:DiskAt w2 base d mn ms D:=H.out.made (HQ.out▸hbl2)
 have hf02:Fr KD [mn] base w w2:=Fr.of_below _ _ (HQ.out▸hbl2) H.out.hi
 refine(all_ok [(279,#[PT (some ⟨q,0,none⟩)]),(280,#[PT (some ⟨q,0,none⟩),PT (some ⟨k1,0,none⟩)]),(281,#[PT (some ⟨q,0,none⟩)]),(282,#[PT (some ⟨q,0,none⟩)])] (some ⟨k1 + 1,0,none⟩) 4 4 (k1 + 2)
  (fun i W=>Fr KD [mn] base w2 W∧match i with
   |0=>DiskAt W base d mn ms D∧W.ownsRow (q + 2) 5 1 (G A1 mb.length c1) mb.length (bv mb)
   |1=>DiskAt W base d mn ms D∧W.ownsRow (q + 2) 5 1 (G A1 mb.length c1) mb.length (bv mb)
   |2=>∃f,f∉mkeys D.fs∧DiskAt W base d mn ms (newP D (⟨#[109,46,110,101,119]⟩:ByteArray) f mb)
   |3=>∃f,f∉mkeys D.fs∧DiskAt W base d mn ms (syncedP (newP D (⟨#[109,46,110,101,119]⟩:ByteArray) f mb) f ⟨mb,0⟩)
   |_=>∃f,f∉mkeys D.fs∧DiskAt W base d mn ms (commitP D f mb)) w2 rfl (by omega)
  (fun p hp=>by
   rcases List.mem_cons.1 hp with rfl|hp
   ·exact enters_of func279 (by kernel_rfl) rfl
   ·rcases List.mem_cons.1 hp with rfl|hp
    ·exact enters_of func280 (by kernel_rfl) rfl
    ·rcases List.mem_cons.1 hp with rfl|hp
     ·exact enters_of func281 (by kernel_rfl) rfl
     ·rcases List.mem_cons.1 hp with rfl|hp
      ·exact enters_of func282 (by kernel_rfl) rfl
      ·cases hp)
  (fun i W hW=>reads_row (hW.1.blk _ _ _ hg2 (by decide)) rfl) ⟨Fr.refl _ _ _ _,hD2,hown2⟩ ?_).mono ?_
 ·intro i hi W hW
  have hxW:=hW.1.blk _ _ _ hx2 (by decide)
  have hnW:=hW.1.blk _ _ _ hn2 (by decide)
  match i,hi,hW with
  |0,_,hW=>
   refine(commit1_ok base d mn ms D q W hxW hW.2.1 hm).mono ?_
   rintro e w' ⟨rfl,hb⟩
   exact⟨rfl,hW.1.made hb (DiskAt.hi hW.2.1),DiskAt.made hW.2.1 hb,own_below hW.2.2 hb⟩
  |1,_,hW=>
   refine(commit2_ok base (q + 2) d mn ms D q k1 A1 mb.length c1 mb W hxW hnW hW.2.1 (by omega) hfail (by omega) (by omega) hm hW.2.2 hall hroom).mono ?_
   rintro e w' ⟨rfl,hD,hf⟩
   exact⟨rfl,hW.1.trans hf,hD⟩
  |2,_,hW=>
   obtain⟨f,hfk,hDf⟩:=hW.2
   refine(commit3_ok base d mn ms (newP D (⟨#[109,46,110,101,119]⟩:ByteArray) f mb) q f ⟨mb,0⟩ W hxW hDf (by show D.ops + 1≤_;omega) hfail (mget_mput_same _ _ _) (mget_mput_same _ _ _)).mono ?_
   rintro e w' ⟨rfl,hD,hf⟩
   exact⟨rfl,hW.1.trans hf,f,hfk,hD⟩
  |3,_,hW=>
   obtain⟨f,hfk,hDf⟩:=hW.2
   refine(commit4_ok base d mn ms (syncedP (newP D (⟨#[109,46,110,101,119]⟩:ByteArray) f mb) f ⟨mb,0⟩) q f W hxW hDf (by show D.ops + 1 + 1≤_;omega) hfail (by show (D.chg++_).length≤_;simp;omega) (mget_mput_same _ _ _)).mono ?_
   rintro e w' ⟨rfl,hD,hf⟩
   exact⟨rfl,hW.1.trans hf,f,hfk,hD⟩
 ·rintro e w3 ⟨rfl,hfw,f,hfk,hD3⟩
  have hx3:=hfw.blk _ _ _ hx2 (by decide)
  have c0:=hx3.c1
  have CS:=jH (syncdir_ok base d mn ms (commitP D f mb) w3 hD3 (by show D.ops + 1 + 1 + 1≤_;omega) hfail)
  have hf03:=hf02.trans hfw
  have HE:=jH (aI hfk hf03)
  clear hD3 hfw hx2 hn2 hg2 hbl2 hD2 hf02 hx3 hown2 hbl12 hf03
  go_wp2_with fail
  refine CS.out.mono ?_
  rintro e w4 ⟨rfl,⟨ms',hms,hD4⟩,hf4⟩
  have HE2:=jH (aI hD4 (aI hms hf4))
  clear hD4 hms hf4
  go_wp2_with fail
  go_ret2
  exact⟨rfl,⟨f,ms',HE.out.1,nT HE.out.2.size HE2.out.2.1,HE2.out.1⟩,HE.out.2.trans (HE2.out.2.2.mono (by decide) (by simp))⟩
def diskL (Q ops f1 f2:Nat)(L:List Nat)(s V:Nat):PDisk:=⟨Q,ops,0,[(nameS 1,f1),((⟨#[109]⟩:ByteArray),f2)],[(nameS 1,f1),((⟨#[109]⟩:ByteArray),f2)],[],[(f1,⟨L,s⟩),(f2,⟨manB V 2 [1],(manB V 2 [1]).length⟩)]⟩
def LogAt (w:World)(base lg d size V nx:Nat)(segs:List Nat)(loose:Bool):Prop:=
 base≤lg∧∃A c,Blk w lg 265 #[PT (some ⟨d,0,none⟩),X Y size,X Y V,X Y nx,G A segs.length c,.bool loose]∧w.ownsRow base 3 1 (G A segs.length c) segs.length (nv segs)
theorem LogAt.fr {w w':World}{base base' lg d size V nx:Nat}{segs:List Nat}{loose:Bool}{K:List TypeId}{M:List Nat}(h:LogAt w base lg d size V nx segs loose)(hf:Fr K M base' w w')(h1:265∉K)(h2:3∉K):LogAt w' base lg d size V nx segs loose:=by
 obtain⟨h0,A,c,hb,ho⟩:=h
 exact⟨h0,A,c,hf.blk _ _ _ hb h1,hf.own ho h2⟩
theorem LogAt.made {w w':World}{base lg d size V nx:Nat}{segs:List Nat}{loose:Bool}(h:LogAt w base lg d size V nx segs loose)(hb:Below w.heap.size w w'):LogAt w' base lg d size V nx segs loose:=by
 obtain⟨h0,A,c,hk,ho⟩:=h
 exact⟨h0,A,c,hk.below hb hk.lt,own_below ho hb⟩
theorem s1_ne_fr:nameS 1≠(⟨#[109,46,110,101,119]⟩:ByteArray):=by decide
theorem s1_ne_hd:nameS 1≠(⟨#[109]⟩:ByteArray):=by decide
theorem fr_ne_hd':(⟨#[109,46,110,101,119]⟩:ByteArray)≠(⟨#[109]⟩:ByteArray):=by decide
theorem created_eq (Q V f1 f2:Nat)(mb:List Nat)(hmb:mb=manB V 2 [1])(hne:f2≠f1):
  syncdirP (commitP (syncedP (newP ⟨Q,0,0,[],[],[],[]⟩ (nameS 1) f1 []) f1 ⟨[],0⟩) f2 mb)=diskL Q 6 f1 f2 [] 0 V:=by
 subst hmb
 have h1:=s1_ne_fr
 have h2:=s1_ne_hd
 have h3:=fr_ne_hd'
 have hne':f1≠f2:=Ne.symm hne
 simp[syncdirP,commitP,syncedP,newP,changeP,PDisk.op,diskL,doP,mput,mget,mdel,h1,h2,h3,h1.symm,h2.symm,h3.symm,hne,hne']
theorem sized_any (n:Nat)(w:World)(h1:16≤n)(h2:n≤1048576):Calls Pg 176 #[X Y n] w fun e w'=>e=rT (X Y n)∧w=w':=by
 have d1:min (n:Int) 1048576=(n:Int):=by omega
 have d2:max 16 (n:Int)=(n:Int):=by omega
 go_enter func176,ntmps176
 go_wp2_with fail
 go_ret
 exact⟨rfl,rfl⟩
theorem create1_ok (base d mn ms Q bx:Nat)(w:World)(hx:Blk w bx 63 #[PT (some ⟨d,0,none⟩)])(h:DiskAt w base d mn ms ⟨Q,0,0,[],[],[],[]⟩):
  Calls Pg 169 #[PT (some ⟨bx,0,none⟩)] w fun e w'=>e=rT (X Y 0)∧(∃f,DiskAt w' base d mn ms (newP ⟨Q,0,0,[],[],[],[]⟩ (nameS 1) f []))∧Fr KD [mn] base w w':=by
 have CC:=jH (begin_ok base d mn ms ⟨Q,0,0,[],[],[],[]⟩ 1 w h (by simp) rfl (by omega) (by omega) (by simp) (by simp) rfl (by simp[roomP,sizeP,sumL,haveP]))
 rw[show ((1:Nat):Int)=1 from rfl] at CC
 have c0:=hx.c1
 clear h hx
 go_enter func169,ntmps169
 go_wp2_with fail
 refine CC.out.mono ?_
 rintro e w1 ⟨rfl,⟨f,hf0,hD⟩,hf⟩
 have H:=jH (aI hD hf)
 clear hD hf
 go_wp2_with fail
 go_ret
 exact⟨rfl,⟨f,H.out.1⟩,H.out.2⟩
theorem create2_ok (base d mn ms bx f:Nat)(D:PDisk)(p:PFile)(w:World)(hx:Blk w bx 63 #[PT (some ⟨d,0,none⟩)])(h:DiskAt w base d mn ms D)(hops:D.ops≤900000000000)(hfail:D.fail=0)(hm:mget D.now (nameS 1)=some f)(hp:mget D.fs f=some p):
  Calls Pg 171 #[PT (some ⟨bx,0,none⟩)] w fun e w'=>e=rT (X Y 0)∧DiskAt w' base d mn ms (syncedP D f p)∧Fr KD [mn] base w w':=by
 have CN:=jH (name_any 1 (by omega) (by omega) w.drew)
 rw[show ((1:Nat):Int)=1 from rfl] at CN
 have CS:=jH (fun W hW=>sync_any base d mn ms D (nameS 1) W hW hops (okS_of_named (nameS_ok 1)))
 rw[syncP_ok hfail hm hp] at CS
 dsimp only at CS
 have c0:w.drew.cell? ⟨bx,0,none⟩=some (PT (some ⟨d,0,none⟩)):=by have:=hx.cell 0;simpa using this
 have H:=jH (aI hx h)
 clear h hm hx hp
 go_enter func171,ntmps171
 go_wp2_with fail
 go_region_held3 (fun wS=>wS.cell? ⟨bx,0,none⟩=some (PT (some ⟨d,0,none⟩))) (first|with_reducible exact c0|with_reducible exact e0|with_reducible exact g0|fail)
  (first
   |(go_at_call 173;(with_reducible refine CN.out.mono ?_);rintro e w1 ⟨rfl,hb1⟩;have hx1:=H.out.1.drew.below hb1 H.out.1.lt;have e0:w1.cell? ⟨bx,0,none⟩=some (PT (some ⟨d,0,none⟩)):=by {have:=hx1.cell 0;simpa using this};have hD1:=H.out.2.drew.made hb1)
   |(go_at_call 172;(with_reducible refine(CS.out _ hD1).mono ?_);rintro e w2 ⟨rfl,hD2,hf2⟩;have g0:w2.cell? ⟨bx,0,none⟩=some (PT (some ⟨d,0,none⟩)):=by {have:=(hf2.blk _ _ _ hx1 (by decide)).cell 0;simpa using this}))
 all_goals
  have HE:=jH (aI hD2 (((Fr.refl KD [mn] base w).drew.made hb1 H.out.2.drew.hi).trans (hf2.mono (by decide) (by simp))))
  clear hD2 hf2 hD1 hx1 hb1
  go_wp2_with fail
  go_ret
  exact⟨rfl,HE.out.1,HE.out.2⟩
theorem create3_ok (base d mn ms bx bm:Nat)(D:PDisk)(V nx:Nat)(l:List Nat)(A:Option Addr)(n c:Nat)(w:World)(hx:Blk w bx 63 #[PT (some ⟨d,0,none⟩)])(hbm:Blk w bm 259 #[X Y V,X Y nx,G A n c])(h:DiskAt w base d mn ms D)(hops:D.ops≤800000000000)(hfail:D.fail=0)(hnow:D.now.length≤90000)
  (hcl:D.chg.length≤900000)(hm:mget D.now (⟨#[109,46,110,101,119]⟩:ByteArray)=none)(ho:MOk V nx l)(hr:Reads w w.heap.size 1 A n (nv l))(hroom:roomP D none (manB V nx l).length=true):
  Calls Pg 174 #[PT (some ⟨bx,0,none⟩),PT (some ⟨bm,0,none⟩)] w fun e w'=>e=rT (X Y 0)∧
   (∃f ms',f∉mkeys D.fs∧w.heap.size≤ms'∧DiskAt w' base d mn ms' (syncdirP (commitP D f (manB V nx l))))∧Fr KD [mn] base w w':=by
 have CC:=jH (commit_ok base d mn ms D V nx l A n c w.heap.size w h hops hfail hnow hcl hm ho hr (nR _) hroom)
 have c0:=hx.c1
 obtain⟨m0,m1,m2⟩:=hbm.c3
 clear h hm hx hbm ho hr hroom
 go_enter func174,ntmps174
 go_wp2_with fail
 refine CC.out.mono ?_
 rintro e w1 ⟨rfl,hD,hf⟩
 have H:=jH (aI hD hf)
 clear hD hf
 go_wp2_with fail
 go_ret
 exact⟨rfl,H.out.1,H.out.2⟩
theorem created_room (Q V f:Nat)(hQ:1000≤Q):roomP (syncedP (newP ⟨Q,0,0,[],[],[],[]⟩ (nameS 1) f []) f ⟨[],0⟩) none (manB V 2 [1]).length=true:=by
 have hl:(manB V 2 [1]).length=26:=by unfold manB;rw[frameB_length,manBody_length];rfl
 rw[hl]
 simp[roomP,syncedP,newP,changeP,PDisk.op,sizeP,sumL,doP,mput,mget,flen,haveP]
 omega
theorem mok1 (V:Nat)(h1:1≤V)(h3:V≤3):MOk V 2 [1]:=⟨h1,h3,by simp,by simp,by omega,by omega,fun j hj=>by
 have:j=0:=by simp at hj;omega
 subst this
 simp[prevL]⟩
theorem create_ok (base d mn ms Q V size:Nat)(w:World)(h:DiskAt w base d mn ms ⟨Q,0,0,[],[],[],[]⟩)(h1:1≤V)(h3:V≤3)(hs1:16≤size)(hs2:size≤1048576)(hQ:1000≤Q):
  Calls Pg 85 #[PT (some ⟨d,0,none⟩),X Y V,X Y size] w fun e w'=>∃lg ms' f1 f2,e=rT (tU #[PT (some ⟨lg,0,none⟩),X Y 0])∧f1≠f2∧w.heap.size≤ms'∧w.heap.size≤lg∧
   DiskAt w' base d mn ms' (diskL Q 6 f1 f2 [] 0 V)∧LogAt w' base lg d size V 2 [1] false∧Fr KD [mn] base w w':=by
 have H:=jH h
 obtain⟨q,hq⟩:∃q,q=w.heap.size:=⟨_,rfl⟩
 have HQ:=jH hq
 have hb0:=(bR w.heap.size w).alloc (nR _) (cL #[PT (some ⟨d,0,none⟩)] 63)
 have hx0:=Blk.new w 63 #[PT (some ⟨d,0,none⟩)]
 have hs0:(w.alloc (cL #[PT (some ⟨d,0,none⟩)] 63)).heap.size=q + 1:=by rw[hq];simp
 rw[←hq] at hb0 hx0
 have hD0:=h.made (HQ.out▸hb0)
 have CT:=jH (there_any base d mn ms ⟨Q,0,0,[],[],[],[]⟩ (⟨#[109]⟩:ByteArray) _ hD0 (okS_of_named hd_named))
 rw[show (mget (⟨Q,0,0,[],[],[],[]⟩:PDisk).now (⟨#[109]⟩:ByteArray)).isSome=false from rfl] at CT
 have c0:=hx0.c1
 have d1:decide ((V:Int) < 1)=false:=decide_eq_false (by omega)
 have d2:decide ((3:Int) < (V:Int))=false:=decide_eq_false (by omega)
 clear h
 go_enter func85,ntmps85
 go_wp2_with fail
 rw[←hq]
 clear hq
 generalize w.alloc (cL #[PT (some ⟨d,0,none⟩)] 63)=w0 at *
 refine CT.out.mono ?_
 rintro e w1 ⟨rfl,hb1⟩
 have hx1:=hx0.below hb1 (by omega)
 have hsz1:=hb1.size
 have hb01:=hb0.trans (hb1.mono (by omega))
 have HX:=jH (aI hx1 hb01)
 clear hx1 hb01 hb0 hx0 CT c0
 go_wp2_with fail
 have hx2:=(((HX.out.1.alloc (cL #[X Y 1] 3)).alloc (cL #[X Y V,X Y 2,G (some ⟨w1.heap.size,0,none⟩) 1 1] 259)).alloc (cL #[.func (.func 169) #[] #[PT (some ⟨q,0,none⟩)],.func (.func 171) #[] #[PT (some ⟨q,0,none⟩)],.func (.func 174) #[] #[PT (some ⟨q,0,none⟩),PT (some ⟨w1.heap.size + 1,0,none⟩)]] 71))
 have hi2:=((Blk.new w1 3 #[X Y 1]).alloc (cL #[X Y V,X Y 2,G (some ⟨w1.heap.size,0,none⟩) 1 1] 259)).alloc (cL #[.func (.func 169) #[] #[PT (some ⟨q,0,none⟩)],.func (.func 171) #[] #[PT (some ⟨q,0,none⟩)],.func (.func 174) #[] #[PT (some ⟨q,0,none⟩),PT (some ⟨w1.heap.size + 1,0,none⟩)]] 71)
 have hm2:=(Blk.new (w1.alloc (cL #[X Y 1] 3)) 259 #[X Y V,X Y 2,G (some ⟨w1.heap.size,0,none⟩) 1 1]).alloc (cL #[.func (.func 169) #[] #[PT (some ⟨q,0,none⟩)],.func (.func 171) #[] #[PT (some ⟨q,0,none⟩)],.func (.func 174) #[] #[PT (some ⟨q,0,none⟩),PT (some ⟨w1.heap.size + 1,0,none⟩)]] 71)
 have hg2:=Blk.new ((w1.alloc (cL #[X Y 1] 3)).alloc (cL #[X Y V,X Y 2,G (some ⟨w1.heap.size,0,none⟩) 1 1] 259)) 71 #[.func (.func 169) #[] #[PT (some ⟨q,0,none⟩)],.func (.func 171) #[] #[PT (some ⟨q,0,none⟩)],.func (.func 174) #[] #[PT (some ⟨q,0,none⟩),PT (some ⟨w1.heap.size + 1,0,none⟩)]]
 have hbl12:=((((bR w1.heap.size w1).alloc (nR _) (cL #[X Y 1] 3)).alloc (by simp) (cL #[X Y V,X Y 2,G (some ⟨w1.heap.size,0,none⟩) 1 1] 259)).alloc (by simp;omega) (cL #[.func (.func 169) #[] #[PT (some ⟨q,0,none⟩)],.func (.func 171) #[] #[PT (some ⟨q,0,none⟩)],.func (.func 174) #[] #[PT (some ⟨q,0,none⟩),PT (some ⟨w1.heap.size + 1,0,none⟩)]] 71))
 have hbl2:=HX.out.2.trans (hbl12.mono (by omega))
 rw[show ((w1.alloc (cL #[X Y 1] 3)).alloc (cL #[X Y V,X Y 2,G (some ⟨w1.heap.size,0,none⟩) 1 1] 259)).heap.size=w1.heap.size + 2 by simp] at hg2
 rw[show (w1.alloc (cL #[X Y 1] 3)).heap.size=w1.heap.size + 1 by simp] at hm2
 generalize ((w1.alloc (cL #[X Y 1] 3)).alloc (cL #[X Y V,X Y 2,G (some ⟨w1.heap.size,0,none⟩) 1 1] 259)).alloc (cL #[.func (.func 169) #[] #[PT (some ⟨q,0,none⟩)],.func (.func 171) #[] #[PT (some ⟨q,0,none⟩)],.func (.func 174) #[] #[PT (some ⟨q,0,none⟩),PT (some ⟨w1.heap.size + 1,0,none⟩)]] 71)=w2 at *
 generalize w1.heap.size=k1 at *
 have hD2:DiskAt w2 base d mn ms ⟨Q,0,0,[],[],[],[]⟩:=H.out.made (HQ.out▸hbl2)
 have hf02:Fr KD [mn] base w w2:=Fr.of_below _ _ (HQ.out▸hbl2) H.out.hi
 have hbase:base≤q:=HQ.out▸H.out.hi
 have hrI:∀W,Fr KD [mn] base w2 W→Reads W W.heap.size 1 (some ⟨k1,0,none⟩) 1 (nv [1]):=fun W hW=>(reads_row (hW.blk _ _ _ hi2 (by decide)) rfl).more (hW.blk _ _ _ hi2 (by decide)).lt
 refine(all_ok [(169,#[PT (some ⟨q,0,none⟩)]),(171,#[PT (some ⟨q,0,none⟩)]),(174,#[PT (some ⟨q,0,none⟩),PT (some ⟨k1 + 1,0,none⟩)])] (some ⟨k1 + 1 + 1,0,none⟩) 3 3 (k1 + 3)
  (fun i W=>Fr KD [mn] base w2 W∧match i with
   |0=>DiskAt W base d mn ms ⟨Q,0,0,[],[],[],[]⟩
   |1=>∃f,DiskAt W base d mn ms (newP ⟨Q,0,0,[],[],[],[]⟩ (nameS 1) f [])
   |2=>∃f,DiskAt W base d mn ms (syncedP (newP ⟨Q,0,0,[],[],[],[]⟩ (nameS 1) f []) f ⟨[],0⟩)
   |_=>∃f1 f2 ms',f1≠f2∧w2.heap.size≤ms'∧DiskAt W base d mn ms' (diskL Q 6 f1 f2 [] 0 V)) w2 rfl (by omega)
  (fun p hp=>by
   rcases List.mem_cons.1 hp with rfl|hp
   ·exact enters_of func169 (by kernel_rfl) rfl
   ·rcases List.mem_cons.1 hp with rfl|hp
    ·exact enters_of func171 (by kernel_rfl) rfl
    ·rcases List.mem_cons.1 hp with rfl|hp
     ·exact enters_of func174 (by kernel_rfl) rfl
     ·cases hp)
  (fun i W hW=>reads_row (hW.1.blk _ _ _ hg2 (by decide)) rfl) ⟨Fr.refl _ _ _ _,hD2⟩ ?_).mono ?_
 ·intro i hi W hW
  have hxW:=hW.1.blk _ _ _ hx2 (by decide)
  have hmW:=hW.1.blk _ _ _ hm2 (by decide)
  match i,hi,hW with
  |0,_,hW=>
   refine(create1_ok base d mn ms Q q W hxW hW.2).mono ?_
   rintro e w' ⟨rfl,hD,hf⟩
   exact⟨rfl,hW.1.trans hf,hD⟩
  |1,_,hW=>
   obtain⟨f,hDf⟩:=hW.2
   refine(create2_ok base d mn ms q f (newP ⟨Q,0,0,[],[],[],[]⟩ (nameS 1) f []) ⟨[],0⟩ W hxW hDf (by show 0 + 1≤_;omega) rfl (by show mget (mput [] (nameS 1) f) _=some f;exact mget_mput_same _ _ _) (by show mget (mput ([]:List (Nat×PFile)) f ⟨[],0⟩) _=_;exact mget_mput_same _ _ _)).mono ?_
   rintro e w' ⟨rfl,hD,hf⟩
   exact⟨rfl,hW.1.trans hf,f,hD⟩
  |2,_,hW=>
   obtain⟨f,hDf⟩:=hW.2
   refine(create3_ok base d mn ms q (k1 + 1) (syncedP (newP ⟨Q,0,0,[],[],[],[]⟩ (nameS 1) f []) f ⟨[],0⟩) V 2 [1] (some ⟨k1,0,none⟩) 1 1 W hxW hmW hDf (by show 0 + 1 + 1≤_;omega) rfl (by show (mput [] _ _).length≤_;simp[mput]) (by show ([]++[_]:List Chg).length≤_;simp)
    (by show mget (mput [] (nameS 1) f) _=none;simp[mget,mput,s1_ne_fr]) (mok1 V h1 h3) (hrI W hW.1) (created_room Q V f hQ)).mono ?_
   rintro e w' ⟨rfl,⟨f2,ms',hf2,hms,hD⟩,hf⟩
   have hne:f2≠f:=fun e=>hf2 (by rw[e];exact mkeys_mput_mem.2 (.inr rfl))
   rw[created_eq Q V f f2 _ rfl hne] at hD
   exact⟨rfl,hW.1.trans hf,f,f2,ms',hne.symm,nT hW.1.size hms,hD⟩
 ·rintro e w3 ⟨rfl,hfw,f1,f2,ms',hne,hms,hD3⟩
  have hx3:=hfw.blk _ _ _ hx2 (by decide)
  have hm3:=hfw.blk _ _ _ hm2 (by decide)
  have hi3:=hfw.blk _ _ _ hi2 (by decide)
  have c0:w3.drew.cell? ⟨q,0,none⟩=some (PT (some ⟨d,0,none⟩)):=by have:=hx3.cell 0;simpa using this
  have m0:w3.drew.cell? ⟨k1 + 1,0,none⟩=some (X Y V):=by have:=hm3.cell 0;simpa using this
  have m1:w3.drew.cell? ⟨k1 + 1,1,none⟩=some (X Y 2):=by have:=hm3.cell 1;simpa using this
  have m2:w3.drew.cell? ⟨k1 + 1,2,none⟩=some (G (some ⟨k1,0,none⟩) 1 1):=by have:=hm3.cell 2;simpa using this
  have sA:∀o,(w3.alloc o).drew.cell? ⟨q,0,none⟩=some (PT (some ⟨d,0,none⟩))∧(w3.alloc o).drew.cell? ⟨k1 + 1,0,none⟩=some (X Y V)∧(w3.alloc o).drew.cell? ⟨k1 + 1,1,none⟩=some (X Y 2)∧(w3.alloc o).drew.cell? ⟨k1 + 1,2,none⟩=some (G (some ⟨k1,0,none⟩) 1 1):=fun o=>
   ⟨by have:=(hx3.alloc o).cell 0;simpa using this,by have:=(hm3.alloc o).cell 0;simpa using this,by have:=(hm3.alloc o).cell 1;simpa using this,by have:=(hm3.alloc o).cell 2;simpa using this⟩
  have hsz:=hfw.size
  have hq2:q≤k1:=by have:=HX.out.1.lt;omega
  have hk2:=hi2.lt
  have HE:=jH (aI hne (aI hms (aI hD3 (aI (hf02.trans hfw) hi3))))
  have CZ:=jH (sized_any size)
  clear hD3 hfw hx2 hi2 hm2 hg2 hbl2 hD2 hf02 hx3 hm3 hi3 hms hbl12 hrI hne
  go_wp2_with fail
  go_region_held3 (fun wS=>wS.cell? ⟨q,0,none⟩=some (PT (some ⟨d,0,none⟩))∧wS.cell? ⟨k1 + 1,0,none⟩=some (X Y V)∧wS.cell? ⟨k1 + 1,1,none⟩=some (X Y 2)∧wS.cell? ⟨k1 + 1,2,none⟩=some (G (some ⟨k1,0,none⟩) 1 1)) (first|with_reducible exact⟨c0,m0,m1,m2⟩|with_reducible exact sA _|fail)
   (first|(go_at_call 176;(with_reducible refine(CZ.out _ hs1 hs2).mono ?_);rintro e w4 ⟨rfl,rfl⟩))
  all_goals
   go_wp2_with fail
   go_ret2
   obtain⟨hne,hms,hD3,hf03,hi3⟩:=HE.out
   have hb34:=(((bR w3.heap.size w3).alloc (nR _) (cL #[PT (some ⟨d,0,none⟩),X Y size,X Y V,X Y 2,G (some ⟨k1,0,none⟩) 1 1,bL false] 265))).drew
   have hlk:=(Blk.new w3 265 #[PT (some ⟨d,0,none⟩),X Y size,X Y V,X Y 2,G (some ⟨k1,0,none⟩) 1 1,bL false]).drew
   have hqw:=HQ.out
   refine⟨w3.heap.size,ms',f1,f2,rfl,hne,by omega,by omega,hD3.made hb34,⟨by omega,some ⟨k1,0,none⟩,1,hlk,?_⟩,hf03.made hb34 hD3.hi⟩
   exact lit_own (cs:=#[X Y 1]) (hi3.below hb34 hi3.lt) (by omega) (by decide) rfl rfl
theorem settle_ok (base lg d size V nx:Nat)(segs:List Nat)(w:World)(h:LogAt w base lg d size V nx segs false):
  Calls Pg 228 #[PT (some ⟨lg,0,none⟩)] w fun e w'=>e=rT (X Y 0)∧w=w':=by
 obtain⟨-,A,c,hb,-⟩:=h
 have c5:=hb.cell 5
 simp only[ga,gz,gN] at c5
 clear hb
 go_enter func228,ntmps228
 go_wp2_with fail
 go_ret
 exact⟨rfl,rfl⟩
theorem logver_any (base lg d size V nx:Nat)(segs:List Nat)(loose:Bool)(w:World)(h:LogAt w base lg d size V nx segs loose):
  Calls Pg 124 #[PT (some ⟨lg,0,none⟩)] w fun e w'=>e=rT (X Y V)∧w=w':=by
 obtain⟨-,A,c,hb,-⟩:=h
 obtain⟨-,-,c2⟩:=hb.c3
 clear hb
 go_enter func124,ntmps124
 go_wp2_with fail
 go_ret
 exact⟨rfl,rfl⟩
theorem fits_any (base lg d size V nx a b:Nat)(segs:List Nat)(loose:Bool)(w:World)(h:LogAt w base lg d size V nx segs loose)(ha:a≤2000000)(hb0:b≤2000000):
  Calls Pg 332 #[PT (some ⟨lg,0,none⟩),X Y a,X Y b] w fun e w'=>e=rT (bL (decide (a=0∨a + b≤size)))∧w=w':=by
 obtain⟨-,A,c,hb,-⟩:=h
 obtain⟨-,c1⟩:=hb.c2
 clear hb
 by_cases h0:a=0
 ·subst h0
  have HR:Hid (decide (0=0∨0 + b≤size)=true):=by show _=_;simp
  obtain⟨r,hr⟩:∃r,decide (0=0∨0 + b≤size)=r:=⟨_,rfl⟩
  rw[hr] at HR⊢
  clear hr
  simp only[show ((0:Nat):Int)=0 from rfl]
  go_enter func332,ntmps332
  go_wp2_with fail
  go_ret
  exact⟨by rw[HR.out];rfl,rfl⟩
 ·have HR:Hid (decide (a=0∨a + b≤size)=decide ((a:Int) + (b:Int)≤(size:Int))):=by show _=_;apply decide_eq_decide.2;omega
  obtain⟨r,hr⟩:∃r,decide (a=0∨a + b≤size)=r:=⟨_,rfl⟩
  rw[hr] at HR⊢
  clear hr
  have e0:((a:Int)==0)=false:=by simp;omega
  have ew:IntKind.i64.wrap ((a:Int) + (b:Int))=(a:Int) + (b:Int):=by rw[IntWalk.i64_in _ (by omega)]
  go_enter func332,ntmps332
  go_wp2_with fail
  go_ret
  exact⟨by rw[HR.out];rfl,rfl⟩
theorem logbytes_any (base lg d mn ms size V nx f:Nat)(segs:List Nat)(loose:Bool)(D:PDisk)(p:PFile)(name:ByteArray)(w:World)(h:LogAt w base lg d size V nx segs loose)(hD:DiskAt w base d mn ms D)(hname:okS name)(hm:mget D.now name=some f)(hp:mget D.fs f=some p):
  Calls Pg 193 #[PT (some ⟨lg,0,none⟩),.string name] w fun e w'=>e=rT (X Y p.b.length)∧Below w.heap.size w w':=by
 obtain⟨-,A,c,hb,-⟩:=h
 have c0:=hb.c1
 have CR:=jH (read_disk base d mn ms D name w hD hname)
 have hr:readP D name=some p.b:=by unfold readP;rw[hm,Option.map_some,fileOf_some hp]
 rw[hr] at CR
 generalize p.b=l at *
 clear hb hr hm hp hD
 go_enter func193,ntmps193
 go_wp2_with fail
 refine CR.out.mono ?_
 rintro e w1 ⟨⟨A1,c1,rfl,hown,-,-⟩,hb⟩
 clear hown
 go_wp2_with fail
 go_ret
 exact⟨rfl,hb⟩
theorem last_any (base lg d size V nx:Nat)(segs:List Nat)(loose:Bool)(x:Nat)(w:World)(h:LogAt w base lg d size V nx segs loose)(hl:segs.length≤64)(hx:segs.getLast? =some x)(h1:1≤x)(h2:x < 1000000):
  Calls Pg 194 #[PT (some ⟨lg,0,none⟩)] w fun e w'=>e=rT (.string (nameS x))∧Below w.heap.size w w':=by
 obtain⟨-,A,c,hb,ho⟩:=h
 have hne:0 < segs.length:=by
  cases segs with
  |nil=>cases hx
  |cons a r=>simp
 have hlt:segs.length - 1 < segs.length:=by omega
 have hxe:segs[segs.length - 1]=x:=by
  rw[List.getLast?_eq_getElem?] at hx
  have:=List.getElem?_eq_some_iff.1 hx
  exact this.2
 obtain⟨b,off,hl',rfl,hbB,hcell⟩:=nv_at (Reads.of_own ho) (j:=segs.length - 1) (by omega)
 rw[hxe] at hcell
 have CN:=jH (name_any x h1 h2 w.drew)
 obtain⟨k,hk⟩:∃k,segs.length=k + 1:=⟨segs.length - 1,by omega⟩
 rw[hk] at hb hcell
 rw[show k + 1 - 1=k by omega] at hcell
 have ew:IntKind.i64.wrap (((k + 1:Nat):Int) - 1)=(k:Int):=by rw[IntWalk.i64_in _ (by omega)];omega
 have hkl:k < 64:=by omega
 have c4:w.drew.cell? ⟨lg,4,none⟩=some (G (some ⟨b,off,none⟩) (k + 1) c):=by have:=hb.cell 4;simpa using this
 have hcell':w.drew.cell? ⟨b,off + k,none⟩=some (X Y x):=hcell
 have hB:b < w.drew.heap.size:=hbB
 have hL:lg < w.drew.heap.size:=hb.lt
 obtain⟨n1,hn1⟩:∃n1,n1=k + 1:=⟨_,rfl⟩
 have hkn:k < n1:=by omega
 rw[←hn1] at ew c4
 have HN:=jH hn1
 clear hb ho hl' hcell hxe hx hlt hk hl hne hn1
 go_enter func194,ntmps194
 go_wp2_with fail
 go_region_held3 (fun wS=>wS.cell? ⟨lg,4,none⟩=some (G (some ⟨b,off,none⟩) n1 c)∧wS.cell? ⟨b,off + k,none⟩=some (X Y x)) (first|with_reducible exact⟨c4,hcell'⟩|with_reducible exact e0|fail)
  (first|(go_at_call 173;(with_reducible refine CN.out.mono ?_);rintro e w1 ⟨rfl,hb1⟩;have e0:w1.cell? ⟨lg,4,none⟩=some (G (some ⟨b,off,none⟩) n1 c)∧w1.cell? ⟨b,off + k,none⟩=some (X Y x):=⟨(hb1.cell hL).trans c4,(hb1.cell hB).trans hcell'⟩))
 all_goals
  go_wp2_with fail
  go_ret
  exact⟨rfl,(bR w.heap.size w).drew.trans hb1⟩
end
section
open Go.RowKit
section
variable {Q ops f1 f2:Nat}{L:List Nat}{s V:Nat}
theorem diskL_now:mget (diskL Q ops f1 f2 L s V).now (nameS 1)=some f1:=by unfold diskL;rw[mget_cons,if_pos rfl]
theorem diskL_file:mget (diskL Q ops f1 f2 L s V).fs f1=some ⟨L,s⟩:=by unfold diskL;rw[mget_cons,if_pos rfl]
theorem diskL_file2 (h:f1≠f2):mget (diskL Q ops f1 f2 L s V).fs f2=some ⟨manB V 2 [1],(manB V 2 [1]).length⟩:=by unfold diskL;rw[mget_cons,if_neg h,mget_cons,if_pos rfl]
theorem diskL_app (h:f1≠f2)(x:List Nat):({(diskL Q ops f1 f2 L s V).op with fs:=mput (diskL Q ops f1 f2 L s V).fs f1 ⟨L++x,s⟩}:PDisk)=diskL Q (ops + 1) f1 f2 (L++x) s V:=by
 simp[diskL,PDisk.op,mput,h,h.symm]
theorem diskL_sync (h:f1≠f2):syncedP (diskL Q ops f1 f2 L s V) f1 ⟨L,s⟩=diskL Q (ops + 1) f1 f2 L L.length V:=by
 simp[diskL,syncedP,PDisk.op,mput,h,h.symm]
theorem manB1_length (V:Nat):(manB V 2 [1]).length=26:=by unfold manB;rw[frameB_length,manBody_length];rfl
theorem diskL_size (h:f1≠f2):sizeP (diskL Q ops f1 f2 L s V)=L.length + 26:=by
 show flen (diskL Q ops f1 f2 L s V).fs f1 + (flen (diskL Q ops f1 f2 L s V).fs f2 + 0)=_
 unfold flen
 rw[diskL_file,diskL_file2 h]
 dsimp only
 rw[manB1_length]
theorem diskL_room (h:f1≠f2)(n:Nat)(hQ:L.length + 26 + n≤Q)(hf:n + L.length≤1048576):roomP (diskL Q ops f1 f2 L s V) (some f1) n=true:=by
 unfold roomP
 rw[diskL_size h]
 have e:haveP (diskL Q ops f1 f2 L s V) (some f1)=L.length:=by show flen _ f1=_;unfold flen;rw[diskL_file]
 rw[e,show (diskL Q ops f1 f2 L s V).quota=Q from rfl]
 simp only[Option.isSome_some,Bool.true_or,Bool.and_true,decide_eq_true_eq]
 omega
end
theorem lappend1_ok (base lg d mn ms size Q ops f1 f2 s V bl bb:Nat)(L:List Nat)(A:Option Addr)(n c:Nat)(w:World)(hl:Blk w bl 171 #[PT (some ⟨lg,0,none⟩)])(hb:Blk w bb 23 #[G A n c])
  (hD:DiskAt w base d mn ms (diskL Q ops f1 f2 L s V))(hL:LogAt w base lg d size V 2 [1] false)(hll:L.length≤1048576)(hn:n≤1048576)(hfit:L.length=0∨L.length + n≤size):
  Calls Pg 331 #[PT (some ⟨bl,0,none⟩),PT (some ⟨bb,0,none⟩)] w fun e w'=>e=rT (X Y 0)∧Below w.heap.size w w':=by
 have c0:w.drew.cell? ⟨bl,0,none⟩=some (PT (some ⟨lg,0,none⟩))∧w.drew.cell? ⟨bb,0,none⟩=some (G A n c):=⟨by have:=hl.cell 0;simpa using this,by have:=hb.cell 0;simpa using this⟩
 have hB:bl < w.heap.size∧bb < w.heap.size:=⟨hl.lt,hb.lt⟩
 have hLd:=hL.made (bR w.heap.size w).drew
 have C1:=jH (last_any base lg d size V 2 [1] false 1 w.drew hLd (by simp) rfl (by omega) (by omega))
 have hdec:decide (L.length=0∨L.length + n≤size)=true:=decide_eq_true hfit
 have H:=jH (aI hD hL)
 clear hl hb hD hL hLd hfit
 go_enter func331,ntmps331
 go_wp2_with fail
 go_region_held3 (fun wS=>wS.cell? ⟨bl,0,none⟩=some (PT (some ⟨lg,0,none⟩))∧wS.cell? ⟨bb,0,none⟩=some (G A n c)) (first|with_reducible exact c0|with_reducible exact e0|with_reducible exact g0|fail)
  (first
   |(go_at_call 194;(with_reducible refine C1.out.mono ?_);rintro e w1 ⟨rfl,hb1⟩;have e0:w1.cell? ⟨bl,0,none⟩=some (PT (some ⟨lg,0,none⟩))∧w1.cell? ⟨bb,0,none⟩=some (G A n c):=⟨(hb1.cell hB.1).trans c0.1,(hb1.cell hB.2).trans c0.2⟩;have C2:=logbytes_any base lg d mn ms size V 2 f1 [1] false _ _ (nameS 1) w1 (H.out.2.made ((bR w.heap.size w).drew.trans hb1)) (H.out.1.made ((bR w.heap.size w).drew.trans hb1)) (okS_of_named (nameS_ok 1)) diskL_now diskL_file)
   |(go_at_call 193;(with_reducible refine C2.mono ?_);rintro e w2 ⟨rfl,hb2⟩;have g0:w2.cell? ⟨bl,0,none⟩=some (PT (some ⟨lg,0,none⟩))∧w2.cell? ⟨bb,0,none⟩=some (G A n c):=⟨(hb2.cell (Nat.lt_of_lt_of_le hB.1 hb1.size)).trans e0.1,(hb2.cell (Nat.lt_of_lt_of_le hB.2 hb1.size)).trans e0.2⟩;have C3:=fits_any base lg d size V 2 L.length n [1] false w2 ((H.out.2.made ((bR w.heap.size w).drew.trans hb1)).made hb2) (by omega) (by omega);rw[hdec] at C3)
   |(go_at_call 332;(with_reducible refine C3.mono ?_);rintro e w3 ⟨rfl,rfl⟩))
 all_goals
  have HE:=jH (((bR w.heap.size w).drew.trans hb1).trans (hb2.mono hb1.size))
  clear C2 C3 hb1 hb2
  go_wp2_with fail
  go_ret
  exact⟨rfl,HE.out⟩
theorem lappend2_ok (base base2 lg d mn ms size Q ops f1 f2 s V bl bb:Nat)(L:List Nat)(A:Option Addr)(n c:Nat)(x:List Nat)(w:World)(hl:Blk w bl 171 #[PT (some ⟨lg,0,none⟩)])(hb:Blk w bb 23 #[G A n c])
  (hD:DiskAt w base d mn ms (diskL Q ops f1 f2 L s V))(hL:LogAt w base lg d size V 2 [1] false)(hne:f1≠f2)(hops:ops≤900000000000)(hsrc:w.ownsRow base2 5 1 (G A n c) n (bv x))(hx:AllB x)(hQ:L.length + 26 + n≤Q)(hf:n + L.length≤1048576):
  Calls Pg 334 #[PT (some ⟨bl,0,none⟩),PT (some ⟨bb,0,none⟩)] w fun e w'=>e=rT (X Y 0)∧DiskAt w' base d mn ms (diskL Q (ops + 1) f1 f2 (L++x) s V)∧Fr KD [mn] base w w':=by
 obtain⟨hl0,A1,c1,hk,hko⟩:=id hL
 have c0:w.drew.cell? ⟨bl,0,none⟩=some (PT (some ⟨lg,0,none⟩))∧w.drew.cell? ⟨bb,0,none⟩=some (G A n c)∧w.drew.cell? ⟨lg,0,none⟩=some (PT (some ⟨d,0,none⟩)):=⟨by have:=hl.cell 0;simpa using this,by have:=hb.cell 0;simpa using this,by have:=hk.cell 0;simpa using this⟩
 have hB:bl < w.heap.size∧bb < w.heap.size∧lg < w.heap.size:=⟨hl.lt,hb.lt,hk.lt⟩
 have hLd:=hL.made (bR w.heap.size w).drew
 have C1:=jH (last_any base lg d size V 2 [1] false 1 w.drew hLd (by simp) rfl (by omega) (by omega))
 have HAP:=jH (fun W (hW:DiskAt W base d mn ms (diskL Q ops f1 f2 L s V)) (hs:W.ownsRow base2 5 1 (G A n c) n (bv x))=>append_old base base2 d mn ms (diskL Q ops f1 f2 L s V) (nameS 1) A n c x W hW hops rfl (nameS_ok 1) (by simp[diskL]) f1 ⟨L,s⟩ diskL_now diskL_file hs hx (diskL_room hne n hQ hf))
 rw[diskL_app hne x] at HAP
 have H:=jH (aI hD (aI hL (aI hsrc (aI hl (aI hb hk)))))
 clear hl hb hD hL hLd hsrc hk hko
 go_enter func334,ntmps334
 go_wp2_with fail
 go_region_held3 (fun wS=>wS.cell? ⟨bl,0,none⟩=some (PT (some ⟨lg,0,none⟩))∧wS.cell? ⟨bb,0,none⟩=some (G A n c)∧wS.cell? ⟨lg,0,none⟩=some (PT (some ⟨d,0,none⟩))) (first|with_reducible exact c0|with_reducible exact e0|with_reducible exact g0|fail)
  (first
   |(go_at_call 194;(with_reducible refine C1.out.mono ?_);rintro e w1 ⟨rfl,hb1⟩;have hb01:=(bR w.heap.size w).drew.trans hb1;have e0:w1.cell? ⟨bl,0,none⟩=some (PT (some ⟨lg,0,none⟩))∧w1.cell? ⟨bb,0,none⟩=some (G A n c)∧w1.cell? ⟨lg,0,none⟩=some (PT (some ⟨d,0,none⟩)):=⟨(hb1.cell hB.1).trans c0.1,(hb1.cell hB.2.1).trans c0.2.1,(hb1.cell hB.2.2).trans c0.2.2⟩;have C2:=HAP.out w1 (H.out.1.made hb01) (own_below H.out.2.2.1 hb01))
   |(go_at_call 276;(with_reducible refine C2.mono ?_);rintro e w2 ⟨rfl,hD2,hf2⟩;have g0:w2.cell? ⟨bl,0,none⟩=some (PT (some ⟨lg,0,none⟩))∧w2.cell? ⟨bb,0,none⟩=some (G A n c)∧w2.cell? ⟨lg,0,none⟩=some (PT (some ⟨d,0,none⟩)):=⟨by {have:=(hf2.blk _ _ _ (H.out.2.2.2.1.below hb01 hB.1) (by decide)).cell 0;simpa using this},by {have:=(hf2.blk _ _ _ (H.out.2.2.2.2.1.below hb01 hB.2.1) (by decide)).cell 0;simpa using this},by {have:=(hf2.blk _ _ _ (H.out.2.2.2.2.2.below hb01 hB.2.2) (by decide)).cell 0;simpa using this}⟩))
 all_goals
  have HE:=jH (aI hD2 ((Fr.of_below KD [mn] hb01 H.out.1.hi).trans (hf2.mono (by decide) (by simp))))
  clear C2 hb1 hb01 hD2 hf2
  go_wp2_with fail
  go_ret
  exact⟨rfl,HE.out.1,HE.out.2⟩
theorem lsync1_ok (base lg d mn ms size Q ops f1 f2 s V bl:Nat)(L:List Nat)(w:World)(hl:Blk w bl 171 #[PT (some ⟨lg,0,none⟩)])
  (hD:DiskAt w base d mn ms (diskL Q ops f1 f2 L s V))(hL:LogAt w base lg d size V 2 [1] false)(hne:f1≠f2)(hops:ops≤900000000000):
  Calls Pg 229 #[PT (some ⟨bl,0,none⟩)] w fun e w'=>e=rT (X Y 0)∧DiskAt w' base d mn ms (diskL Q (ops + 1) f1 f2 L L.length V)∧Fr KD [mn] base w w':=by
 obtain⟨hl0,A1,c1,hk,hko⟩:=id hL
 have c0:w.drew.cell? ⟨bl,0,none⟩=some (PT (some ⟨lg,0,none⟩))∧w.drew.cell? ⟨lg,0,none⟩=some (PT (some ⟨d,0,none⟩)):=⟨by have:=hl.cell 0;simpa using this,by have:=hk.cell 0;simpa using this⟩
 have hB:bl < w.heap.size∧lg < w.heap.size:=⟨hl.lt,hk.lt⟩
 have hLd:=hL.made (bR w.heap.size w).drew
 have C1:=jH (last_any base lg d size V 2 [1] false 1 w.drew hLd (by simp) rfl (by omega) (by omega))
 have HAP:=jH (fun W (hW:DiskAt W base d mn ms (diskL Q ops f1 f2 L s V))=>sync_any base d mn ms (diskL Q ops f1 f2 L s V) (nameS 1) W hW hops (okS_of_named (nameS_ok 1)))
 rw[syncP_ok rfl diskL_now diskL_file] at HAP
 dsimp only at HAP
 rw[diskL_sync hne] at HAP
 have H:=jH (aI hD (aI hl hk))
 clear hl hD hL hLd hk hko
 go_enter func229,ntmps229
 go_wp2_with fail
 go_region_held3 (fun wS=>wS.cell? ⟨bl,0,none⟩=some (PT (some ⟨lg,0,none⟩))∧wS.cell? ⟨lg,0,none⟩=some (PT (some ⟨d,0,none⟩))) (first|with_reducible exact c0|with_reducible exact e0|with_reducible exact g0|fail)
  (first
   |(go_at_call 194;(with_reducible refine C1.out.mono ?_);rintro e w1 ⟨rfl,hb1⟩;have hb01:=(bR w.heap.size w).drew.trans hb1;have e0:w1.cell? ⟨bl,0,none⟩=some (PT (some ⟨lg,0,none⟩))∧w1.cell? ⟨lg,0,none⟩=some (PT (some ⟨d,0,none⟩)):=⟨(hb1.cell hB.1).trans c0.1,(hb1.cell hB.2).trans c0.2⟩;have C2:=HAP.out w1 (H.out.1.made hb01))
   |(go_at_call 172;(with_reducible refine C2.mono ?_);rintro e w2 ⟨rfl,hD2,hf2⟩;have g0:w2.cell? ⟨bl,0,none⟩=some (PT (some ⟨lg,0,none⟩))∧w2.cell? ⟨lg,0,none⟩=some (PT (some ⟨d,0,none⟩)):=⟨by {have:=(hf2.blk _ _ _ (H.out.2.1.below hb01 hB.1) (by decide)).cell 0;simpa using this},by {have:=(hf2.blk _ _ _ (H.out.2.2.below hb01 hB.2) (by decide)).cell 0;simpa using this}⟩))
 all_goals
  have HE:=jH (aI hD2 ((Fr.of_below KD [mn] hb01 H.out.1.hi).trans (hf2.mono (by decide) (by simp))))
  clear C2 hb1 hb01 hD2 hf2
  go_wp2_with fail
  go_ret
  exact⟨rfl,HE.out.1,HE.out.2⟩
end
section
open Go.RowKit
theorem logappend_ok (base lg d mn ms size Q ops f1 f2 s V k:Nat)(L body:List Nat)(A:Option Addr)(n c B:Nat)(w:World)(hD:DiskAt w base d mn ms (diskL Q ops f1 f2 L s V))(hL:LogAt w base lg d size V 2 [1] false)(hne:f1≠f2)(hops:ops≤900000000000)
  (hk:k≤255)(hV:V≤255)(hn:n≤4096)(hr:Reads w B 1 A n (bv body))(hB:B≤w.heap.size)(ha:AllB body)(hfit:L.length=0∨L.length + (n + 16)≤size)(hQ:L.length + 26 + (n + 16)≤Q)(hf:n + 16 + L.length≤1048576):
  Calls Pg 213 #[PT (some ⟨lg,0,none⟩),X Y k,G A n c] w fun e w'=>e=rT (X Y 0)∧DiskAt w' base d mn ms (diskL Q (ops + 1) f1 f2 (L++frameB k V body) s V)∧Fr KD [mn] base w w':=by
 have H:=jH (aI hD hL)
 obtain⟨q,hq⟩:∃q,q=w.heap.size:=⟨_,rfl⟩
 have HQ:=jH hq
 have hb0:=(bR w.heap.size w).alloc (nR _) (cL #[PT (some ⟨lg,0,none⟩)] 171)
 have hx0:=Blk.new w 171 #[PT (some ⟨lg,0,none⟩)]
 have hs0:(w.alloc (cL #[PT (some ⟨lg,0,none⟩)] 171)).heap.size=q + 1:=by rw[hq];simp
 have CP:=jH (put_frame k V body A n c B _ hk hV hn (hr.alloc hB (cL #[PT (some ⟨lg,0,none⟩)] 171)) (by rw[hs0];omega) ha)
 obtain⟨hl0,A0,cc0,hlk,hlo⟩:=hL.made hb0
 obtain⟨-,-,c2⟩:=hlk.c3
 rw[←hq] at hb0 hx0
 have c0:=hx0.c1
 have hall:AllB (frameB k V body):=frameB_all k V ha
 have hfl:(frameB k V body).length=n + 16:=by have:=hr.length;rw[frameB_length];omega
 obtain⟨m,hm⟩:∃m,m=n + 16:=⟨_,rfl⟩
 rw[←hm] at CP hfl hfit hQ hf
 generalize frameB k V body=fb at *
 clear hD hL hr hlk hlo ha hm
 go_enter func213,ntmps213
 go_wp2_with fail
 rw[←hq]
 clear hq
 generalize w.alloc (cL #[PT (some ⟨lg,0,none⟩)] 171)=w0 at *
 refine CP.out.mono ?_
 rintro e w1 ⟨A1,c1,rfl,hown1,hb1⟩
 have hx1:=hx0.below hb1 (by omega)
 have hsz1:=hb1.size
 have hb01:=hb0.trans (hb1.mono (by omega))
 have HX:=jH (aI hx1 (aI hb01 (hs0▸hown1)))
 have d0:=hx1.c1
 clear hx1 hb01 hb0 hx0 c0 c2 hown1 CP
 have d1:∀o,(w1.alloc o).cell? ⟨q,0,none⟩=some (PT (some ⟨lg,0,none⟩)):=fun o=>by have:=(HX.out.1.alloc o).cell 0;simpa using this
 go_wp2_with fail
 have hx2:=((HX.out.1.alloc (cL #[G A1 m c1] 23)).alloc (cL #[.func (.func 228) #[PT (some ⟨lg,0,none⟩)] #[],.func (.func 331) #[] #[PT (some ⟨q,0,none⟩),PT (some ⟨w1.heap.size,0,none⟩)],.func (.func 334) #[] #[PT (some ⟨q,0,none⟩),PT (some ⟨w1.heap.size,0,none⟩)]] 71))
 have hn2:=(Blk.new w1 23 #[G A1 m c1]).alloc (cL #[.func (.func 228) #[PT (some ⟨lg,0,none⟩)] #[],.func (.func 331) #[] #[PT (some ⟨q,0,none⟩),PT (some ⟨w1.heap.size,0,none⟩)],.func (.func 334) #[] #[PT (some ⟨q,0,none⟩),PT (some ⟨w1.heap.size,0,none⟩)]] 71)
 have hg2:=Blk.new (w1.alloc (cL #[G A1 m c1] 23)) 71 #[.func (.func 228) #[PT (some ⟨lg,0,none⟩)] #[],.func (.func 331) #[] #[PT (some ⟨q,0,none⟩),PT (some ⟨w1.heap.size,0,none⟩)],.func (.func 334) #[] #[PT (some ⟨q,0,none⟩),PT (some ⟨w1.heap.size,0,none⟩)]]
 have hbl12:=(((bR w1.heap.size w1).alloc (nR _) (cL #[G A1 m c1] 23)).alloc (by simp) (cL #[.func (.func 228) #[PT (some ⟨lg,0,none⟩)] #[],.func (.func 331) #[] #[PT (some ⟨q,0,none⟩),PT (some ⟨w1.heap.size,0,none⟩)],.func (.func 334) #[] #[PT (some ⟨q,0,none⟩),PT (some ⟨w1.heap.size,0,none⟩)]] 71))
 have hown2:=own_below HX.out.2.2 hbl12
 have hbl2:=HX.out.2.1.trans (hbl12.mono (by omega))
 rw[show (w1.alloc (cL #[G A1 m c1] 23)).heap.size=w1.heap.size + 1 by simp] at hg2
 generalize (w1.alloc (cL #[G A1 m c1] 23)).alloc (cL #[.func (.func 228) #[PT (some ⟨lg,0,none⟩)] #[],.func (.func 331) #[] #[PT (some ⟨q,0,none⟩),PT (some ⟨w1.heap.size,0,none⟩)],.func (.func 334) #[] #[PT (some ⟨q,0,none⟩),PT (some ⟨w1.heap.size,0,none⟩)]] 71)=w2 at *
 generalize w1.heap.size=k1 at *
 have hD2:DiskAt w2 base d mn ms (diskL Q ops f1 f2 L s V):=H.out.1.made (HQ.out▸hbl2)
 have hL2:LogAt w2 base lg d size V 2 [1] false:=H.out.2.made (HQ.out▸hbl2)
 have hf02:Fr KD [mn] base w w2:=Fr.of_below _ _ (HQ.out▸hbl2) H.out.1.hi
 refine(all_ok2 [(228,#[PT (some ⟨lg,0,none⟩)],#[]),(331,#[],#[PT (some ⟨q,0,none⟩),PT (some ⟨k1,0,none⟩)]),(334,#[],#[PT (some ⟨q,0,none⟩),PT (some ⟨k1,0,none⟩)])] (some ⟨k1 + 1,0,none⟩) 3 3 (k1 + 2)
  (fun i W=>Fr KD [mn] base w2 W∧match i with
   |0=>DiskAt W base d mn ms (diskL Q ops f1 f2 L s V)∧W.ownsRow (q + 1) 5 1 (G A1 m c1) m (bv fb)
   |1=>DiskAt W base d mn ms (diskL Q ops f1 f2 L s V)∧W.ownsRow (q + 1) 5 1 (G A1 m c1) m (bv fb)
   |2=>DiskAt W base d mn ms (diskL Q ops f1 f2 L s V)∧W.ownsRow (q + 1) 5 1 (G A1 m c1) m (bv fb)
   |_=>DiskAt W base d mn ms (diskL Q (ops + 1) f1 f2 (L++fb) s V)) w2 rfl (by omega)
  (fun p hp=>by
   rcases List.mem_cons.1 hp with rfl|hp
   ·exact enters_of func228 (by kernel_rfl) rfl
   ·rcases List.mem_cons.1 hp with rfl|hp
    ·exact enters_of func331 (by kernel_rfl) rfl
    ·rcases List.mem_cons.1 hp with rfl|hp
     ·exact enters_of func334 (by kernel_rfl) rfl
     ·cases hp)
  (fun i W hW=>reads_row (hW.1.blk _ _ _ hg2 (by decide)) rfl) ⟨Fr.refl _ _ _ _,hD2,hown2⟩ ?_).mono ?_
 ·intro i hi W hW
  have hxW:=hW.1.blk _ _ _ hx2 (by decide)
  have hnW:=hW.1.blk _ _ _ hn2 (by decide)
  have hLW:=hL2.fr hW.1 (by decide) (by decide)
  match i,hi,hW with
  |0,_,hW=>
   show Calls _ _ #[PT (some ⟨lg,0,none⟩)] _ _
   refine(settle_ok base lg d size V 2 [1] W hLW).mono ?_
   rintro e w' ⟨rfl,rfl⟩
   exact⟨rfl,hW.1,hW.2.1,hW.2.2⟩
  |1,_,hW=>
   show Calls _ _ #[PT (some ⟨q,0,none⟩),PT (some ⟨k1,0,none⟩)] _ _
   refine(lappend1_ok base lg d mn ms size Q ops f1 f2 s V q k1 L A1 m c1 W hxW hnW hW.2.1 hLW (by omega) (by omega) hfit).mono ?_
   rintro e w' ⟨rfl,hb⟩
   exact⟨rfl,hW.1.made hb (DiskAt.hi hW.2.1),DiskAt.made hW.2.1 hb,own_below hW.2.2 hb⟩
  |2,_,hW=>
   show Calls _ _ #[PT (some ⟨q,0,none⟩),PT (some ⟨k1,0,none⟩)] _ _
   refine(lappend2_ok base (q + 1) lg d mn ms size Q ops f1 f2 s V q k1 L A1 m c1 fb W hxW hnW hW.2.1 hLW hne hops hW.2.2 hall hQ hf).mono ?_
   rintro e w' ⟨rfl,hD,hf⟩
   exact⟨rfl,hW.1.trans hf,hD⟩
 ·rintro e w3 ⟨rfl,hfw,hD3⟩
  have HE:=jH (aI hD3 (hf02.trans hfw))
  clear hD3 hfw hx2 hn2 hg2 hbl2 hD2 hf02 hown2 hbl12 hL2
  go_wp2_with fail
  go_ret
  exact⟨rfl,HE.out.1,HE.out.2⟩
theorem logsync_ok (base lg d mn ms size Q ops f1 f2 s V:Nat)(L:List Nat)(w:World)(hD:DiskAt w base d mn ms (diskL Q ops f1 f2 L s V))(hL:LogAt w base lg d size V 2 [1] false)(hne:f1≠f2)(hops:ops≤900000000000):
  Calls Pg 121 #[PT (some ⟨lg,0,none⟩)] w fun e w'=>e=rT (X Y 0)∧DiskAt w' base d mn ms (diskL Q (ops + 1) f1 f2 L L.length V)∧Fr KD [mn] base w w':=by
 have H:=jH (aI hD hL)
 obtain⟨q,hq⟩:∃q,q=w.heap.size:=⟨_,rfl⟩
 have HQ:=jH hq
 have hx2:=(Blk.new w 171 #[PT (some ⟨lg,0,none⟩)]).alloc (cL #[.func (.func 228) #[PT (some ⟨lg,0,none⟩)] #[],.func (.func 229) #[] #[PT (some ⟨q,0,none⟩)]] 71)
 have hg2:=Blk.new (w.alloc (cL #[PT (some ⟨lg,0,none⟩)] 171)) 71 #[.func (.func 228) #[PT (some ⟨lg,0,none⟩)] #[],.func (.func 229) #[] #[PT (some ⟨q,0,none⟩)]]
 have hbl2:=((bR w.heap.size w).alloc (nR _) (cL #[PT (some ⟨lg,0,none⟩)] 171)).alloc (by simp) (cL #[.func (.func 228) #[PT (some ⟨lg,0,none⟩)] #[],.func (.func 229) #[] #[PT (some ⟨q,0,none⟩)]] 71)
 rw[show (w.alloc (cL #[PT (some ⟨lg,0,none⟩)] 171)).heap.size=q + 1 by rw[hq];simp] at hg2
 rw[←hq] at hx2 hbl2
 clear hD hL
 go_enter func121,ntmps121
 go_wp2_with fail
 rw[←hq]
 clear hq
 generalize (w.alloc (cL #[PT (some ⟨lg,0,none⟩)] 171)).alloc (cL #[.func (.func 228) #[PT (some ⟨lg,0,none⟩)] #[],.func (.func 229) #[] #[PT (some ⟨q,0,none⟩)]] 71)=w2 at *
 have hD2:DiskAt w2 base d mn ms (diskL Q ops f1 f2 L s V):=H.out.1.made (HQ.out▸hbl2)
 have hL2:LogAt w2 base lg d size V 2 [1] false:=H.out.2.made (HQ.out▸hbl2)
 have hf02:Fr KD [mn] base w w2:=Fr.of_below _ _ (HQ.out▸hbl2) H.out.1.hi
 refine(all_ok2 [(228,#[PT (some ⟨lg,0,none⟩)],#[]),(229,#[],#[PT (some ⟨q,0,none⟩)])] (some ⟨q + 1,0,none⟩) 2 2 (q + 2)
  (fun i W=>Fr KD [mn] base w2 W∧match i with
   |0=>DiskAt W base d mn ms (diskL Q ops f1 f2 L s V)
   |1=>DiskAt W base d mn ms (diskL Q ops f1 f2 L s V)
   |_=>DiskAt W base d mn ms (diskL Q (ops + 1) f1 f2 L L.length V)) w2 rfl (by omega)
  (fun p hp=>by
   rcases List.mem_cons.1 hp with rfl|hp
   ·exact enters_of func228 (by kernel_rfl) rfl
   ·rcases List.mem_cons.1 hp with rfl|hp
    ·exact enters_of func229 (by kernel_rfl) rfl
    ·cases hp)
  (fun i W hW=>reads_row (hW.1.blk _ _ _ hg2 (by decide)) rfl) ⟨Fr.refl _ _ _ _,hD2⟩ ?_).mono ?_
 ·intro i hi W hW
  have hxW:=hW.1.blk _ _ _ hx2 (by decide)
  have hLW:=hL2.fr hW.1 (by decide) (by decide)
  match i,hi,hW with
  |0,_,hW=>
   show Calls _ _ #[PT (some ⟨lg,0,none⟩)] _ _
   refine(settle_ok base lg d size V 2 [1] W hLW).mono ?_
   rintro e w' ⟨rfl,rfl⟩
   exact⟨rfl,hW.1,hW.2⟩
  |1,_,hW=>
   show Calls _ _ #[PT (some ⟨q,0,none⟩)] _ _
   refine(lsync1_ok base lg d mn ms size Q ops f1 f2 s V q L W hxW hW.2 hLW hne hops).mono ?_
   rintro e w' ⟨rfl,hD,hf⟩
   exact⟨rfl,hW.1.trans hf,hD⟩
 ·rintro e w3 ⟨rfl,hfw,hD3⟩
  have HE:=jH (aI hD3 (hf02.trans hfw))
  clear hD3 hfw hx2 hg2 hbl2 hD2 hf02 hL2
  go_wp2_with fail
  go_ret
  exact⟨rfl,HE.out.1,HE.out.2⟩
structure Fl where
 k:Tu
 be:Nat
 gen:Nat
 seen:Nat
instance:DecidableEq Tu:=fun a b=>decidable_of_iff (a.src=b.src∧a.dst=b.dst∧a.proto=b.proto∧a.sport=b.sport∧a.dport=b.dport) (by
 obtain⟨a1,a2,a3,a4,a5⟩:=a
 obtain⟨b1,b2,b3,b4,b5⟩:=b
 simp)
instance:DecidableEq Fl:=fun a b=>decidable_of_iff (a.k=b.k∧a.be=b.be∧a.gen=b.gen∧a.seen=b.seen) (by
 obtain⟨a1,a2,a3,a4⟩:=a
 obtain⟨b1,b2,b3,b4⟩:=b
 simp)
def Fl.vals (f:Fl):Array Value:=#[X Z f.k.src,X Z f.k.dst,X Y f.k.proto,X Y f.k.sport,X Y f.k.dport,X Y f.be,X Y f.gen,X Y f.seen]
structure FlOk (f:Fl):Prop where
 k:TuOk f.k
 may:mayTu f.k=true
 be:f.be≤65535
 gen:f.gen≤1000000
 seen:f.seen≤1099511627776
def recC (kind:Int)(f:Fl)(gen:Int)(bs:Value):Array Value:=#[X Y kind,X Z f.k.src,X Z f.k.dst,X Y f.k.proto,X Y f.k.sport,X Y f.k.dport,X Y f.be,X Y f.gen,X Y f.seen,X Y gen,bs,X Y 0,X Y 0,X Y 0]
theorem recin_any (n m:Nat)(w:World):Calls Pg 323 #[X Y n,X Y m] w fun e w'=>e=rT (bL (decide (n≤m)))∧w=w':=by
 have d1:decide ((0:Int)≤(n:Int))=true:=decide_eq_true (by omega)
 go_enter func323,ntmps323
 go_wp2_with fail
 go_ret
 exact⟨rfl,rfl⟩
theorem rectime_any (n:Nat)(h:n≤1099511627776)(w:World):Calls Pg 324 #[X Y n] w fun e w'=>e=rT (bL true)∧w=w':=by
 have d1:decide ((0:Int)≤(n:Int))=true:=decide_eq_true (by omega)
 have d2:decide ((n:Int)≤1099511627776)=true:=decide_eq_true (by omega)
 go_enter func324,ntmps324
 go_wp2_with fail
 go_ret
 exact⟨rfl,rfl⟩
theorem recver_any (n:Nat)(h1:1≤n)(h:n≤3)(w:World):Calls Pg 310 #[X Y n] w fun e w'=>e=rT (bL true)∧w=w':=by
 have d1:decide ((1:Int)≤(n:Int))=true:=decide_eq_true (by omega)
 have d2:decide ((n:Int)≤3)=true:=decide_eq_true (by omega)
 go_enter func310,ntmps310
 go_wp2_with fail
 go_ret
 exact⟨rfl,rfl⟩
theorem recmay_put (f:Fl)(hf:FlOk f)(w:World):Calls Pg 210 #[.agg (recC 1 f 0 (G none 0 0))] w fun e w'=>e=rT (bL true)∧Below w.heap.size w w':=by
 obtain⟨⟨src,dst,proto,sport,dport⟩,be,gen,seen⟩:=f
 obtain⟨hk,hmay,hb,hg,hs⟩:=hf
 dsimp only[recC] at *
 have hbl:=((bR w.heap.size w).alloc (nR _) (cL #[X Y 1,X Z src,X Z dst,X Y proto,X Y sport,X Y dport,X Y be,X Y gen,X Y seen,X Y 0,G none 0 0,X Y 0,X Y 0,X Y 0] 119)).alloc (by simp) (cL #[X Z src,X Z dst,X Y proto,X Y sport,X Y dport,X Y be,X Y gen,X Y seen] 47)
 have hf2:=Blk.new (w.alloc (cL #[X Y 1,X Z src,X Z dst,X Y proto,X Y sport,X Y dport,X Y be,X Y gen,X Y seen,X Y 0,G none 0 0,X Y 0,X Y 0,X Y 0] 119)) 47 #[X Z src,X Z dst,X Y proto,X Y sport,X Y dport,X Y be,X Y gen,X Y seen]
 have CT:=jH (tupmay_any ⟨src,dst,proto,sport,dport⟩ ((w.alloc (cL #[X Y 1,X Z src,X Z dst,X Y proto,X Y sport,X Y dport,X Y be,X Y gen,X Y seen,X Y 0,G none 0 0,X Y 0,X Y 0,X Y 0] 119)).alloc (cL #[X Z src,X Z dst,X Y proto,X Y sport,X Y dport,X Y be,X Y gen,X Y seen] 47)))
 unfold Tu.vals at CT
 rw[hmay] at CT
 have C1:=jH (recin_any be 65535)
 have C2:=jH (recin_any gen 1000000)
 have C3:=jH (rectime_any seen hs)
 rw[decide_eq_true hb,show ((65535:Nat):Int)=65535 from rfl] at C1
 rw[decide_eq_true hg,show ((1000000:Nat):Int)=1000000 from rfl] at C2
 obtain⟨q,hq⟩:∃q,q=w.heap.size + 1:=⟨_,rfl⟩
 rw[show (w.alloc (cL #[X Y 1,X Z src,X Z dst,X Y proto,X Y sport,X Y dport,X Y be,X Y gen,X Y seen,X Y 0,G none 0 0,X Y 0,X Y 0,X Y 0] 119)).heap.size=q by rw[hq];simp] at hf2
 have HF:=jH (aI hbl hf2)
 clear hbl hf2
 go_enter func210,ntmps210
 go_wp2_with fail
 rw[←hq]
 clear hq
 generalize (w.alloc (cL #[X Y 1,X Z src,X Z dst,X Y proto,X Y sport,X Y dport,X Y be,X Y gen,X Y seen,X Y 0,G none 0 0,X Y 0,X Y 0,X Y 0] 119)).alloc (cL #[X Z src,X Z dst,X Y proto,X Y sport,X Y dport,X Y be,X Y gen,X Y seen] 47)=w0 at *
 refine CT.out.mono ?_
 rintro e w1 ⟨rfl,hb1⟩
 have hf1:=HF.out.2.below hb1 HF.out.2.lt
 obtain⟨-,-,-,-,-,c5,c6,c7⟩:=hf1.c8
 have HB:=jH (HF.out.1.trans (hb1.mono HF.out.1.size))
 clear hf1 hb1
 go_wp2_with fail
 refine(C1.out _).mono ?_
 rintro e w2 ⟨rfl,rfl⟩
 go_wp2_with fail
 refine(C2.out _).mono ?_
 rintro e w2 ⟨rfl,rfl⟩
 go_wp2_with fail
 refine(C3.out _).mono ?_
 rintro e w2 ⟨rfl,rfl⟩
 go_wp2_with fail
 go_ret
 exact⟨rfl,HB.out⟩
def recinZ (z m:Int):Bool:=decide (0≤z∧z≤m)
theorem recin_z (z m:Int)(w:World):Calls Pg 323 #[X Y z,X Y m] w fun e w'=>e=rT (bL (recinZ z m))∧w=w':=by
 by_cases h0:0≤z
 ·have d1:decide ((0:Int)≤z)=true:=decide_eq_true h0
  have HR:Hid (recinZ z m=decide (z≤m)):=by show _=_;unfold recinZ;simp[h0]
  go_enter func323,ntmps323
  go_wp2_with fail
  go_ret
  exact⟨by rw[HR.out];rfl,rfl⟩
 ·have d1:decide ((0:Int)≤z)=false:=decide_eq_false h0
  have HR:Hid (recinZ z m=false):=by show _=_;unfold recinZ;simp[h0]
  go_enter func323,ntmps323
  go_wp2_with fail
  go_ret
  exact⟨by rw[HR.out];rfl,rfl⟩
def beOk (b:Be):Bool:=recinZ b.id 65535&&decide (1≤b.weight∧b.weight≤10)
theorem recbackend_any (b:Be)(w:World):Calls Pg 327 #[aG #[X Y b.id,X Z b.addr,X Y b.weight]] w fun e w'=>e=rT (bL (beOk b))∧Below w.heap.size w w':=by
 obtain⟨id,addr,wt⟩:=b
 have hbl:=(bR w.heap.size w).alloc (nR _) (cL #[X Y id,X Z addr,X Y wt] 34)
 have C1:=jH (recin_z id 65535)
 have hB:beOk ⟨id,addr,wt⟩=(recinZ id 65535&&decide (1≤wt∧wt≤10)):=rfl
 generalize recinZ id 65535=r at *
 obtain⟨res,hres⟩:∃res,beOk ⟨id,addr,wt⟩=res:=⟨_,rfl⟩
 rw[hres] at hB⊢
 clear hres
 dsimp only
 cases r with
 |false=>
  have HR:Hid (res=false):=by show _=_;rw[hB];rfl
  clear hB
  go_enter func327,ntmps327
  go_wp2_with fail
  refine(C1.out _).mono ?_
  rintro e w1 ⟨rfl,rfl⟩
  go_wp2_with fail
  go_ret
  exact⟨by rw[HR.out];rfl,hbl⟩
 |true=>
  by_cases h1:1≤wt
  ·have d1:decide ((1:Int)≤wt)=true:=decide_eq_true h1
   have HR:Hid (res=decide (wt≤10)):=by show _=_;rw[hB];simp[h1]
   clear hB
   go_enter func327,ntmps327
   go_wp2_with fail
   refine(C1.out _).mono ?_
   rintro e w1 ⟨rfl,rfl⟩
   go_wp2_with fail
   go_ret
   exact⟨by rw[HR.out];rfl,hbl⟩
  ·have d1:decide ((1:Int)≤wt)=false:=decide_eq_false h1
   have HR:Hid (res=false):=by show _=_;rw[hB];simp[h1]
   clear hB
   go_enter func327,ntmps327
   go_wp2_with fail
   refine(C1.out _).mono ?_
   rintro e w1 ⟨rfl,rfl⟩
   go_wp2_with fail
   go_ret
   exact⟨by rw[HR.out];rfl,hbl⟩
theorem recmay1_any (b:Be)(w:World):Calls Pg 326 #[aG #[X Y b.id,X Z b.addr,X Y b.weight]] w fun e w'=>e=rT (bL (!beOk b))∧Below w.heap.size w w':=by
 have hbl:=(bR w.heap.size w).alloc (nR _) (cL #[X Y b.id,X Z b.addr,X Y b.weight] 34)
 have C1:=jH (recbackend_any b)
 generalize beOk b=r at *
 go_enter func326,ntmps326
 go_wp2_with fail
 refine(C1.out _).mono ?_
 rintro e w1 ⟨rfl,hb1⟩
 go_wp2_with fail
 go_ret
 exact⟨rfl,hbl.trans (hb1.mono hbl.size)⟩
theorem contains_no (A:Option Addr)(n c B:Nat)(l:List Be)(w:World)(hr:Reads w B 3 A n (bks l))(hB:B≤w.heap.size)(hn:n≤46912496118442)(hok:∀b∈l,beOk b=true):
  Calls Pg 325 #[G A n c,.func (.func 326) #[] #[]] w fun e w'=>e=rT (bL false)∧Below w.heap.size w w':=by
 have CI:=jH (idx_any 326 #[] (fun b=>!beOk b) (enters_of func326 (by kernel_rfl) rfl) A n c B l w hr hB hn (fun W x hW=>(recmay1_any x W).mono (by
  rintro e w' ⟨rfl,hb⟩
  exact⟨rfl,hW.trans (hb.mono hW.size)⟩)))
 rw[idxBe_no (fun j hj=>by simp[hok l[j] (List.getElem_mem hj)])] at CI
 go_enter func325,ntmps325
 go_wp2_with fail
 refine CI.out.mono ?_
 rintro e w1 ⟨rfl,hb1⟩
 go_wp2_with fail
 go_ret
 exact⟨rfl,hb1⟩
def recD (k:Tu):Array Value:=#[X Y 2,X Z k.src,X Z k.dst,X Y k.proto,X Y k.sport,X Y k.dport,X Y 0,X Y 0,X Y 0,X Y 0,G none 0 0,X Y 0,X Y 0,X Y 0]
def recG (gen:Int)(bs:Value):Array Value:=#[X Y 3,X Z 0,X Z 0,X Y 0,X Y 0,X Y 0,X Y 0,X Y 0,X Y 0,X Y gen,bs,X Y 0,X Y 0,X Y 0]
theorem recmay_del (k:Tu)(hmay:mayTu k=true)(w:World):Calls Pg 210 #[.agg (recD k)] w fun e w'=>e=rT (bL true)∧Below w.heap.size w w':=by
 have hbl:=(bR w.heap.size w).alloc (nR _) (cL (recD k) 119)
 have CT:=jH (tupmay_any k)
 rw[hmay] at CT
 unfold Tu.vals at CT
 unfold recD at *
 go_enter func210,ntmps210
 go_wp2_with fail
 refine(CT.out _).mono ?_
 rintro e w1 ⟨rfl,hb1⟩
 have HB:=jH (hbl.trans (hb1.mono hbl.size))
 clear hbl hb1
 go_wp2_with fail
 go_ret
 exact⟨rfl,HB.out⟩
theorem recmay_gen (gen:Nat)(hgen:gen≤1000000)(A:Option Addr)(n c B:Nat)(l:List Be)(w:World)(hr:Reads w B 3 A n (bks l))(hB:B≤w.heap.size)(hn:n≤16)(hok:∀b∈l,beOk b=true):
  Calls Pg 210 #[.agg (recG (gen:Int) (G A n c))] w fun e w'=>e=rT (bL true)∧Below w.heap.size w w':=by
 have hbl:=(bR w.heap.size w).alloc (nR _) (cL (recG (gen:Int) (G A n c)) 119)
 have CC:=jH (contains_no A n c B l _ (hr.alloc hB (cL (recG (gen:Int) (G A n c)) 119)) (nT hB hbl.size) (by omega) hok)
 have C1:=jH (recin_any gen 1000000)
 rw[decide_eq_true hgen,show ((1000000:Nat):Int)=1000000 from rfl] at C1
 have d1:decide ((n:Int)≤16)=true:=decide_eq_true (by omega)
 unfold recG at *
 clear hr hok
 go_enter func210,ntmps210
 go_wp2_with fail
 refine(C1.out _).mono ?_
 rintro e w1 ⟨rfl,rfl⟩
 go_wp2_with fail
 refine CC.out.mono ?_
 rintro e w1 ⟨rfl,hb1⟩
 have HB:=jH (hbl.trans (hb1.mono hbl.size))
 clear hbl hb1
 go_wp2_with fail
 go_ret
 exact⟨rfl,HB.out⟩
theorem blk_mid (w:World)(a c:Obj)(t:TypeId)(cs:Array Value):Blk (((w.alloc a).alloc (.cells cs t)).alloc c) (w.heap.size + 1) t cs:=by
 have h:=(Blk.new (w.alloc a) t cs).alloc c
 rw[show (w.alloc a).heap.size=w.heap.size + 1 by simp] at h
 exact h
theorem below_three (w:World)(a b c:Obj):Below w.heap.size w (((w.alloc a).alloc b).alloc c):=(((bR w.heap.size w).alloc (nR _) a).alloc (by simp) b).alloc (by simp;omega) c
theorem infoRec:(Pg.info? 119).map (·.size)=some 14:=by kernel_rfl
theorem recplain_put (f:Fl)(w:World):Calls Pg 335 #[.agg (recC 1 f 0 (G none 0 0))] w fun e w'=>e=rT (.agg (recC 1 f 0 (G none 0 0)))∧Below w.heap.size w w':=by
 obtain⟨⟨src,dst,proto,sport,dport⟩,be,gen,seen⟩:=f
 dsimp only[recC] at *
 go_enter func335,ntmps335
 go_wp2_with fail
 refine bodyPost_ret (results_cell_row rfl _ _ (w.heap.size + 1) 119 #[X Y 1,X Z src,X Z dst,X Y proto,X Y sport,X Y dport,X Y be,X Y gen,X Y seen,X Y 0,G none 0 0,X Y 0,X Y 0,X Y 0] (0,0) _ rfl (blk_mid w _ _ _ _) underlying119 rfl infoRec) rfl ?_
 exact⟨rfl,below_three w _ _ _⟩
theorem recplain_del (k:Tu)(w:World):Calls Pg 335 #[.agg (recD k)] w fun e w'=>e=rT (.agg (recD k))∧Below w.heap.size w w':=by
 obtain⟨src,dst,proto,sport,dport⟩:=k
 dsimp only[recD] at *
 go_enter func335,ntmps335
 go_wp2_with fail
 refine bodyPost_ret (results_cell_row rfl _ _ (w.heap.size + 1) 119 #[X Y 2,X Z src,X Z dst,X Y proto,X Y sport,X Y dport,X Y 0,X Y 0,X Y 0,X Y 0,G none 0 0,X Y 0,X Y 0,X Y 0] (0,0) _ rfl (blk_mid w _ _ _ _) underlying119 rfl infoRec) rfl ?_
 exact⟨rfl,below_three w _ _ _⟩
theorem own_setRow {w:World}{base n size g:Nat}{e t:TypeId}{v:Value}{xs:List Value}{cs:Array Value}(h:w.ownsRow base e size v n xs)(hb:Blk w g t cs)(hne:e≠t)(cs':Array Value):(w.setRow g cs').ownsRow base e size v n xs:=by
 refine⟨h.1,?_⟩
 rcases h.2 with hn|⟨k,cap,cur,rfl,hk,hh,rest⟩
 ·exact .inl hn
 ·refine .inr ⟨k,cap,cur,rfl,hk,?_,rest⟩
  have:k≠g:=fun e1=>by
   subst e1
   unfold Blk at hb
   rw[hh] at hb
   injection hb with hb
   injection hb with _ he
   exact hne he
  rw[setRow_other w g k cs' this]
  exact hh
theorem recplain_gen (gen:Int)(A:Option Addr)(n c B:Nat)(l:List Be)(w:World)(hr:Reads w B 3 A n (bks l))(hB:B≤w.heap.size)(hn:n≤1000)(hnil:A=none→c=0):
  Calls Pg 335 #[.agg (recG gen (G A n c))] w fun e w'=>∃A' c',e=rT (.agg (recG gen (G A' n c')))∧w'.ownsRow w.heap.size 34 3 (G A' n c') n (bks l)∧Below w.heap.size w w':=by
 unfold recG
 have hb3:=below_three w (cL #[X Y 3,X Z 0,X Z 0,X Y 0,X Y 0,X Y 0,X Y 0,X Y 0,X Y 0,X Y gen,G A n c,X Y 0,X Y 0,X Y 0] 119) (cL #[X Y 0,X Z 0,X Z 0,X Y 0,X Y 0,X Y 0,X Y 0,X Y 0,X Y 0,X Y 0,G none 0 0,X Y 0,X Y 0,X Y 0] 119) (cL #[X Y 3,X Z 0,X Z 0,X Y 0,X Y 0,X Y 0,X Y 0,X Y 0,X Y 0,X Y 0,G none 0 0,X Y 0,X Y 0,X Y 0] 119)
 have k1:=((Blk.new w 119 #[X Y 3,X Z 0,X Z 0,X Y 0,X Y 0,X Y 0,X Y 0,X Y 0,X Y 0,X Y gen,G A n c,X Y 0,X Y 0,X Y 0]).alloc (cL #[X Y 0,X Z 0,X Z 0,X Y 0,X Y 0,X Y 0,X Y 0,X Y 0,X Y 0,X Y 0,G none 0 0,X Y 0,X Y 0,X Y 0] 119)).alloc (cL #[X Y 3,X Z 0,X Z 0,X Y 0,X Y 0,X Y 0,X Y 0,X Y 0,X Y 0,X Y 0,G none 0 0,X Y 0,X Y 0,X Y 0] 119)
 have k2:=blk_mid w (cL #[X Y 3,X Z 0,X Z 0,X Y 0,X Y 0,X Y 0,X Y 0,X Y 0,X Y 0,X Y gen,G A n c,X Y 0,X Y 0,X Y 0] 119) (cL #[X Y 3,X Z 0,X Z 0,X Y 0,X Y 0,X Y 0,X Y 0,X Y 0,X Y 0,X Y 0,G none 0 0,X Y 0,X Y 0,X Y 0] 119) 119 #[X Y 0,X Z 0,X Z 0,X Y 0,X Y 0,X Y 0,X Y 0,X Y 0,X Y 0,X Y 0,G none 0 0,X Y 0,X Y 0,X Y 0]
 have k3:=Blk.new ((w.alloc (cL #[X Y 3,X Z 0,X Z 0,X Y 0,X Y 0,X Y 0,X Y 0,X Y 0,X Y 0,X Y gen,G A n c,X Y 0,X Y 0,X Y 0] 119)).alloc (cL #[X Y 0,X Z 0,X Z 0,X Y 0,X Y 0,X Y 0,X Y 0,X Y 0,X Y 0,X Y 0,G none 0 0,X Y 0,X Y 0,X Y 0] 119)) 119 #[X Y 3,X Z 0,X Z 0,X Y 0,X Y 0,X Y 0,X Y 0,X Y 0,X Y 0,X Y 0,G none 0 0,X Y 0,X Y 0,X Y 0]
 rw[show ((w.alloc (cL #[X Y 3,X Z 0,X Z 0,X Y 0,X Y 0,X Y 0,X Y 0,X Y 0,X Y 0,X Y gen,G A n c,X Y 0,X Y 0,X Y 0] 119)).alloc (cL #[X Y 0,X Z 0,X Z 0,X Y 0,X Y 0,X Y 0,X Y 0,X Y 0,X Y 0,X Y 0,G none 0 0,X Y 0,X Y 0,X Y 0] 119)).heap.size=w.heap.size + 1 + 1 by simp] at k3
 have hr3:=hr.below (hb3.mono hB)
 have hsz:(((w.alloc (cL #[X Y 3,X Z 0,X Z 0,X Y 0,X Y 0,X Y 0,X Y 0,X Y 0,X Y 0,X Y gen,G A n c,X Y 0,X Y 0,X Y 0] 119)).alloc (cL #[X Y 0,X Z 0,X Z 0,X Y 0,X Y 0,X Y 0,X Y 0,X Y 0,X Y 0,X Y 0,G none 0 0,X Y 0,X Y 0,X Y 0] 119)).alloc (cL #[X Y 3,X Z 0,X Z 0,X Y 0,X Y 0,X Y 0,X Y 0,X Y 0,X Y 0,X Y 0,G none 0 0,X Y 0,X Y 0,X Y 0] 119)).heap.size=w.heap.size + 3:=by simp
 obtain⟨q,hq⟩:∃q,q=w.heap.size:=⟨_,rfl⟩
 have HQ:=jH hq
 clear hr
 go_enter func335,ntmps335
 go_wp2_with fail
 rw[←hq] at k1 k2 k3 hsz⊢
 clear hq
 generalize ((w.alloc (cL #[X Y 3,X Z 0,X Z 0,X Y 0,X Y 0,X Y 0,X Y 0,X Y 0,X Y 0,X Y gen,G A n c,X Y 0,X Y 0,X Y 0] 119)).alloc (cL #[X Y 0,X Z 0,X Z 0,X Y 0,X Y 0,X Y 0,X Y 0,X Y 0,X Y 0,X Y 0,G none 0 0,X Y 0,X Y 0,X Y 0] 119)).alloc (cL #[X Y 3,X Z 0,X Z 0,X Y 0,X Y 0,X Y 0,X Y 0,X Y 0,X Y 0,X Y 0,G none 0 0,X Y 0,X Y 0,X Y 0] 119)=W at *
 have CC:=jH (clonebe_any A n c B l W.drew hr3 (by show B≤W.heap.size;have:=HQ.out;omega) (by omega) hnil)
 have c0:W.drew.cell? ⟨q,9,none⟩=some (X Y gen)∧W.drew.cell? ⟨q,10,none⟩=some (G A n c):=⟨by have:=k1.cell 9;simpa using this,by have:=k1.cell 10;simpa using this⟩
 have H:=jH (aI k1 (aI k2 (aI k3 (aI hb3 hr3))))
 clear k1 k2 k3 hb3 hr3
 go_region_held3 (fun wS=>wS.cell? ⟨q,9,none⟩=some (X Y gen)∧wS.cell? ⟨q,10,none⟩=some (G A n c)) (first|with_reducible exact c0|with_reducible exact e0|with_reducible exact g0 _|with_reducible exact g1 _ _|fail)
  (first
   |(go_at_call 21;(with_reducible refine CC.out.mono ?_);rintro e w1 ⟨A1,c1,rfl,hown1,hb1⟩;have j1:=H.out.1.drew.below hb1 H.out.1.lt;have j3:=H.out.2.2.1.drew.below hb1 H.out.2.2.1.lt;have e0:w1.cell? ⟨q,9,none⟩=some (X Y gen)∧w1.cell? ⟨q,10,none⟩=some (G A n c):=⟨by {have:=j1.cell 9;simpa using this},by {have:=j1.cell 10;simpa using this}⟩;have g0:∀v,(w1.setCell ⟨q + 1 + 1,9,none⟩ v).cell? ⟨q,9,none⟩=some (X Y gen)∧(w1.setCell ⟨q + 1 + 1,9,none⟩ v).cell? ⟨q,10,none⟩=some (G A n c):=fun v=>⟨by {have:=(j1.far (p:=⟨q + 1 + 1,9,none⟩) (by simp;omega) v).cell 9;simpa using this},by {have:=(j1.far (p:=⟨q + 1 + 1,9,none⟩) (by simp;omega) v).cell 10;simpa using this}⟩;have g1:∀v u,((w1.setCell ⟨q + 1 + 1,9,none⟩ v).setCell ⟨q + 1 + 1,10,none⟩ u).cell? ⟨q,9,none⟩=some (X Y gen)∧((w1.setCell ⟨q + 1 + 1,9,none⟩ v).setCell ⟨q + 1 + 1,10,none⟩ u).cell? ⟨q,10,none⟩=some (G A n c):=fun v u=>⟨by {have:=((j1.far (p:=⟨q + 1 + 1,9,none⟩) (by simp;omega) v).far (p:=⟨q + 1 + 1,10,none⟩) (by simp;omega) u).cell 9;simpa using this},by {have:=((j1.far (p:=⟨q + 1 + 1,9,none⟩) (by simp;omega) v).far (p:=⟨q + 1 + 1,10,none⟩) (by simp;omega) u).cell 10;simpa using this}⟩;have s9:w1.cell? ⟨q + 1 + 1,9,none⟩=some (X Y 0):=by {have:=j3.cell 9;simpa using this};have z9:=j3.frozen 9;have s10:∀v,(w1.setCell ⟨q + 1 + 1,9,none⟩ v).cell? ⟨q + 1 + 1,10,none⟩=some (G none 0 0):=fun v=>by {have:=(j3.set_ 9 v).cell 10;simpa using this};have z10:∀v,(w1.setCell ⟨q + 1 + 1,9,none⟩ v).frozen? ⟨q + 1 + 1,10,none⟩=false:=fun v=>(j3.set_ 9 v).frozen 10;have hl3:=j3.lt;have hl4:∀v,q + 1 + 1 < (w1.setCell ⟨q + 1 + 1,9,none⟩ v).heap.size:=fun v=>(j3.set_ 9 v).lt))
 all_goals
  obtain⟨k1,k2,k3,hb3,hr3⟩:=H.out
  have j2:=k2.drew.below hb1 k2.lt
  have m3:=(j3.set_ 9 (X Y gen)).set_ 10 (G A1 n c1)
  have m2:=(j2.far (p:=⟨q + 1 + 1,9,none⟩) (by simp) (X Y gen)).far (p:=⟨q + 1 + 1,10,none⟩) (by simp) (G A1 n c1)
  have mo:=own_set_far (own_set_far hown1 j3 (by decide) 9 (X Y gen)) (j3.set_ 9 (X Y gen)) (by decide) 10 (G A1 n c1)
  have mb:Below q w ((w1.setCell ⟨q + 1 + 1,9,none⟩ (X Y gen)).setCell ⟨q + 1 + 1,10,none⟩ (G A1 n c1)):=((((HQ.out▸hb3:Below q w W)).drew.trans (hb1.mono (by show q≤W.heap.size;omega))).setCell (p:=⟨q + 1 + 1,9,none⟩) (by simp;omega) _).setCell (p:=⟨q + 1 + 1,10,none⟩) (by simp;omega) _
  generalize (w1.setCell ⟨q + 1 + 1,9,none⟩ (X Y gen)).setCell ⟨q + 1 + 1,10,none⟩ (G A1 n c1)=W4 at *
  have hw:w.heap.size≤W.heap.size:=by have:=HQ.out;omega
  have HE:=jH (aI m2 (aI (ownsRow_mono mo (show w.heap.size≤W.drew.heap.size from hw)) mb))
  simp only[Exit.inBlock,Exit.then]
  refine(‹∀(a:Act) (w:World),Code.wp _ _ _ a w→_›:_) _ _ ?_
  apply wp_seq_k
  intro K3 hK3
  apply wp_region_lit
  refine wpList_load_row rfl _ _ rfl (q + 1 + 1) rfl 119 #[X Y 3,X Z 0,X Z 0,X Y 0,X Y 0,X Y 0,X Y 0,X Y 0,X Y 0,X Y gen,G A1 n c1,X Y 0,X Y 0,X Y 0] (0,0) _ m3 underlying119 rfl infoRec ?_
  refine wpList_store_row rfl _ _ _ rfl (q + 1) #[X Y 3,X Z 0,X Z 0,X Y 0,X Y 0,X Y 0,X Y 0,X Y 0,X Y 0,X Y gen,G A1 n c1,X Y 0,X Y 0,X Y 0] rfl rfl 119 #[X Y 0,X Z 0,X Z 0,X Y 0,X Y 0,X Y 0,X Y 0,X Y 0,X Y 0,X Y 0,G none 0 0,X Y 0,X Y 0,X Y 0] m2 infoRec rfl (by simp[Value.oneCell']) ?_
  apply wpList_nil
  refine hK3 _ _ ?_
  have hres:=setRow_heap W4 (q + 1) _ #[X Y 3,X Z 0,X Z 0,X Y 0,X Y 0,X Y 0,X Y 0,X Y 0,X Y 0,X Y gen,G A1 n c1,X Y 0,X Y 0,X Y 0] _ _ m2
  have hbres:=below_setRow (B:=q) (g:=q + 1) HE.out.2.2 (by omega) #[X Y 3,X Z 0,X Z 0,X Y 0,X Y 0,X Y 0,X Y 0,X Y 0,X Y 0,X Y gen,G A1 n c1,X Y 0,X Y 0,X Y 0]
  have hores:(W4.setRow (q + 1) #[X Y 3,X Z 0,X Z 0,X Y 0,X Y 0,X Y 0,X Y 0,X Y 0,X Y 0,X Y gen,G A1 n c1,X Y 0,X Y 0,X Y 0]).ownsRow w.heap.size 34 3 (G A1 n c1) n (bks l):=own_setRow HE.out.2.1 m2 (by decide) _
  go_wp2_with fail
  refine bodyPost_ret (results_cell_row rfl _ _ (q + 1) 119 #[X Y 3,X Z 0,X Z 0,X Y 0,X Y 0,X Y 0,X Y 0,X Y 0,X Y 0,X Y gen,G A1 n c1,X Y 0,X Y 0,X Y 0] (0,0) _ rfl hres underlying119 rfl infoRec) rfl ?_
  exact⟨A1,c1,rfl,hores,HQ.out▸hbres⟩
theorem recin_put (f:Fl)(w:World):Calls Pg 214 #[.agg (recC 1 f 0 (G none 0 0)),X Y 3] w fun e w'=>e=rT (.agg (recC 1 f 0 (G none 0 0)))∧Below w.heap.size w w':=by
 have CP0:=recplain_put f
 obtain⟨⟨src,dst,proto,sport,dport⟩,be,gen,seen⟩:=f
 dsimp only[recC] at *
 have hb2:=((bR w.heap.size w).alloc (nR _) (cL #[X Y 1,X Z src,X Z dst,X Y proto,X Y sport,X Y dport,X Y be,X Y gen,X Y seen,X Y 0,G none 0 0,X Y 0,X Y 0,X Y 0] 119)).alloc (by simp) (cL #[X Y 0,X Z 0,X Z 0,X Y 0,X Y 0,X Y 0,X Y 0,X Y 0,X Y 0,X Y 0,G none 0 0,X Y 0,X Y 0,X Y 0] 119)
 have k2:=Blk.new (w.alloc (cL #[X Y 1,X Z src,X Z dst,X Y proto,X Y sport,X Y dport,X Y be,X Y gen,X Y seen,X Y 0,G none 0 0,X Y 0,X Y 0,X Y 0] 119)) 119 #[X Y 0,X Z 0,X Z 0,X Y 0,X Y 0,X Y 0,X Y 0,X Y 0,X Y 0,X Y 0,G none 0 0,X Y 0,X Y 0,X Y 0]
 rw[show (w.alloc (cL #[X Y 1,X Z src,X Z dst,X Y proto,X Y sport,X Y dport,X Y be,X Y gen,X Y seen,X Y 0,G none 0 0,X Y 0,X Y 0,X Y 0] 119)).heap.size=w.heap.size + 1 by simp] at k2
 have hsz:((w.alloc (cL #[X Y 1,X Z src,X Z dst,X Y proto,X Y sport,X Y dport,X Y be,X Y gen,X Y seen,X Y 0,G none 0 0,X Y 0,X Y 0,X Y 0] 119)).alloc (cL #[X Y 0,X Z 0,X Z 0,X Y 0,X Y 0,X Y 0,X Y 0,X Y 0,X Y 0,X Y 0,G none 0 0,X Y 0,X Y 0,X Y 0] 119)).heap.size=w.heap.size + 2:=by simp
 have CV:=jH (recver_any 3 (by omega) (by omega))
 rw[show ((3:Nat):Int)=3 from rfl] at CV
 have CP:=jH (CP0 ((w.alloc (cL #[X Y 1,X Z src,X Z dst,X Y proto,X Y sport,X Y dport,X Y be,X Y gen,X Y seen,X Y 0,G none 0 0,X Y 0,X Y 0,X Y 0] 119)).alloc (cL #[X Y 0,X Z 0,X Z 0,X Y 0,X Y 0,X Y 0,X Y 0,X Y 0,X Y 0,X Y 0,G none 0 0,X Y 0,X Y 0,X Y 0] 119)))
 clear CP0
 obtain⟨q,hq⟩:∃q,q=w.heap.size:=⟨_,rfl⟩
 have HQ:=jH hq
 go_enter func214,ntmps214
 go_wp2_with fail
 refine(CV.out _).mono ?_
 rintro e w1 ⟨rfl,rfl⟩
 go_wp2_with fail
 rw[←hq] at k2 hsz hb2⊢
 clear hq
 generalize (w.alloc (cL #[X Y 1,X Z src,X Z dst,X Y proto,X Y sport,X Y dport,X Y be,X Y gen,X Y seen,X Y 0,G none 0 0,X Y 0,X Y 0,X Y 0] 119)).alloc (cL #[X Y 0,X Z 0,X Z 0,X Y 0,X Y 0,X Y 0,X Y 0,X Y 0,X Y 0,X Y 0,G none 0 0,X Y 0,X Y 0,X Y 0] 119)=W at *
 have H:=jH (aI k2 hb2)
 clear k2 hb2 CV
 refine CP.out.mono ?_
 rintro e w1 ⟨rfl,hb1⟩
 have m4:=(H.out.1.below hb1 H.out.1.lt).alloc (cL #[X Y 1,X Z src,X Z dst,X Y proto,X Y sport,X Y dport,X Y be,X Y gen,X Y seen,X Y 0,G none 0 0,X Y 0,X Y 0,X Y 0] 119)
 have m5:=Blk.new w1 119 #[X Y 1,X Z src,X Z dst,X Y proto,X Y sport,X Y dport,X Y be,X Y gen,X Y seen,X Y 0,G none 0 0,X Y 0,X Y 0,X Y 0]
 have mb:Below q w (w1.alloc (cL #[X Y 1,X Z src,X Z dst,X Y proto,X Y sport,X Y dport,X Y be,X Y gen,X Y seen,X Y 0,G none 0 0,X Y 0,X Y 0,X Y 0] 119)):=(H.out.2.trans (hb1.mono (by omega))).trans ((bR w1.heap.size w1).alloc (nR _) (cL #[X Y 1,X Z src,X Z dst,X Y proto,X Y sport,X Y dport,X Y be,X Y gen,X Y seen,X Y 0,G none 0 0,X Y 0,X Y 0,X Y 0] 119) |>.mono (by have:=hb1.size;omega))
 skip
 have hqp:q + 1≠w1.heap.size:=by have:=hb1.size;omega
 have hd:decide ((3:Int) < 2)=false:=rfl
 have hd3:decide ((3:Int) < 3)=false:=rfl
 have HM:=jH (aI m4 (aI m5 mb))
 clear m4 m5 mb hb1 CP
 go_wp2_with fail
 have HM2:=HM
 generalize w1.alloc (cL #[X Y 1,X Z src,X Z dst,X Y proto,X Y sport,X Y dport,X Y be,X Y gen,X Y seen,X Y 0,G none 0 0,X Y 0,X Y 0,X Y 0] 119)=W1 at *
 generalize w1.heap.size=p at *
 go_loopw [34] (fun i wr=>∃k:Nat,k≤0∧i=X Y k∧wr=W1) (fun i _=>0 - (intOf i).toNat)
 case atStart=>exact⟨0,by omega,rfl,rfl⟩
 case round=>
  obtain⟨k,hk,rfl,rfl⟩:=hrel
  by_cases hkn:k < 0
  ·have e3:decide ((k:Int) < (0:Int))=true:=decide_eq_true (by omega)
   go_wp2_with fail
   go_roundw
   case rel=>exact⟨k + 1,by omega,by go_num,by first|rfl|trivial⟩
   case measure=>simp[intOf];omega
  ·have hkk:k=0:=by omega
   have e3:decide ((k:Int) < (0:Int))=false:=decide_eq_false (by omega)
   go_upto_region 14 with fail
   apply wp_region_lit
   refine wpList_load_row rfl _ _ rfl p rfl 119 #[X Y 1,X Z src,X Z dst,X Y proto,X Y sport,X Y dport,X Y be,X Y gen,X Y seen,X Y 0,G none 0 0,X Y 0,X Y 0,X Y 0] (0,0) _ HM.out.2.1 underlying119 rfl infoRec ?_
   refine wpList_store_row rfl _ _ _ rfl (q + 1) #[X Y 1,X Z src,X Z dst,X Y proto,X Y sport,X Y dport,X Y be,X Y gen,X Y seen,X Y 0,G none 0 0,X Y 0,X Y 0,X Y 0] rfl rfl 119 #[X Y 0,X Z 0,X Z 0,X Y 0,X Y 0,X Y 0,X Y 0,X Y 0,X Y 0,X Y 0,G none 0 0,X Y 0,X Y 0,X Y 0] HM.out.1 infoRec rfl (by simp[Value.oneCell']) ?_
   apply wpList_nil
   have hres:=setRow_heap wr (q + 1) _ #[X Y 1,X Z src,X Z dst,X Y proto,X Y sport,X Y dport,X Y be,X Y gen,X Y seen,X Y 0,G none 0 0,X Y 0,X Y 0,X Y 0] _ _ HM.out.1
   have hbres:=below_setRow (B:=q) (g:=q + 1) HM.out.2.2 (by omega) #[X Y 1,X Z src,X Z dst,X Y proto,X Y sport,X Y dport,X Y be,X Y gen,X Y seen,X Y 0,G none 0 0,X Y 0,X Y 0,X Y 0]
   go_wp2_with fail
   refine bodyPost_ret (results_cell_row rfl _ _ (q + 1) 119 #[X Y 1,X Z src,X Z dst,X Y proto,X Y sport,X Y dport,X Y be,X Y gen,X Y seen,X Y 0,G none 0 0,X Y 0,X Y 0,X Y 0] (0,0) _ rfl hres underlying119 rfl infoRec) rfl ?_
   exact⟨rfl,HQ.out▸hbres⟩
theorem recin_del (kk:Tu)(w:World):Calls Pg 214 #[.agg (recD kk),X Y 3] w fun e w'=>e=rT (.agg (recD kk))∧Below w.heap.size w w':=by
 have CP0:=recplain_del kk
 obtain⟨src,dst,proto,sport,dport⟩:=kk
 dsimp only[recD] at *
 have hb2:=((bR w.heap.size w).alloc (nR _) (cL #[X Y 2,X Z src,X Z dst,X Y proto,X Y sport,X Y dport,X Y 0,X Y 0,X Y 0,X Y 0,G none 0 0,X Y 0,X Y 0,X Y 0] 119)).alloc (by simp) (cL #[X Y 0,X Z 0,X Z 0,X Y 0,X Y 0,X Y 0,X Y 0,X Y 0,X Y 0,X Y 0,G none 0 0,X Y 0,X Y 0,X Y 0] 119)
 have k2:=Blk.new (w.alloc (cL #[X Y 2,X Z src,X Z dst,X Y proto,X Y sport,X Y dport,X Y 0,X Y 0,X Y 0,X Y 0,G none 0 0,X Y 0,X Y 0,X Y 0] 119)) 119 #[X Y 0,X Z 0,X Z 0,X Y 0,X Y 0,X Y 0,X Y 0,X Y 0,X Y 0,X Y 0,G none 0 0,X Y 0,X Y 0,X Y 0]
 rw[show (w.alloc (cL #[X Y 2,X Z src,X Z dst,X Y proto,X Y sport,X Y dport,X Y 0,X Y 0,X Y 0,X Y 0,G none 0 0,X Y 0,X Y 0,X Y 0] 119)).heap.size=w.heap.size + 1 by simp] at k2
 have hsz:((w.alloc (cL #[X Y 2,X Z src,X Z dst,X Y proto,X Y sport,X Y dport,X Y 0,X Y 0,X Y 0,X Y 0,G none 0 0,X Y 0,X Y 0,X Y 0] 119)).alloc (cL #[X Y 0,X Z 0,X Z 0,X Y 0,X Y 0,X Y 0,X Y 0,X Y 0,X Y 0,X Y 0,G none 0 0,X Y 0,X Y 0,X Y 0] 119)).heap.size=w.heap.size + 2:=by simp
 have CV:=jH (recver_any 3 (by omega) (by omega))
 rw[show ((3:Nat):Int)=3 from rfl] at CV
 have CP:=jH (CP0 ((w.alloc (cL #[X Y 2,X Z src,X Z dst,X Y proto,X Y sport,X Y dport,X Y 0,X Y 0,X Y 0,X Y 0,G none 0 0,X Y 0,X Y 0,X Y 0] 119)).alloc (cL #[X Y 0,X Z 0,X Z 0,X Y 0,X Y 0,X Y 0,X Y 0,X Y 0,X Y 0,X Y 0,G none 0 0,X Y 0,X Y 0,X Y 0] 119)))
 clear CP0
 obtain⟨q,hq⟩:∃q,q=w.heap.size:=⟨_,rfl⟩
 have HQ:=jH hq
 go_enter func214,ntmps214
 go_wp2_with fail
 refine(CV.out _).mono ?_
 rintro e w1 ⟨rfl,rfl⟩
 go_wp2_with fail
 rw[←hq] at k2 hsz hb2⊢
 clear hq
 generalize (w.alloc (cL #[X Y 2,X Z src,X Z dst,X Y proto,X Y sport,X Y dport,X Y 0,X Y 0,X Y 0,X Y 0,G none 0 0,X Y 0,X Y 0,X Y 0] 119)).alloc (cL #[X Y 0,X Z 0,X Z 0,X Y 0,X Y 0,X Y 0,X Y 0,X Y 0,X Y 0,X Y 0,G none 0 0,X Y 0,X Y 0,X Y 0] 119)=W at *
 have H:=jH (aI k2 hb2)
 clear k2 hb2 CV
 refine CP.out.mono ?_
 rintro e w1 ⟨rfl,hb1⟩
 have m4:=(H.out.1.below hb1 H.out.1.lt).alloc (cL #[X Y 2,X Z src,X Z dst,X Y proto,X Y sport,X Y dport,X Y 0,X Y 0,X Y 0,X Y 0,G none 0 0,X Y 0,X Y 0,X Y 0] 119)
 have m5:=Blk.new w1 119 #[X Y 2,X Z src,X Z dst,X Y proto,X Y sport,X Y dport,X Y 0,X Y 0,X Y 0,X Y 0,G none 0 0,X Y 0,X Y 0,X Y 0]
 have mb:Below q w (w1.alloc (cL #[X Y 2,X Z src,X Z dst,X Y proto,X Y sport,X Y dport,X Y 0,X Y 0,X Y 0,X Y 0,G none 0 0,X Y 0,X Y 0,X Y 0] 119)):=(H.out.2.trans (hb1.mono (by omega))).trans ((bR w1.heap.size w1).alloc (nR _) (cL #[X Y 2,X Z src,X Z dst,X Y proto,X Y sport,X Y dport,X Y 0,X Y 0,X Y 0,X Y 0,G none 0 0,X Y 0,X Y 0,X Y 0] 119) |>.mono (by have:=hb1.size;omega))
 skip
 have hqp:q + 1≠w1.heap.size:=by have:=hb1.size;omega
 have hd:decide ((3:Int) < 2)=false:=rfl
 have hd3:decide ((3:Int) < 3)=false:=rfl
 have HM:=jH (aI m4 (aI m5 mb))
 clear m4 m5 mb hb1 CP
 go_wp2_with fail
 have HM2:=HM
 generalize w1.alloc (cL #[X Y 2,X Z src,X Z dst,X Y proto,X Y sport,X Y dport,X Y 0,X Y 0,X Y 0,X Y 0,G none 0 0,X Y 0,X Y 0,X Y 0] 119)=W1 at *
 generalize w1.heap.size=p at *
 go_loopw [34] (fun i wr=>∃k:Nat,k≤0∧i=X Y k∧wr=W1) (fun i _=>0 - (intOf i).toNat)
 case atStart=>exact⟨0,by omega,rfl,rfl⟩
 case round=>
  obtain⟨k,hk,rfl,rfl⟩:=hrel
  by_cases hkn:k < 0
  ·have e3:decide ((k:Int) < (0:Int))=true:=decide_eq_true (by omega)
   go_wp2_with fail
   go_roundw
   case rel=>exact⟨k + 1,by omega,by go_num,by first|rfl|trivial⟩
   case measure=>simp[intOf];omega
  ·have hkk:k=0:=by omega
   have e3:decide ((k:Int) < (0:Int))=false:=decide_eq_false (by omega)
   go_upto_region 14 with fail
   apply wp_region_lit
   refine wpList_load_row rfl _ _ rfl p rfl 119 #[X Y 2,X Z src,X Z dst,X Y proto,X Y sport,X Y dport,X Y 0,X Y 0,X Y 0,X Y 0,G none 0 0,X Y 0,X Y 0,X Y 0] (0,0) _ HM.out.2.1 underlying119 rfl infoRec ?_
   refine wpList_store_row rfl _ _ _ rfl (q + 1) #[X Y 2,X Z src,X Z dst,X Y proto,X Y sport,X Y dport,X Y 0,X Y 0,X Y 0,X Y 0,G none 0 0,X Y 0,X Y 0,X Y 0] rfl rfl 119 #[X Y 0,X Z 0,X Z 0,X Y 0,X Y 0,X Y 0,X Y 0,X Y 0,X Y 0,X Y 0,G none 0 0,X Y 0,X Y 0,X Y 0] HM.out.1 infoRec rfl (by simp[Value.oneCell']) ?_
   apply wpList_nil
   have hres:=setRow_heap wr (q + 1) _ #[X Y 2,X Z src,X Z dst,X Y proto,X Y sport,X Y dport,X Y 0,X Y 0,X Y 0,X Y 0,G none 0 0,X Y 0,X Y 0,X Y 0] _ _ HM.out.1
   have hbres:=below_setRow (B:=q) (g:=q + 1) HM.out.2.2 (by omega) #[X Y 2,X Z src,X Z dst,X Y proto,X Y sport,X Y dport,X Y 0,X Y 0,X Y 0,X Y 0,G none 0 0,X Y 0,X Y 0,X Y 0]
   go_wp2_with fail
   refine bodyPost_ret (results_cell_row rfl _ _ (q + 1) 119 #[X Y 2,X Z src,X Z dst,X Y proto,X Y sport,X Y dport,X Y 0,X Y 0,X Y 0,X Y 0,G none 0 0,X Y 0,X Y 0,X Y 0] (0,0) _ rfl hres underlying119 rfl infoRec) rfl ?_
   exact⟨rfl,HQ.out▸hbres⟩
theorem recin_gen (gen:Int)(A:Option Addr)(n c B:Nat)(l:List Be)(w:World)(hr:Reads w B 3 A n (bks l))(hB:B≤w.heap.size)(hn:n≤1000)(hnil:A=none→c=0):
  Calls Pg 214 #[.agg (recG gen (G A n c)),X Y 3] w fun e w'=>∃A' c',e=rT (.agg (recG gen (G A' n c')))∧w'.ownsRow w.heap.size 34 3 (G A' n c') n (bks l)∧Below w.heap.size w w':=by
 unfold recG
 have hb2:=((bR w.heap.size w).alloc (nR _) (cL #[X Y 3,X Z 0,X Z 0,X Y 0,X Y 0,X Y 0,X Y 0,X Y 0,X Y 0,X Y gen,G A n c,X Y 0,X Y 0,X Y 0] 119)).alloc (by simp) (cL #[X Y 0,X Z 0,X Z 0,X Y 0,X Y 0,X Y 0,X Y 0,X Y 0,X Y 0,X Y 0,G none 0 0,X Y 0,X Y 0,X Y 0] 119)
 have k2:=Blk.new (w.alloc (cL #[X Y 3,X Z 0,X Z 0,X Y 0,X Y 0,X Y 0,X Y 0,X Y 0,X Y 0,X Y gen,G A n c,X Y 0,X Y 0,X Y 0] 119)) 119 #[X Y 0,X Z 0,X Z 0,X Y 0,X Y 0,X Y 0,X Y 0,X Y 0,X Y 0,X Y 0,G none 0 0,X Y 0,X Y 0,X Y 0]
 rw[show (w.alloc (cL #[X Y 3,X Z 0,X Z 0,X Y 0,X Y 0,X Y 0,X Y 0,X Y 0,X Y 0,X Y gen,G A n c,X Y 0,X Y 0,X Y 0] 119)).heap.size=w.heap.size + 1 by simp] at k2
 have hsz:((w.alloc (cL #[X Y 3,X Z 0,X Z 0,X Y 0,X Y 0,X Y 0,X Y 0,X Y 0,X Y 0,X Y gen,G A n c,X Y 0,X Y 0,X Y 0] 119)).alloc (cL #[X Y 0,X Z 0,X Z 0,X Y 0,X Y 0,X Y 0,X Y 0,X Y 0,X Y 0,X Y 0,G none 0 0,X Y 0,X Y 0,X Y 0] 119)).heap.size=w.heap.size + 2:=by simp
 have CV:=jH (recver_any 3 (by omega) (by omega))
 rw[show ((3:Nat):Int)=3 from rfl] at CV
 have CP:=jH (recplain_gen gen A n c B l ((w.alloc (cL #[X Y 3,X Z 0,X Z 0,X Y 0,X Y 0,X Y 0,X Y 0,X Y 0,X Y 0,X Y gen,G A n c,X Y 0,X Y 0,X Y 0] 119)).alloc (cL #[X Y 0,X Z 0,X Z 0,X Y 0,X Y 0,X Y 0,X Y 0,X Y 0,X Y 0,X Y 0,G none 0 0,X Y 0,X Y 0,X Y 0] 119)) (hr.below (hb2.mono hB)) (by rw[hsz];omega) hn hnil)
 unfold recG at CP
 clear hr
 obtain⟨q,hq⟩:∃q,q=w.heap.size:=⟨_,rfl⟩
 have HQ:=jH hq
 go_enter func214,ntmps214
 go_wp2_with fail
 refine(CV.out _).mono ?_
 rintro e w1 ⟨rfl,rfl⟩
 go_wp2_with fail
 rw[←hq] at k2 hsz hb2⊢
 clear hq
 generalize (w.alloc (cL #[X Y 3,X Z 0,X Z 0,X Y 0,X Y 0,X Y 0,X Y 0,X Y 0,X Y 0,X Y gen,G A n c,X Y 0,X Y 0,X Y 0] 119)).alloc (cL #[X Y 0,X Z 0,X Z 0,X Y 0,X Y 0,X Y 0,X Y 0,X Y 0,X Y 0,X Y 0,G none 0 0,X Y 0,X Y 0,X Y 0] 119)=W at *
 have H:=jH (aI k2 hb2)
 clear k2 hb2 CV
 refine CP.out.mono ?_
 rintro e w1 ⟨A1,c1,rfl,hown1,hb1⟩
 have m4:=(H.out.1.below hb1 H.out.1.lt).alloc (cL #[X Y 3,X Z 0,X Z 0,X Y 0,X Y 0,X Y 0,X Y 0,X Y 0,X Y 0,X Y gen,G A1 n c1,X Y 0,X Y 0,X Y 0] 119)
 have m5:=Blk.new w1 119 #[X Y 3,X Z 0,X Z 0,X Y 0,X Y 0,X Y 0,X Y 0,X Y 0,X Y 0,X Y gen,G A1 n c1,X Y 0,X Y 0,X Y 0]
 have mb:Below q w (w1.alloc (cL #[X Y 3,X Z 0,X Z 0,X Y 0,X Y 0,X Y 0,X Y 0,X Y 0,X Y 0,X Y gen,G A1 n c1,X Y 0,X Y 0,X Y 0] 119)):=(H.out.2.trans (hb1.mono (by omega))).trans ((bR w1.heap.size w1).alloc (nR _) (cL #[X Y 3,X Z 0,X Z 0,X Y 0,X Y 0,X Y 0,X Y 0,X Y 0,X Y 0,X Y gen,G A1 n c1,X Y 0,X Y 0,X Y 0] 119) |>.mono (by have:=hb1.size;omega))
 have HO:=jH (ownsRow_mono (own_below hown1 ((bR w1.heap.size w1).alloc (nR _) (cL #[X Y 3,X Z 0,X Z 0,X Y 0,X Y 0,X Y 0,X Y 0,X Y 0,X Y 0,X Y gen,G A1 n c1,X Y 0,X Y 0,X Y 0] 119))) (by have:=HQ.out;omega:w.heap.size≤W.heap.size))
 clear hown1
 have hqp:q + 1≠w1.heap.size:=by have:=hb1.size;omega
 have hd:decide ((3:Int) < 2)=false:=rfl
 have hd3:decide ((3:Int) < 3)=false:=rfl
 have HM:=jH (aI m4 (aI m5 mb))
 clear m4 m5 mb hb1 CP
 go_wp2_with fail
 have HM2:=HM
 generalize w1.alloc (cL #[X Y 3,X Z 0,X Z 0,X Y 0,X Y 0,X Y 0,X Y 0,X Y 0,X Y 0,X Y gen,G A1 n c1,X Y 0,X Y 0,X Y 0] 119)=W1 at *
 generalize w1.heap.size=p at *
 go_loopw [34] (fun i wr=>∃k:Nat,k≤n∧i=X Y k∧wr=W1) (fun i _=>n - (intOf i).toNat)
 case atStart=>exact⟨0,by omega,rfl,rfl⟩
 case round=>
  obtain⟨k,hk,rfl,rfl⟩:=hrel
  by_cases hkn:k < n
  ·have e3:decide ((k:Int) < (n:Int))=true:=decide_eq_true (by omega)
   go_wp2_with fail
   go_roundw
   case rel=>exact⟨k + 1,by omega,by go_num,by first|rfl|trivial⟩
   case measure=>simp[intOf];omega
  ·have hkk:k=n:=by omega
   have e3:decide ((k:Int) < (n:Int))=false:=decide_eq_false (by omega)
   go_upto_region 14 with fail
   apply wp_region_lit
   refine wpList_load_row rfl _ _ rfl p rfl 119 #[X Y 3,X Z 0,X Z 0,X Y 0,X Y 0,X Y 0,X Y 0,X Y 0,X Y 0,X Y gen,G A1 n c1,X Y 0,X Y 0,X Y 0] (0,0) _ HM.out.2.1 underlying119 rfl infoRec ?_
   refine wpList_store_row rfl _ _ _ rfl (q + 1) #[X Y 3,X Z 0,X Z 0,X Y 0,X Y 0,X Y 0,X Y 0,X Y 0,X Y 0,X Y gen,G A1 n c1,X Y 0,X Y 0,X Y 0] rfl rfl 119 #[X Y 0,X Z 0,X Z 0,X Y 0,X Y 0,X Y 0,X Y 0,X Y 0,X Y 0,X Y 0,G none 0 0,X Y 0,X Y 0,X Y 0] HM.out.1 infoRec rfl (by simp[Value.oneCell']) ?_
   apply wpList_nil
   have hres:=setRow_heap wr (q + 1) _ #[X Y 3,X Z 0,X Z 0,X Y 0,X Y 0,X Y 0,X Y 0,X Y 0,X Y 0,X Y gen,G A1 n c1,X Y 0,X Y 0,X Y 0] _ _ HM.out.1
   have hbres:=below_setRow (B:=q) (g:=q + 1) HM.out.2.2 (by omega) #[X Y 3,X Z 0,X Z 0,X Y 0,X Y 0,X Y 0,X Y 0,X Y 0,X Y 0,X Y gen,G A1 n c1,X Y 0,X Y 0,X Y 0]
   go_wp2_with fail
   refine bodyPost_ret (results_cell_row rfl _ _ (q + 1) 119 #[X Y 3,X Z 0,X Z 0,X Y 0,X Y 0,X Y 0,X Y 0,X Y 0,X Y 0,X Y gen,G A1 n c1,X Y 0,X Y 0,X Y 0] (0,0) _ rfl hres underlying119 rfl infoRec) rfl ?_
   exact⟨A1,c1,rfl,own_setRow HO.out HM.out.1 (by decide) _,HQ.out▸hbres⟩
theorem tupwrite_k (p base:Nat)(k:Tu)(hk:TuOk k)(w:World)(h:WBuf w base p [])(hbase:base≤w.heap.size):
  Calls Pg 318 #[PT (some ⟨p,0,none⟩),.agg k.vals] w fun e w'=>e=rT (tU #[])∧WBuf w' base p (tupB k)∧Below base w w'∧Kept w w':=by
 obtain⟨src,dst,proto,sport,dport⟩:=k
 obtain⟨k1,k2,k3,k4,k5⟩:=hk
 dsimp only[Tu.vals] at *
 have hx:=Blk.new w 39 #[X Z src,X Z dst,X Y proto,X Y sport,X Y dport]
 have hb0:=(bR w.heap.size w).alloc (nR _) (cL #[X Z src,X Z dst,X Y proto,X Y sport,X Y dport] 39)
 have hw0:=h.below hb0
 have HE:Hid (tupB ⟨src,dst,proto,sport,dport⟩=be src 4++be dst 4++be (u64n proto) 1++be (u64n sport) 2++be (u64n dport) 2):=rfl
 obtain⟨T,hT⟩:∃T,tupB ⟨src,dst,proto,sport,dport⟩=T:=⟨_,rfl⟩
 rw[hT] at HE⊢
 clear hT
 have hlen:∀(n width:Nat) (l:List Nat),(l++be n width).length=l.length + width:=fun n width l=>by rw[List.length_append,be_length]
 have ht1:39≠251:=by decide
 have ht2:39≠5:=by decide
 have hbs:=nT hbase hb0.size
 have C1:=jH (u32_k p base src [] _ k1 (by simp) hw0 hbs)
 have hk0:=jH ((Kept.refl w).alloc (cL #[X Z src,X Z dst,X Y proto,X Y sport,X Y dport] 39))
 have HX:=jH hx
 have HB:=jH (hb0.mono hbase)
 have HL:=jH hlen
 have HS:=jH hbs
 clear hx hb0 hw0 hlen hbs h
 go_enter func318,ntmps318
 obtain⟨q,hq⟩:∃q,q=w.heap.size:=⟨_,rfl⟩
 go_wp2_with fail
 generalize w.alloc (cL #[X Z src,X Z dst,X Y proto,X Y sport,X Y dport] 39)=w0 at *
 rw[←hq] at HX⊢
 clear hq
 refine C1.out.mono ?_
 rintro e w1 ⟨rfl,hw1,hb1,hK1⟩
 have hx1:=hK1 _ _ _ HX.out ht1 ht2
 have hs1:=nT HS.out hb1.size
 have C2:=jH (u32_k p base dst _ w1 k2 (by rw[HL.out];simp) hw1 hs1)
 obtain⟨-,d1⟩:=hx1.c2
 have HX1:=jH hx1
 clear hx1
 go_wp2_with fail
 clear d1
 refine C2.out.mono ?_
 rintro e w2 ⟨rfl,hw2,hb2,hK2⟩
 have hx2:=hK2 _ _ _ HX1.out ht1 ht2
 have hs2:=nT hs1 hb2.size
 have C3:=jH (u8w_k p base proto _ w2 (by simp[be_length]) hw2 hs2)
 obtain⟨-,-,d2⟩:=hx2.c3
 have HX2:=jH hx2
 clear hx2
 go_wp2_with fail
 clear d2
 refine C3.out.mono ?_
 rintro e w3 ⟨rfl,hw3,hb3,hK3⟩
 have hx3:=hK3 _ _ _ HX2.out ht1 ht2
 have hs3:=nT hs2 hb3.size
 have C4:=jH (u16w_k p base sport _ w3 (by simp[be_length]) hw3 hs3)
 have d3:=hx3.cell 3
 simp only[ga,gz,gN] at d3
 have HX3:=jH hx3
 clear hx3
 go_wp2_with fail
 clear d3
 refine C4.out.mono ?_
 rintro e w4 ⟨rfl,hw4,hb4,hK4⟩
 have hx4:=hK4 _ _ _ HX3.out ht1 ht2
 have hs4:=nT hs3 hb4.size
 have C5:=jH (u16w_k p base dport _ w4 (by simp[be_length]) hw4 hs4)
 have d4:=hx4.cell 4
 simp only[ga,gz,gN] at d4
 have HX4:=jH hx4
 clear hx4
 go_wp2_with fail
 clear d4
 refine C5.out.mono ?_
 rintro e w5 ⟨rfl,hw5,hb5,hK5⟩
 have hx5:=hK5 _ _ _ HX4.out ht1 ht2
 have hs5:=nT hs4 hb5.size
 go_wp2_with fail
 go_end0
 refine⟨rfl,?_,((((HB.out.trans hb1).trans hb2).trans hb3).trans hb4).trans hb5,((((hk0.out.trans hK1).trans hK2).trans hK3).trans hK4).trans hK5⟩
 rw[HE.out]
 simpa using hw5
theorem i64w_k (p base n:Nat)(l:List Nat)(w:World)(hn:n < 9223372036854775808)(hl:l.length≤1099511627776)(h:WBuf w base p l)(hbase:base≤w.heap.size):
  Calls Pg 413 #[PT (some ⟨p,0,none⟩),X Y n] w fun e w'=>e=rT (tU #[])∧WBuf w' base p (l++be n 8)∧Below base w w'∧Kept w w':=by
 have HC:=jH (put_k p base n 8 l w (by omega) (by omega) hl h hbase)
 have hw:IntKind.u64.wrap (n:Int)=(n:Int):=by rw[IntKind.wrap_u64];omega
 go_enter func413,ntmps413
 go_wp2_with fail
 refine HC.out.mono ?_
 rintro e w' ⟨rfl,hwb,hbw,hkw⟩
 go_wp2_with fail
 go_end0
 exact⟨rfl,hwb,hbw,hkw⟩
def putB (f:Fl):List Nat:=tupB f.k++be f.be 2++be f.gen 4++be f.seen 8
theorem putB_length (f:Fl):(putB f).length=27:=by simp[putB,tupB_length,be_length]
theorem putB_all (f:Fl):AllB (putB f):=allB_append (allB_append (allB_append (tupB_all _) (be_all _ _)) (be_all _ _)) (be_all _ _)
theorem recwrite_put (p base:Nat)(f:Fl)(hf:FlOk f)(w:World)(h:WBuf w base p [])(hbase:base≤w.heap.size):
  Calls Pg 330 #[PT (some ⟨p,0,none⟩),.agg (recC 1 f 0 (G none 0 0)),X Y 3] w fun e w'=>e=rT (tU #[])∧WBuf w' base p (putB f)∧Below base w w'∧Kept w w':=by
 obtain⟨hk,hmay,hb,hg,hs⟩:=hf
 have CW0:=fun W (hW:WBuf W base p []) (hB:base≤W.heap.size)=>tupwrite_k p base f.k hk W hW hB
 have hpb:putB f=tupB f.k++be f.be 2++be f.gen 4++be f.seen 8:=rfl
 have htl:=tupB_length f.k
 obtain⟨T,hT⟩:∃T,tupB f.k=T:=⟨_,rfl⟩
 rw[hT] at CW0 hpb htl
 obtain⟨PB,hPB⟩:∃PB,putB f=PB:=⟨_,rfl⟩
 rw[hPB] at hpb⊢
 clear hT hPB
 obtain⟨⟨src,dst,proto,sport,dport⟩,be0,gen,seen⟩:=f
 dsimp only[recC,Tu.vals] at *
 have hx:=Blk.new w 119 #[X Y 1,X Z src,X Z dst,X Y proto,X Y sport,X Y dport,X Y be0,X Y gen,X Y seen,X Y 0,G none 0 0,X Y 0,X Y 0,X Y 0]
 have hk0:=(Kept.refl w).alloc (cL #[X Y 1,X Z src,X Z dst,X Y proto,X Y sport,X Y dport,X Y be0,X Y gen,X Y seen,X Y 0,G none 0 0,X Y 0,X Y 0,X Y 0] 119)
 have hb0:=(bR w.heap.size w).alloc (nR _) (cL #[X Y 1,X Z src,X Z dst,X Y proto,X Y sport,X Y dport,X Y be0,X Y gen,X Y seen,X Y 0,G none 0 0,X Y 0,X Y 0,X Y 0] 119)
 have hw0:=h.below hb0
 have hbs:=nT hbase hb0.size
 have CW:=jH (CW0 _ hw0 hbs)
 obtain⟨q,hq⟩:∃q,q=w.heap.size:=⟨_,rfl⟩
 rw[←hq] at hx
 have HX:=jH (aI hx (aI (hb0.mono hbase) hk0))
 have HP:=jH hpb
 clear hx hb0 hk0 hw0 h CW0 hpb
 go_enter func330,ntmps330
 go_wp2_with fail
 rw[←hq]
 clear hq
 generalize w.alloc (cL #[X Y 1,X Z src,X Z dst,X Y proto,X Y sport,X Y dport,X Y be0,X Y gen,X Y seen,X Y 0,G none 0 0,X Y 0,X Y 0,X Y 0] 119)=w0 at *
 refine CW.out.mono ?_
 rintro e w1 ⟨rfl,hw1,hb1,hK1⟩
 have hx1:=hK1 _ _ _ HX.out.1 (by decide) (by decide)
 have hs1:=nT hbs hb1.size
 have C2:=jH (u16w_k p base (be0:Int) _ w1 (by omega) hw1 hs1)
 rw[u64n_nat be0 (by omega)] at C2
 have d6:=hx1.cell 6
 simp only[ga,gz,gN] at d6
 have HX1:=jH (aI hx1 (aI (HX.out.2.1.trans hb1) (HX.out.2.2.trans hK1)))
 clear hx1 hb1 hK1 CW
 go_wp2_with fail
 clear d6
 refine C2.out.mono ?_
 rintro e w2 ⟨rfl,hw2,hb2,hK2⟩
 have hx2:=hK2 _ _ _ HX1.out.1 (by decide) (by decide)
 have hs2:=nT hs1 hb2.size
 have C3:=jH (u32_k p base gen _ w2 (by omega) (by rw[List.length_append,be_length];omega) hw2 hs2)
 have ew:IntKind.u32.wrap (gen:Int)=(gen:Int):=by rw[IntKind.wrap_u32'];omega
 have d7:=hx2.cell 7
 simp only[ga,gz,gN] at d7
 have HX2:=jH (aI hx2 (aI (HX1.out.2.1.trans hb2) (HX1.out.2.2.trans hK2)))
 clear hx2 hb2 hK2 C2
 go_wp2_with fail
 clear d7
 refine C3.out.mono ?_
 rintro e w3 ⟨rfl,hw3,hb3,hK3⟩
 have hx3:=hK3 _ _ _ HX2.out.1 (by decide) (by decide)
 have hs3:=nT hs2 hb3.size
 have C4:=jH (i64w_k p base seen _ w3 (by omega) (by simp only[List.length_append,be_length];omega) hw3 hs3)
 have d8:=hx3.cell 8
 simp only[ga,gz,gN] at d8
 have HX3:=jH (aI (HX2.out.2.1.trans hb3) (HX2.out.2.2.trans hK3))
 clear hx3 hb3 hK3 C3 ew
 go_wp2_with fail
 clear d8
 refine C4.out.mono ?_
 rintro e w4 ⟨rfl,hw4,hb4,hK4⟩
 have HE:=jH (aI hw4 (aI (HX3.out.1.trans hb4) (HX3.out.2.trans hK4)))
 clear hw4 hb4 hK4 C4
 go_wp2_with fail
 go_end0
 exact⟨rfl,by rw[HP.out];exact HE.out.1,HE.out.2.1,HE.out.2.2⟩
theorem recwrite_del (p base:Nat)(k:Tu)(hk:TuOk k)(w:World)(h:WBuf w base p [])(hbase:base≤w.heap.size):
  Calls Pg 330 #[PT (some ⟨p,0,none⟩),.agg (recD k),X Y 3] w fun e w'=>e=rT (tU #[])∧WBuf w' base p (tupB k)∧Below base w w'∧Kept w w':=by
 have CW0:=fun W (hW:WBuf W base p []) (hB:base≤W.heap.size)=>tupwrite_k p base k hk W hW hB
 obtain⟨T,hT⟩:∃T,tupB k=T:=⟨_,rfl⟩
 rw[hT] at CW0⊢
 clear hT
 obtain⟨src,dst,proto,sport,dport⟩:=k
 dsimp only[recD,Tu.vals] at *
 have hk0:=(Kept.refl w).alloc (cL #[X Y 2,X Z src,X Z dst,X Y proto,X Y sport,X Y dport,X Y 0,X Y 0,X Y 0,X Y 0,G none 0 0,X Y 0,X Y 0,X Y 0] 119)
 have hb0:=(bR w.heap.size w).alloc (nR _) (cL #[X Y 2,X Z src,X Z dst,X Y proto,X Y sport,X Y dport,X Y 0,X Y 0,X Y 0,X Y 0,G none 0 0,X Y 0,X Y 0,X Y 0] 119)
 have CW:=jH (CW0 _ (h.below hb0) (nT hbase hb0.size))
 have HX:=jH (aI (hb0.mono hbase) hk0)
 clear hb0 hk0 h CW0
 go_enter func330,ntmps330
 go_wp2_with fail
 refine CW.out.mono ?_
 rintro e w1 ⟨rfl,hw1,hb1,hK1⟩
 have HE:=jH (aI hw1 (aI (HX.out.1.trans hb1) (HX.out.2.trans hK1)))
 clear hw1 hb1 hK1 CW
 go_wp2_with fail
 go_end0
 exact⟨rfl,HE.out.1,HE.out.2.1,HE.out.2.2⟩
def RG (p:Nat)(r:List Nat)(w w':World):Prop:=RBuf w' p r∧w.grownBy w' (some p)
theorem u8g (p x:Nat)(r:List Nat)(w:World)(hx:x < 256)(hl:r.length≤1000000)(ha:AllB r)(h:RBuf w p (be x 1++r)):
  Calls Pg 406 #[PT (some ⟨p,0,none⟩)] w fun e w'=>e=rT (X Y x)∧RG p r w w':=by
 refine(u8r_any p (be x 1++r) w (by rw[List.length_append,be_length];omega) (by rw[List.length_append,be_length];omega) (allB_append (be_all _ _) ha) h).mono ?_
 rintro e w' ⟨rfl,hr⟩
 have h2:=hr.1
 rw[drop_be] at h2
 rw[take_be,nb_be 1 x (by omega)]
 exact⟨rfl,h2,hr.2⟩
theorem u16g (p x:Nat)(r:List Nat)(w:World)(hx:x < 65536)(hl:r.length≤1000000)(ha:AllB r)(h:RBuf w p (be x 2++r)):
  Calls Pg 306 #[PT (some ⟨p,0,none⟩)] w fun e w'=>e=rT (X Y x)∧RG p r w w':=by
 refine(u16r_any p (be x 2++r) w (by rw[List.length_append,be_length];omega) (by rw[List.length_append,be_length];omega) (allB_append (be_all _ _) ha) h).mono ?_
 rintro e w' ⟨rfl,hr⟩
 have h2:=hr.1
 rw[drop_be] at h2
 rw[take_be,nb_be 2 x (by omega)]
 exact⟨rfl,h2,hr.2⟩
theorem u32g (p x:Nat)(r:List Nat)(w:World)(hx:x < 4294967296)(hl:r.length≤1000000)(ha:AllB r)(h:RBuf w p (be x 4++r)):
  Calls Pg 305 #[PT (some ⟨p,0,none⟩)] w fun e w'=>e=rT (X Z x)∧RG p r w w':=by
 refine(u32r_any p (be x 4++r) w (by rw[List.length_append,be_length];omega) (by rw[List.length_append,be_length];omega) (allB_append (be_all _ _) ha) h).mono ?_
 rintro e w' ⟨rfl,hr⟩
 have h2:=hr.1
 rw[drop_be] at h2
 rw[take_be,nb_be 4 x (by omega)]
 exact⟨rfl,h2,hr.2⟩
theorem i64g (p x:Nat)(r:List Nat)(w:World)(hx:x < 9223372036854775808)(hl:r.length≤1000000)(ha:AllB r)(h:RBuf w p (be x 8++r)):
  Calls Pg 412 #[PT (some ⟨p,0,none⟩)] w fun e w'=>e=rT (X Y x)∧RG p r w w':=by
 refine(i64r_any p (be x 8++r) w (by rw[List.length_append,be_length];omega) (by rw[List.length_append,be_length];omega) (allB_append (be_all _ _) ha) (by rw[take_be,nb_be 8 x (by omega)];exact hx) h).mono ?_
 rintro e w' ⟨rfl,hr⟩
 have h2:=hr.1
 rw[drop_be] at h2
 rw[take_be,nb_be 8 x (by omega)]
 exact⟨rfl,h2,hr.2⟩
theorem RBuf.grown {w w':World}{p q:Nat}{l:List Nat}(h:RBuf w p l)(hg:w.grownBy w' (some q))(h2:w.heap.size≤q):RBuf w' p l:=
 h.below ((bR _ _).grown hg (nR _) (fun k hk=>by injection hk with hk;omega))
theorem grown_below {a b:World}{row:Option Nat}(h:Below a.heap.size a b):a.grownBy b row:=⟨h.os,h.tape,h.output,h.size,fun i hi _=>h.block i hi⟩
theorem RBuf.far6 {w:World}{p g:Nat}{l:List Nat}(h:RBuf w p l)(hg:p < g)(i:Nat)(u:Value):RBuf (w.setCell ⟨g,i,none⟩ u) p l:=by
 obtain⟨B,A,c,h1,h2,h3,h4⟩:=h
 exact⟨B,A,c,h1,h2.far (p:=⟨g,i,none⟩) (by show p≠g;omega) u,h3.below ((bR B w).setCell (p:=⟨g,i,none⟩) (by show B≤g;omega) u),h4⟩
theorem grown_set1 (w:World)(g i:Nat)(u:Value):w.grownBy (w.setCell ⟨g,i,none⟩ u) (some g):=by
 have hb:=(bR g w).setCell (p:=⟨g,i,none⟩) (nR _) u
 exact⟨hb.os,hb.tape,hb.output,hb.size,fun k hk hne=>Below.heap_setCell w ⟨g,i,none⟩ u k (fun e=>hne (congrArg some e))⟩
theorem grown_setF {a c:World}{p g:Nat}(h:a.grownBy c (some p))(hg:a.heap.size≤g)(i:Nat)(u:Value):a.grownBy (c.setCell ⟨g,i,none⟩ u) (some p):=
 h.andThen (grown_set1 c g i u) (fun j hj=>by injection hj with hj;left;omega)
theorem tread_nat (p src dst pr sp dp:Nat)(r:List Nat)(w:World)(h1:src < 4294967296)(h2:dst < 4294967296)(h3:pr < 256)(h4:sp < 65536)(h5:dp < 65536)(hm:mayTu ⟨src,dst,pr,sp,dp⟩=true)(hl:r.length≤10000)(ha:AllB r)
  (h:RBuf w p (be src 4++(be dst 4++(be pr 1++(be sp 2++(be dp 2++r)))))):
  Calls Pg 410 #[PT (some ⟨p,0,none⟩)] w fun e w'=>e=rT (tU #[aG #[X Z src,X Z dst,X Y pr,X Y sp,X Y dp],bL true])∧RG p r w w':=by
 obtain⟨q,hq⟩:∃q,q=w.heap.size:=⟨_,rfl⟩
 have hb0:=Blk.new w 39 #[X Z 0,X Z 0,X Y 0,X Y 0,X Y 0]
 have hbl0:w.grownBy (w.alloc (cL #[X Z 0,X Z 0,X Y 0,X Y 0,X Y 0] 39)) (some p):=grown_below ((bR _ w).alloc (nR _) _)
 have hp:p < q:=hq▸h.lt
 have h:=h.below ((bR w.heap.size w).alloc (nR _) (cL #[X Z 0,X Z 0,X Y 0,X Y 0,X Y 0] 39))
 have HL:Hid ((be src 4++(be dst 4++(be pr 1++(be sp 2++(be dp 2++r))))).length=r.length + 13):=by
  simp[be_length,Hid];omega
 have CM:=jH (tupmay_any ⟨src,dst,pr,sp,dp⟩)
 rw[hm] at CM
 rw[←hq] at hb0
 go_enter func410,ntmps410
 go_wp2_with fail
 rw[←hq]
 have HE:=jH hq
 clear hq
 generalize (w.alloc (cL #[X Z 0,X Z 0,X Y 0,X Y 0,X Y 0] 39))=w1 at *
 have H1:=jH (aI h (aI hbl0 hb0))
 clear h hbl0 hb0 hm
 refine(rleft_any p _ w1 H1.out.1).mono ?_
 rintro e w' ⟨rfl,rfl⟩
 rw[HL.out]
 have d0:decide (((r.length + 13:Nat):Int) < 13)=false:=decide_eq_false (by omega)
 rw[Int.natCast_add] at d0
 clear HL
 go_wp2_with fail
 refine(u32g p src (be dst 4++(be pr 1++(be sp 2++(be dp 2++r)))) w1 (by omega) (by first|omega|(simp[be_length];omega)) (allB_be (allB_be (allB_be (allB_be ha)))) H1.out.1).mono ?_
 rintro e w2 ⟨rfl,hr⟩
 have H2:Hid (RBuf w2 p (be dst 4++(be pr 1++(be sp 2++(be dp 2++r))))∧w.grownBy w2 (some p)∧Blk w2 q 39 #[X Z 0,X Z 0,X Y 0,X Y 0,X Y 0]):=⟨hr.1,H1.out.2.1.trans hr.2,H1.out.2.2.grown hr.2 (by simp;omega)⟩
 clear hr H1
 go_wp2_with fail
 refine(u32g p dst (be pr 1++(be sp 2++(be dp 2++r))) w2 (by omega) (by first|omega|(simp[be_length];omega)) (allB_be (allB_be (allB_be ha))) H2.out.1).mono ?_
 rintro e w3 ⟨rfl,hr⟩
 have H3:Hid (RBuf w3 p (be pr 1++(be sp 2++(be dp 2++r)))∧w.grownBy w3 (some p)∧Blk w3 q 39 #[X Z 0,X Z 0,X Y 0,X Y 0,X Y 0]):=⟨hr.1,H2.out.2.1.trans hr.2,H2.out.2.2.grown hr.2 (by simp;omega)⟩
 clear hr H2
 go_wp2_with fail
 refine(u8g p pr (be sp 2++(be dp 2++r)) w3 (by omega) (by first|omega|(simp[be_length];omega)) (allB_be (allB_be ha)) H3.out.1).mono ?_
 rintro e w4 ⟨rfl,hr⟩
 have H4:Hid (RBuf w4 p (be sp 2++(be dp 2++r))∧w.grownBy w4 (some p)∧Blk w4 q 39 #[X Z 0,X Z 0,X Y 0,X Y 0,X Y 0]):=⟨hr.1,H3.out.2.1.trans hr.2,H3.out.2.2.grown hr.2 (by simp;omega)⟩
 clear hr H3
 obtain⟨q6,hq6⟩:∃q6,q6=w4.heap.size:=⟨_,rfl⟩
 have hb6:=Blk.new w4 39 #[X Z src,X Z dst,X Y pr,X Y 0,X Y 0]
 have hg6:w4.grownBy (w4.alloc (cL #[X Z src,X Z dst,X Y pr,X Y 0,X Y 0] 39)) (some p):=grown_below ((bR _ w4).alloc (nR _) _)
 have hr6:=H4.out.1.below ((bR w4.heap.size w4).alloc (nR _) (cL #[X Z src,X Z dst,X Y pr,X Y 0,X Y 0] 39))
 have hl6:=H4.out.2.2.lt
 go_wp2_with fail
 rw[←hq6] at hb6 hl6⊢
 have H5:(fun Vv:World=>Hid (RBuf Vv p (be sp 2++(be dp 2++r))∧w.grownBy Vv (some p)∧Blk Vv q 39 #[X Z 0,X Z 0,X Y 0,X Y 0,X Y 0]∧Blk Vv q6 39 #[X Z src,X Z dst,X Y pr,X Y 0,X Y 0]∧q < q6)) (w4.alloc (cL #[X Z src,X Z dst,X Y pr,X Y 0,X Y 0] 39)):=⟨hr6,H4.out.2.1.trans hg6,H4.out.2.2.alloc _,hb6,hl6⟩
 clear hr6 hg6 hb6 H4 hl6 hq6
 generalize (w4.alloc (cL #[X Z src,X Z dst,X Y pr,X Y 0,X Y 0] 39))=w5 at *
 refine(u16g p sp (be dp 2++r) w5 (by omega) (by first|omega|(simp[be_length];omega)) (allB_be ha) H5.out.1).mono ?_
 rintro e w6 ⟨rfl,hr⟩
 have H6:Hid (RBuf w6 p (be dp 2++r)∧w.grownBy w6 (some p)∧Blk w6 q 39 #[X Z 0,X Z 0,X Y 0,X Y 0,X Y 0]∧Blk w6 q6 39 #[X Z src,X Z dst,X Y pr,X Y 0,X Y 0]∧q < q6):=⟨hr.1,H5.out.2.1.trans hr.2,H5.out.2.2.1.grown hr.2 (by simp;omega),H5.out.2.2.2.1.grown hr.2 (by have:=H5.out.2.2.2.2;simp;omega),H5.out.2.2.2.2⟩
 clear hr H5
 go_wp2_with fail
 refine(u16g p dp r w6 (by omega) (by first|omega|(simp[be_length];omega)) ha H6.out.1).mono ?_
 rintro e w7 ⟨rfl,hr⟩
 have H7:Hid (RBuf w7 p r∧w.grownBy w7 (some p)∧Blk w7 q 39 #[X Z 0,X Z 0,X Y 0,X Y 0,X Y 0]∧Blk w7 q6 39 #[X Z src,X Z dst,X Y pr,X Y 0,X Y 0]∧q < q6):=⟨hr.1,H6.out.2.1.trans hr.2,H6.out.2.2.1.grown hr.2 (by simp;omega),H6.out.2.2.2.1.grown hr.2 (by have:=H6.out.2.2.2.2;simp;omega),H6.out.2.2.2.2⟩
 clear hr H6
 have z3:=H7.out.2.2.2.1.frozen 3
 have z4:=(H7.out.2.2.2.1.set_ 3 (X Y sp)).frozen 4
 have x3:=H7.out.2.2.2.1.cell 3
 have x4:=(H7.out.2.2.2.1.set_ 3 (X Y sp)).cell 4
 have b8:=(H7.out.2.2.2.1.set_ 3 (X Y sp)).set_ 4 (X Y dp)
 have a8:=(H7.out.2.2.1.far (p:=⟨q6,3,none⟩) (by have:=H7.out.2.2.2.2;show q≠q6;omega) (X Y sp)).far (p:=⟨q6,4,none⟩) (by have:=H7.out.2.2.2.2;show q≠q6;omega) (X Y dp)
 have c0:=b8.cell 0
 have c1:=b8.cell 1
 have c2:=b8.cell 2
 have c3:=b8.cell 3
 have c4:=b8.cell 4
 simp only[ga,gz,gN,Array.setIfInBounds,List.set_toArray,List.set_cons_zero,List.set_cons_succ,List.size_toArray] at x3 x4 c0 c1 c2 c3 c4
 have H8:(fun Vv:World=>Hid (RBuf Vv p r∧w.grownBy Vv (some p)∧Blk Vv q 39 #[X Z 0,X Z 0,X Y 0,X Y 0,X Y 0]∧Blk Vv q6 39 #[X Z src,X Z dst,X Y pr,X Y sp,X Y dp]∧q < q6)) ((w7.setCell ⟨q6,3,none⟩ (X Y sp)).setCell ⟨q6,4,none⟩ (X Y dp)):=by
  obtain⟨g1,g2,g3,g4,g5⟩:=H7.out
  have h6:w.heap.size≤q6:=by have:=HE.out;omega
  exact⟨(g1.far6 (by omega) _ _).far6 (by omega) _ _,grown_setF (grown_setF g2 h6 3 _) h6 4 _,a8,b8,g5⟩
 clear a8 b8 H7
 go_wp2_with fail
 generalize ((w7.setCell ⟨q6,3,none⟩ (X Y sp)).setCell ⟨q6,4,none⟩ (X Y dp))=w8 at *
 refine(CM.out w8).mono ?_
 rintro e w9 ⟨rfl,hb9⟩
 have H9:Hid (RBuf w9 p r∧w.grownBy w9 (some p)∧Blk w9 q 39 #[X Z 0,X Z 0,X Y 0,X Y 0,X Y 0]∧Blk w9 q6 39 #[X Z src,X Z dst,X Y pr,X Y sp,X Y dp]∧q < q6):=⟨H8.out.1.below hb9,H8.out.2.1.trans (grown_below hb9),H8.out.2.2.1.below hb9 H8.out.2.2.1.lt,H8.out.2.2.2.1.below hb9 H8.out.2.2.2.1.lt,H8.out.2.2.2.2⟩
 clear hb9 H8 CM z3 z4 x3 x4 c0 c1 c2 c3 c4
 obtain⟨g1,g2,g3,g4,g5⟩:=H9.out
 obtain⟨c0,c1,c2,c3,c4⟩:=g4.c5
 have z0:=g3.frozen 0
 have z1:=(g3.set_ 0 (X Z src)).frozen 1
 have z2:=((g3.set_ 0 (X Z src)).set_ 1 (X Z dst)).frozen 2
 have z3:=(((g3.set_ 0 (X Z src)).set_ 1 (X Z dst)).set_ 2 (X Y pr)).frozen 3
 have z4:=((((g3.set_ 0 (X Z src)).set_ 1 (X Z dst)).set_ 2 (X Y pr)).set_ 3 (X Y sp)).frozen 4
 have n5:=((((g3.set_ 0 (X Z src)).set_ 1 (X Z dst)).set_ 2 (X Y pr)).set_ 3 (X Y sp)).set_ 4 (X Y dp)
 have y0:=g3.cell 0
 have y1:=(g3.set_ 0 (X Z src)).cell 1
 have y2:=((g3.set_ 0 (X Z src)).set_ 1 (X Z dst)).cell 2
 have y3:=(((g3.set_ 0 (X Z src)).set_ 1 (X Z dst)).set_ 2 (X Y pr)).cell 3
 have y4:=((((g3.set_ 0 (X Z src)).set_ 1 (X Z dst)).set_ 2 (X Y pr)).set_ 3 (X Y sp)).cell 4
 have d0:=n5.cell 0
 have d1:=n5.cell 1
 have d2:=n5.cell 2
 have d3:=n5.cell 3
 have d4:=n5.cell 4
 simp only[ga,gz,gN,Array.setIfInBounds,List.set_toArray,List.set_cons_zero,List.set_cons_succ,List.size_toArray,List.length_cons,List.length_nil] at y0 y1 y2 y3 y4 d0 d1 d2 d3 d4
 clear g1 g2 g4 g5
 go_wp2_with fail
 obtain⟨g1,g2,-,g4,g5⟩:=H9.out
 have h6:w.heap.size≤q:=by have:=HE.out;omega
 refine bodyPost_ret (v:=tU #[aG #[X Z src,X Z dst,X Y pr,X Y sp,X Y dp],bL true]) (by simp[results,results410,go_sem,d0,d1,d2,d3,d4]) rfl ?_
 exact⟨rfl,((((g1.far6 hp _ _).far6 hp _ _).far6 hp _ _).far6 hp _ _).far6 hp _ _,grown_setF (grown_setF (grown_setF (grown_setF (grown_setF g2 h6 0 _) h6 1 _) h6 2 _) h6 3 _) h6 4 _⟩
theorem tread_any (p:Nat)(k:Tu)(hk:TuOk k)(hm:mayTu k=true)(r:List Nat)(w:World)(hl:r.length≤10000)(ha:AllB r)(h:RBuf w p (tupB k++r)):
  Calls Pg 410 #[PT (some ⟨p,0,none⟩)] w fun e w'=>e=rT (tU #[.agg k.vals,bL true])∧RG p r w w':=by
 obtain⟨src,dst,pr,sp,dp⟩:=k
 have hm2:=of_decide_eq_true hm
 obtain⟨m1,m2,m3,m4,m5⟩:=hm2
 obtain⟨k1,k2,-,-,-⟩:=hk
 dsimp only at m1 m2 m3 m4 m5 k1 k2
 obtain⟨pr,rfl⟩:∃n:Nat,pr=(n:Int):=⟨pr.toNat,by omega⟩
 obtain⟨sp,rfl⟩:∃n:Nat,sp=(n:Int):=⟨sp.toNat,by omega⟩
 obtain⟨dp,rfl⟩:∃n:Nat,dp=(n:Int):=⟨dp.toNat,by omega⟩
 refine tread_nat p src dst pr sp dp r w k1 k2 (by omega) (by omega) (by omega) hm hl ha ?_
 have:tupB ⟨src,dst,(pr:Int),(sp:Int),(dp:Int)⟩=be src 4++be dst 4++be pr 1++be sp 2++be dp 2:=by
  unfold tupB
  dsimp only
  rw[u64n_nat pr (by omega),u64n_nat sp (by omega),u64n_nat dp (by omega)]
 rw[this] at h
 simpa only[List.append_assoc] using h
def beB (b:Be):List Nat:=be (u64n b.id) 2++be b.addr 4++be (u64n b.weight) 1
def besB (l:List Be):List Nat:=l.flatMap beB
theorem besB_length (l:List Be):(besB l).length=l.length * 7:=by
 induction l with
 |nil=>rfl
 |cons x r ih=>rw[show besB (x::r)=beB x++besB r from rfl,List.length_append,ih,List.length_cons];simp[beB,be_length];omega
theorem besB_all (l:List Be):AllB (besB l):=fun x hx=>by
 obtain⟨y,_,hy⟩:=List.mem_flatMap.1 hx
 exact(allB_append (allB_append (be_all _ _) (be_all _ _)) (be_all _ _)) x hy
theorem besB_take (l:List Be)(k:Nat)(h:k < l.length):besB (l.take (k + 1))=besB (l.take k)++(be (u64n l[k].id) 2++be l[k].addr 4++be (u64n l[k].weight) 1):=by
 unfold besB
 rw[List.take_succ_eq_append_getElem h,List.flatMap_append]
 simp only[List.flatMap_cons,List.flatMap_nil,List.append_nil]
 rfl
def genB (g:Nat)(l:List Be):List Nat:=be g 4++be l.length 1++besB l
theorem genB_length (g:Nat)(l:List Be):(genB g l).length=5 + l.length * 7:=by simp[genB,be_length,besB_length];omega
theorem genB_all (g:Nat)(l:List Be):AllB (genB g l):=allB_append (allB_append (be_all _ _) (be_all _ _)) (besB_all _)
theorem recwrite_gen (p base:Nat)(gen:Nat)(hgen:gen≤1000000)(A:Option Addr)(n c B:Nat)(l:List Be)(w:World)(hr:Reads w B 3 A n (bks l))(hB:B≤base)(hn:n≤1000)(hok:∀b∈l,b.addr < 4294967296)(h:WBuf w base p [])(hbase:base≤w.heap.size):
  Calls Pg 330 #[PT (some ⟨p,0,none⟩),.agg (recG (gen:Int) (G A n c)),X Y 3] w fun e w'=>e=rT (tU #[])∧WBuf w' base p (genB gen l)∧Below base w w'∧Kept w w':=by
 have hln:=hr.be_length
 have hx:=Blk.new w 119 (recG (gen:Int) (G A n c))
 have hk0:=(Kept.refl w).alloc (cL (recG (gen:Int) (G A n c)) 119)
 have hb0:=(bR w.heap.size w).alloc (nR _) (cL (recG (gen:Int) (G A n c)) 119)
 have hw0:=h.below hb0
 have hbs:=nT hbase hb0.size
 unfold recG at *
 have C1:=jH (u32_k p base gen [] _ (by omega) (by simp) hw0 hbs)
 have ew:IntKind.u32.wrap (gen:Int)=(gen:Int):=by rw[IntKind.wrap_u32'];omega
 obtain⟨q,hq⟩:∃q,q=w.heap.size:=⟨_,rfl⟩
 rw[←hq] at hx
 have HX:=jH (aI hx (aI (hb0.mono hbase) hk0))
 have HG:Hid (genB gen l=be gen 4++be n 1++besB l):=by show _=_;unfold genB;rw[hln]
 obtain⟨GB,hGB⟩:∃GB,genB gen l=GB:=⟨_,rfl⟩
 rw[hGB] at HG⊢
 clear hx hb0 hk0 hw0 h hGB
 go_enter func330,ntmps330
 go_wp2_with fail
 rw[←hq]
 clear hq
 generalize w.alloc (cL #[X Y 3,X Z 0,X Z 0,X Y 0,X Y 0,X Y 0,X Y 0,X Y 0,X Y 0,X Y gen,G A n c,X Y 0,X Y 0,X Y 0] 119)=w0 at *
 refine C1.out.mono ?_
 rintro e w1 ⟨rfl,hw1,hb1,hK1⟩
 rw[List.nil_append] at hw1
 have hx1:=hK1 _ _ _ HX.out.1 (by decide) (by decide)
 have hs1:=nT hbs hb1.size
 have C2:=jH (u8w_k p base (n:Int) _ w1 (by rw[be_length];omega) hw1 hs1)
 rw[u64n_nat n (by omega)] at C2
 have d10:=hx1.cell 10
 simp only[ga,gz,gN] at d10
 have HX1:=jH (aI hx1 (aI (HX.out.2.1.trans hb1) (HX.out.2.2.trans hK1)))
 clear hx1 hb1 hK1 C1 ew
 go_wp2_with fail
 clear d10
 refine C2.out.mono ?_
 rintro e w2 ⟨rfl,hw2,hb2,hK2⟩
 have hx2:=hK2 _ _ _ HX1.out.1 (by decide) (by decide)
 have hs2:=nT hs1 hb2.size
 have d10:=hx2.cell 10
 simp only[ga,gz,gN] at d10
 have HX2:=jH (aI hx2 (aI (HX1.out.2.1.trans hb2) (HX1.out.2.2.trans hK2)))
 clear hx2 hb2 hK2 C2
 go_wp2_with fail
 clear d10
 go_loopw [62] (fun i wr=>∃k:Nat,k≤n∧i=X Y k∧WBuf wr base p (be gen 4++be n 1++besB (l.take k))∧Below base w wr∧Kept w wr∧base≤wr.heap.size) (fun i _=>n - (intOf i).toNat)
 case atStart=>exact⟨0,by omega,rfl,by simpa [besB] using hw2,HX2.out.2.1,HX2.out.2.2,hs2⟩
 case round=>
  obtain⟨k,hk,rfl,hwr,hbr,hkr,hsr⟩:=hrel
  by_cases hkn:k < n
  ·obtain⟨b,off,hl,rfl,hc0,hc1,hc2⟩:=(hr.below (hbr.mono hB)).be hkn
   have hadr:=hok l[k] (List.getElem_mem hl)
   have HT:Hid (be gen 4++be n 1++besB (l.take (k + 1))=be gen 4++be n 1++besB (l.take k)++be (u64n l[k].id) 2++be l[k].addr 4++be (u64n l[k].weight) 1):=by show _=_;rw[besB_take l k hl];simp only[List.append_assoc]
   have hlen:(be gen 4++be n 1++besB (l.take k)).length≤100000:=by simp only[List.length_append,be_length,besB_length,List.length_take];omega
   generalize be gen 4++be n 1++besB (l.take k)=m at *
   generalize l[k].id=x at *
   generalize l[k].weight=wt at *
   generalize l[k].addr=ad at *
   have e3:decide ((k:Int) < (n:Int))=true:=decide_eq_true (by omega)
   have hbk:=Blk.new wr 34 #[X Y x,X Z ad,X Y wt]
   have hba:=(bR wr.heap.size wr).alloc (nR _) (cL #[X Y x,X Z ad,X Y wt] 34)
   have hka:=hkr.alloc (cL #[X Y x,X Z ad,X Y wt] 34)
   have C3:=jH (u16w_k p base x m _ (by omega) (hwr.below hba) (nT hsr hba.size))
   have HB:=jH (aI hbk (aI (hbr.trans (hba.mono hsr)) (aI hka (nT hsr hba.size))))
   clear hwr hbk hba hka hbr hkr
   go_wp2_with fail
   generalize wr.alloc (cL #[X Y x,X Z ad,X Y wt] 34)=wa at *
   generalize wr.heap.size=z at *
   refine C3.out.mono ?_
   rintro e w3 ⟨rfl,hw3,hb3,hK3⟩
   have hb3k:=hK3 _ _ _ HB.out.1 (by decide) (by decide)
   have hs3:=nT HB.out.2.2.2 hb3.size
   obtain⟨-,g1⟩:=hb3k.c2
   have C4:=jH (u32_k p base ad _ w3 hadr (by rw[List.length_append,be_length];omega) hw3 hs3)
   have HB3:=jH (aI hb3k (aI (HB.out.2.1.trans hb3) (HB.out.2.2.1.trans hK3)))
   clear hb3k hb3 hK3 C3 hc0 hc1 hc2
   go_wp2_with fail
   clear g1
   refine C4.out.mono ?_
   rintro e w4 ⟨rfl,hw4,hb4,hK4⟩
   have hb4k:=hK4 _ _ _ HB3.out.1 (by decide) (by decide)
   have hs4:=nT hs3 hb4.size
   obtain⟨-,-,g2⟩:=hb4k.c3
   have C5:=jH (u8w_k p base wt _ w4 (by simp only[List.length_append,be_length];omega) hw4 hs4)
   have HB4:=jH (aI (HB3.out.2.1.trans hb4) (HB3.out.2.2.trans hK4))
   clear hb4k hb4 hK4 C4
   go_wp2_with fail
   clear g2
   refine C5.out.mono ?_
   rintro e w5 ⟨rfl,hw5,hb5,hK5⟩
   have hs5:=nT hs4 hb5.size
   have HB5:=jH (aI hw5 (aI (HB4.out.1.trans hb5) (HB4.out.2.trans hK5)))
   clear hw5 hb5 hK5 C5
   go_wp2_with fail
   go_roundw
   case rel=>exact⟨k + 1,by omega,by go_num,by rw[HT.out];exact HB5.out.1,HB5.out.2.1,HB5.out.2.2,hs5⟩
   case measure=>simp[intOf];omega
  ·have hkk:k=n:=by omega
   have e3:decide ((k:Int) < (n:Int))=false:=decide_eq_false (by omega)
   have HE:Hid (WBuf wr base p GB):=by show WBuf _ _ _ _;rw[HG.out];rw[hkk,List.take_of_length_le (by omega)] at hwr;exact hwr
   clear hwr
   go_wp2_with fail
   go_end0
   exact⟨rfl,HE.out,hbr,hkr⟩
theorem results_row_tmp {P:Program}{fn:Func}{p u:Tmp}{ty:TypeId}(h:fn.results=#[.cell p ty,.tmp u])(tmps:Array Value)(w:World)(g:Nat)(t:TypeId)(cs:Array Value)(fr:Nat×Nat)(d:TypeDesc)
  (hp:tmps.getD p undef=PT (some ⟨g,0,none⟩))(hg:w.heap[g]? =some (.cells cs t fr))
  (hu:P.underlying ty=some d)(hd:(match d with|.struct _|.array _ _=>true|_=>false)=true)(hi:(P.info? ty).map (·.size)=some cs.size):
  (results fn tmps).run P w=.ok (tU #[.agg cs,tmps.getD u undef]) w:=by
 rw[results_cell_tmp h,hp]
 simp[asAddr,run_loadVar_row w g t ty cs fr d hg hu hd hi]
theorem infoFrame:(Pg.info? 284).map (·.size)=some 3:=by kernel_rfl
theorem recenc_del (kk:Tu)(hk:TuOk kk)(hmay:mayTu kk=true)(w:World):Calls Pg 212 #[.agg (recD kk),X Y 3] w fun e w'=>∃A' c',e=rT (tU #[aG #[X Y 2,X Y 3,G A' (tupB kk).length c'],X Y 0])∧w'.ownsRow w.heap.size 5 1 (G A' (tupB kk).length c') (tupB kk).length (bv (tupB kk))∧Below w.heap.size w w':=by
 have CM0:=recmay_del kk hmay
 have CW0:=fun p base W h hb=>recwrite_del p base kk hk W h hb
 have hlen:=tupB_length kk
 rw[hlen]
 generalize tupB kk=TB at *
 obtain⟨src,dst,proto,sport,dport⟩:=kk
 dsimp only[recD] at *
 have hb2:=((bR w.heap.size w).alloc (nR _) (cL #[X Y 2,X Z src,X Z dst,X Y proto,X Y sport,X Y dport,X Y 0,X Y 0,X Y 0,X Y 0,G none 0 0,X Y 0,X Y 0,X Y 0] 119)).alloc (by simp) (cL #[X Y 0,X Y 0,G none 0 0] 284)
 have k1:=(Blk.new w 119 #[X Y 2,X Z src,X Z dst,X Y proto,X Y sport,X Y dport,X Y 0,X Y 0,X Y 0,X Y 0,G none 0 0,X Y 0,X Y 0,X Y 0]).alloc (cL #[X Y 0,X Y 0,G none 0 0] 284)
 have k2:=Blk.new (w.alloc (cL #[X Y 2,X Z src,X Z dst,X Y proto,X Y sport,X Y dport,X Y 0,X Y 0,X Y 0,X Y 0,G none 0 0,X Y 0,X Y 0,X Y 0] 119)) 284 #[X Y 0,X Y 0,G none 0 0]
 rw[show (w.alloc (cL #[X Y 2,X Z src,X Z dst,X Y proto,X Y sport,X Y dport,X Y 0,X Y 0,X Y 0,X Y 0,G none 0 0,X Y 0,X Y 0,X Y 0] 119)).heap.size=w.heap.size + 1 by simp] at k2
 have hsz:((w.alloc (cL #[X Y 2,X Z src,X Z dst,X Y proto,X Y sport,X Y dport,X Y 0,X Y 0,X Y 0,X Y 0,G none 0 0,X Y 0,X Y 0,X Y 0] 119)).alloc (cL #[X Y 0,X Y 0,G none 0 0] 284)).heap.size=w.heap.size + 2:=by simp
 have CV:=jH (recver_any 3 (by omega) (by omega))
 rw[show ((3:Nat):Int)=3 from rfl] at CV
 have CM:=jH (CM0 ((w.alloc (cL #[X Y 2,X Z src,X Z dst,X Y proto,X Y sport,X Y dport,X Y 0,X Y 0,X Y 0,X Y 0,G none 0 0,X Y 0,X Y 0,X Y 0] 119)).alloc (cL #[X Y 0,X Y 0,G none 0 0] 284)))
 clear CM0
 obtain⟨q,hq⟩:∃q,q=w.heap.size:=⟨_,rfl⟩
 have HQ:=jH hq
 go_enter func212,ntmps212
 go_wp2_with fail
 refine(CV.out _).mono ?_
 rintro e w1 ⟨rfl,rfl⟩
 go_wp2_with fail
 rw[←hq] at k1 k2 hsz hb2⊢
 clear hq
 generalize (w.alloc (cL #[X Y 2,X Z src,X Z dst,X Y proto,X Y sport,X Y dport,X Y 0,X Y 0,X Y 0,X Y 0,G none 0 0,X Y 0,X Y 0,X Y 0] 119)).alloc (cL #[X Y 0,X Y 0,G none 0 0] 284)=W at *
 refine CM.out.mono ?_
 rintro e w1 ⟨rfl,hb1⟩
 have j1:=k1.below hb1 k1.lt
 have j2:=k2.below hb1 k2.lt
 have hbw:=hb2.trans (hb1.mono (by omega))
 have hs1:=hb1.size
 have H:=jH (aI j1 (aI j2 hbw))
 clear CV CM k1 k2 hb2
 obtain⟨p,hp⟩:∃p,p=w1.heap.size:=⟨_,rfl⟩
 have i1:=j1.alloc (cL #[G none 0 0] 251)
 have i2:=j2.alloc (cL #[G none 0 0] 251)
 have hwb:WBuf (w1.alloc (cL #[G none 0 0] 251)) p p []:=⟨nR _,none,0,hp▸Blk.new w1 251 #[G none 0 0],rfl,.inl ⟨rfl,rfl⟩⟩
 have hs2:(w1.alloc (cL #[G none 0 0] 251)).heap.size=p + 1:=by simp[hp]
 have hb12:Below p w1 (w1.alloc (cL #[G none 0 0] 251)):=hp▸(bR w1.heap.size w1).alloc (nR _) (cL #[G none 0 0] 251)
 have hqp:q + 2≤p:=by omega
 have CW:=jH (CW0 p p _ hwb (by omega))
 clear CW0
 obtain⟨e10,e11,e12,e13,e14,e15,e16,e17,e18,e19,e110,e111,e112,e113⟩:=i1.c14
 go_wp2_with fail
 rw[←hp]
 clear hp
 generalize w1.alloc (cL #[G none 0 0] 251)=w2 at *
 clear e10 e11 e12 e13 e14 e15 e16 e17 e18 e19 e110 e111 e112 e113
 refine CW.out.mono ?_
 rintro e w3 ⟨rfl,hw3,hb3,hK3⟩
 have i13:=i1.below hb3 (by omega)
 have i23:=i2.below hb3 (by omega)
 have hs3:=hb3.size
 have hb03:Below q w w3:=(H.out.2.2.trans (hb12.mono (by omega))).trans (hb3.mono (by omega))
 have CB:=jH (bytes_any p p TB w3.drew (hw3.below (bR _ _).drew) (by omega))
 rw[hlen] at CB
 have c0:w3.drew.cell? ⟨q,0,none⟩=some (X Y 2):=by have:=i13.cell 0;simpa using this
 have HM:=jH (aI i13 (aI i23 hb03))
 clear CW i1 i2 hw3 hb3 hK3 i13 i23 hb03 hwb hb12
 go_wp2_with fail
 go_region_held3 (fun wS=>wS.cell? ⟨q,0,none⟩=some (X Y 2)) (first|with_reducible exact c0|with_reducible exact e0|with_reducible exact g0 _ _ _|fail)
  (first
   |(go_at_call 163;(with_reducible refine CB.out.mono ?_);rintro e w4 ⟨A4,c4,rfl,hown4,hb4⟩;have n1:=HM.out.1.drew.below hb4 HM.out.1.lt;have n2:=HM.out.2.1.drew.below hb4 HM.out.2.1.lt;have e0:w4.cell? ⟨q,0,none⟩=some (X Y 2):=by {have:=n1.cell 0;simpa using this};have g0:∀v u z,(((w4.setCell ⟨q + 1,0,none⟩ v).setCell ⟨q + 1,1,none⟩ u).setCell ⟨q + 1,2,none⟩ z).cell? ⟨q,0,none⟩=some (X Y 2):=fun v u z=>by {have:=(((n1.far (p:=⟨q + 1,0,none⟩) (by simp) v).far (p:=⟨q + 1,1,none⟩) (by simp) u).far (p:=⟨q + 1,2,none⟩) (by simp) z).cell 0;simpa using this};have s0:w4.cell? ⟨q + 1,0,none⟩=some (X Y 0):=by {have:=n2.cell 0;simpa using this};have z0:=n2.frozen 0;have s1:w4.cell? ⟨q + 1,1,none⟩=some (X Y 0):=by {have:=n2.cell 1;simpa using this};have z1:=n2.frozen 1;have s2:w4.cell? ⟨q + 1,2,none⟩=some (G none 0 0):=by {have:=n2.cell 2;simpa using this};have z2:=n2.frozen 2;have hl2:=n2.lt;have t1:∀v,(w4.setCell ⟨q + 1,0,none⟩ v).cell? ⟨q + 1,1,none⟩=some (X Y 0):=fun v=>by {have:=(n2.set_ 0 v).cell 1;simpa using this};have y1:∀v,(w4.setCell ⟨q + 1,0,none⟩ v).frozen? ⟨q + 1,1,none⟩=false:=fun v=>(n2.set_ 0 v).frozen 1;have t2:∀v u,((w4.setCell ⟨q + 1,0,none⟩ v).setCell ⟨q + 1,1,none⟩ u).cell? ⟨q + 1,2,none⟩=some (G none 0 0):=fun v u=>by {have:=((n2.set_ 0 v).set_ 1 u).cell 2;simpa using this};have y2:∀v u,((w4.setCell ⟨q + 1,0,none⟩ v).setCell ⟨q + 1,1,none⟩ u).frozen? ⟨q + 1,2,none⟩=false:=fun v u=>((n2.set_ 0 v).set_ 1 u).frozen 2))
 all_goals
  have n5:=((n2.set_ 0 (X Y 2)).set_ 1 (X Y 3)).set_ 2 (G A4 13 c4)
  have o5:=own_set_far (own_set_far (own_set_far hown4 n2 (by decide) 0 (X Y 2)) (n2.set_ 0 (X Y 2)) (by decide) 1 (X Y 3)) ((n2.set_ 0 (X Y 2)).set_ 1 (X Y 3)) (by decide) 2 (G A4 13 c4)
  have hqs:q≤w3.drew.heap.size:=by show q≤w3.heap.size;omega
  have b5:Below q w (((w4.setCell ⟨q + 1,0,none⟩ (X Y 2)).setCell ⟨q + 1,1,none⟩ (X Y 3)).setCell ⟨q + 1,2,none⟩ (G A4 13 c4)):=(((HM.out.2.2.drew.trans (hb4.mono hqs)).setCell (p:=⟨q + 1,0,none⟩) (by simp) _).setCell (p:=⟨q + 1,1,none⟩) (by simp) _).setCell (p:=⟨q + 1,2,none⟩) (by simp) _
  generalize ((w4.setCell ⟨q + 1,0,none⟩ (X Y 2)).setCell ⟨q + 1,1,none⟩ (X Y 3)).setCell ⟨q + 1,2,none⟩ (G A4 13 c4)=w5 at *
  have HE:=jH (aI n5 (aI (ownsRow_mono o5 (by have:=HQ.out;omega:w.heap.size≤w3.drew.heap.size)) b5))
  clear n5 o5 b5 g0 t1 y1 t2 y2 hown4
  go_wp2_with fail
  refine bodyPost_ret (results_row_tmp rfl _ _ (q + 1) 284 #[X Y 2,X Y 3,G A4 13 c4] (0,0) _ rfl HE.out.1 underlying284 rfl infoFrame) rfl ?_
  exact⟨A4,c4,rfl,HE.out.2.1,HQ.out▸HE.out.2.2⟩
theorem recenc_put (f:Fl)(hf:FlOk f)(w:World):Calls Pg 212 #[.agg (recC 1 f 0 (G none 0 0)),X Y 3] w fun e w'=>∃A' c',e=rT (tU #[aG #[X Y 1,X Y 3,G A' (putB f).length c'],X Y 0])∧w'.ownsRow w.heap.size 5 1 (G A' (putB f).length c') (putB f).length (bv (putB f))∧Below w.heap.size w w':=by
 have CM0:=recmay_put f hf
 have CW0:=fun p base W h hb=>recwrite_put p base f hf W h hb
 have hlen:=putB_length f
 rw[hlen]
 generalize putB f=TB at *
 obtain⟨⟨src,dst,proto,sport,dport⟩,be0,gen,seen⟩:=f
 dsimp only[recC] at *
 have hb2:=((bR w.heap.size w).alloc (nR _) (cL #[X Y 1,X Z src,X Z dst,X Y proto,X Y sport,X Y dport,X Y be0,X Y gen,X Y seen,X Y 0,G none 0 0,X Y 0,X Y 0,X Y 0] 119)).alloc (by simp) (cL #[X Y 0,X Y 0,G none 0 0] 284)
 have k1:=(Blk.new w 119 #[X Y 1,X Z src,X Z dst,X Y proto,X Y sport,X Y dport,X Y be0,X Y gen,X Y seen,X Y 0,G none 0 0,X Y 0,X Y 0,X Y 0]).alloc (cL #[X Y 0,X Y 0,G none 0 0] 284)
 have k2:=Blk.new (w.alloc (cL #[X Y 1,X Z src,X Z dst,X Y proto,X Y sport,X Y dport,X Y be0,X Y gen,X Y seen,X Y 0,G none 0 0,X Y 0,X Y 0,X Y 0] 119)) 284 #[X Y 0,X Y 0,G none 0 0]
 rw[show (w.alloc (cL #[X Y 1,X Z src,X Z dst,X Y proto,X Y sport,X Y dport,X Y be0,X Y gen,X Y seen,X Y 0,G none 0 0,X Y 0,X Y 0,X Y 0] 119)).heap.size=w.heap.size + 1 by simp] at k2
 have hsz:((w.alloc (cL #[X Y 1,X Z src,X Z dst,X Y proto,X Y sport,X Y dport,X Y be0,X Y gen,X Y seen,X Y 0,G none 0 0,X Y 0,X Y 0,X Y 0] 119)).alloc (cL #[X Y 0,X Y 0,G none 0 0] 284)).heap.size=w.heap.size + 2:=by simp
 have CV:=jH (recver_any 3 (by omega) (by omega))
 rw[show ((3:Nat):Int)=3 from rfl] at CV
 have CM:=jH (CM0 ((w.alloc (cL #[X Y 1,X Z src,X Z dst,X Y proto,X Y sport,X Y dport,X Y be0,X Y gen,X Y seen,X Y 0,G none 0 0,X Y 0,X Y 0,X Y 0] 119)).alloc (cL #[X Y 0,X Y 0,G none 0 0] 284)))
 clear CM0
 obtain⟨q,hq⟩:∃q,q=w.heap.size:=⟨_,rfl⟩
 have HQ:=jH hq
 go_enter func212,ntmps212
 go_wp2_with fail
 refine(CV.out _).mono ?_
 rintro e w1 ⟨rfl,rfl⟩
 go_wp2_with fail
 rw[←hq] at k1 k2 hsz hb2⊢
 clear hq
 generalize (w.alloc (cL #[X Y 1,X Z src,X Z dst,X Y proto,X Y sport,X Y dport,X Y be0,X Y gen,X Y seen,X Y 0,G none 0 0,X Y 0,X Y 0,X Y 0] 119)).alloc (cL #[X Y 0,X Y 0,G none 0 0] 284)=W at *
 refine CM.out.mono ?_
 rintro e w1 ⟨rfl,hb1⟩
 have j1:=k1.below hb1 k1.lt
 have j2:=k2.below hb1 k2.lt
 have hbw:=hb2.trans (hb1.mono (by omega))
 have hs1:=hb1.size
 have H:=jH (aI j1 (aI j2 hbw))
 clear CV CM k1 k2 hb2
 obtain⟨p,hp⟩:∃p,p=w1.heap.size:=⟨_,rfl⟩
 have i1:=j1.alloc (cL #[G none 0 0] 251)
 have i2:=j2.alloc (cL #[G none 0 0] 251)
 have hwb:WBuf (w1.alloc (cL #[G none 0 0] 251)) p p []:=⟨nR _,none,0,hp▸Blk.new w1 251 #[G none 0 0],rfl,.inl ⟨rfl,rfl⟩⟩
 have hs2:(w1.alloc (cL #[G none 0 0] 251)).heap.size=p + 1:=by simp[hp]
 have hb12:Below p w1 (w1.alloc (cL #[G none 0 0] 251)):=hp▸(bR w1.heap.size w1).alloc (nR _) (cL #[G none 0 0] 251)
 have hqp:q + 2≤p:=by omega
 have CW:=jH (CW0 p p _ hwb (by omega))
 clear CW0
 obtain⟨e10,e11,e12,e13,e14,e15,e16,e17,e18,e19,e110,e111,e112,e113⟩:=i1.c14
 go_wp2_with fail
 rw[←hp]
 clear hp
 generalize w1.alloc (cL #[G none 0 0] 251)=w2 at *
 clear e10 e11 e12 e13 e14 e15 e16 e17 e18 e19 e110 e111 e112 e113
 refine CW.out.mono ?_
 rintro e w3 ⟨rfl,hw3,hb3,hK3⟩
 have i13:=i1.below hb3 (by omega)
 have i23:=i2.below hb3 (by omega)
 have hs3:=hb3.size
 have hb03:Below q w w3:=(H.out.2.2.trans (hb12.mono (by omega))).trans (hb3.mono (by omega))
 have CB:=jH (bytes_any p p TB w3.drew (hw3.below (bR _ _).drew) (by omega))
 rw[hlen] at CB
 have c0:w3.drew.cell? ⟨q,0,none⟩=some (X Y 1):=by have:=i13.cell 0;simpa using this
 have HM:=jH (aI i13 (aI i23 hb03))
 clear CW i1 i2 hw3 hb3 hK3 i13 i23 hb03 hwb hb12
 go_wp2_with fail
 go_region_held3 (fun wS=>wS.cell? ⟨q,0,none⟩=some (X Y 1)) (first|with_reducible exact c0|with_reducible exact e0|with_reducible exact g0 _ _ _|fail)
  (first
   |(go_at_call 163;(with_reducible refine CB.out.mono ?_);rintro e w4 ⟨A4,c4,rfl,hown4,hb4⟩;have n1:=HM.out.1.drew.below hb4 HM.out.1.lt;have n2:=HM.out.2.1.drew.below hb4 HM.out.2.1.lt;have e0:w4.cell? ⟨q,0,none⟩=some (X Y 1):=by {have:=n1.cell 0;simpa using this};have g0:∀v u z,(((w4.setCell ⟨q + 1,0,none⟩ v).setCell ⟨q + 1,1,none⟩ u).setCell ⟨q + 1,2,none⟩ z).cell? ⟨q,0,none⟩=some (X Y 1):=fun v u z=>by {have:=(((n1.far (p:=⟨q + 1,0,none⟩) (by simp) v).far (p:=⟨q + 1,1,none⟩) (by simp) u).far (p:=⟨q + 1,2,none⟩) (by simp) z).cell 0;simpa using this};have s0:w4.cell? ⟨q + 1,0,none⟩=some (X Y 0):=by {have:=n2.cell 0;simpa using this};have z0:=n2.frozen 0;have s1:w4.cell? ⟨q + 1,1,none⟩=some (X Y 0):=by {have:=n2.cell 1;simpa using this};have z1:=n2.frozen 1;have s2:w4.cell? ⟨q + 1,2,none⟩=some (G none 0 0):=by {have:=n2.cell 2;simpa using this};have z2:=n2.frozen 2;have hl2:=n2.lt;have t1:∀v,(w4.setCell ⟨q + 1,0,none⟩ v).cell? ⟨q + 1,1,none⟩=some (X Y 0):=fun v=>by {have:=(n2.set_ 0 v).cell 1;simpa using this};have y1:∀v,(w4.setCell ⟨q + 1,0,none⟩ v).frozen? ⟨q + 1,1,none⟩=false:=fun v=>(n2.set_ 0 v).frozen 1;have t2:∀v u,((w4.setCell ⟨q + 1,0,none⟩ v).setCell ⟨q + 1,1,none⟩ u).cell? ⟨q + 1,2,none⟩=some (G none 0 0):=fun v u=>by {have:=((n2.set_ 0 v).set_ 1 u).cell 2;simpa using this};have y2:∀v u,((w4.setCell ⟨q + 1,0,none⟩ v).setCell ⟨q + 1,1,none⟩ u).frozen? ⟨q + 1,2,none⟩=false:=fun v u=>((n2.set_ 0 v).set_ 1 u).frozen 2))
 all_goals
  have n5:=((n2.set_ 0 (X Y 1)).set_ 1 (X Y 3)).set_ 2 (G A4 27 c4)
  have o5:=own_set_far (own_set_far (own_set_far hown4 n2 (by decide) 0 (X Y 1)) (n2.set_ 0 (X Y 1)) (by decide) 1 (X Y 3)) ((n2.set_ 0 (X Y 1)).set_ 1 (X Y 3)) (by decide) 2 (G A4 27 c4)
  have hqs:q≤w3.drew.heap.size:=by show q≤w3.heap.size;omega
  have b5:Below q w (((w4.setCell ⟨q + 1,0,none⟩ (X Y 1)).setCell ⟨q + 1,1,none⟩ (X Y 3)).setCell ⟨q + 1,2,none⟩ (G A4 27 c4)):=(((HM.out.2.2.drew.trans (hb4.mono hqs)).setCell (p:=⟨q + 1,0,none⟩) (by simp) _).setCell (p:=⟨q + 1,1,none⟩) (by simp) _).setCell (p:=⟨q + 1,2,none⟩) (by simp) _
  generalize ((w4.setCell ⟨q + 1,0,none⟩ (X Y 1)).setCell ⟨q + 1,1,none⟩ (X Y 3)).setCell ⟨q + 1,2,none⟩ (G A4 27 c4)=w5 at *
  have HE:=jH (aI n5 (aI (ownsRow_mono o5 (by have:=HQ.out;omega:w.heap.size≤w3.drew.heap.size)) b5))
  clear n5 o5 b5 g0 t1 y1 t2 y2 hown4
  go_wp2_with fail
  refine bodyPost_ret (results_row_tmp rfl _ _ (q + 1) 284 #[X Y 1,X Y 3,G A4 27 c4] (0,0) _ rfl HE.out.1 underlying284 rfl infoFrame) rfl ?_
  exact⟨A4,c4,rfl,HE.out.2.1,HQ.out▸HE.out.2.2⟩
theorem recenc_gen (gen:Nat)(hgen:gen≤1000000)(A:Option Addr)(n c B:Nat)(l:List Be)(w:World)(hr:Reads w B 3 A n (bks l))(hB:B≤w.heap.size)(hn:n≤16)(hok:∀b∈l,beOk b=true)(had:∀b∈l,b.addr < 4294967296):
  Calls Pg 212 #[.agg (recG (gen:Int) (G A n c)),X Y 3] w fun e w'=>∃A' c',e=rT (tU #[aG #[X Y 3,X Y 3,G A' (genB gen l).length c'],X Y 0])∧w'.ownsRow w.heap.size 5 1 (G A' (genB gen l).length c') (genB gen l).length (bv (genB gen l))∧Below w.heap.size w w':=by
 have CM0:=fun W hrW hBW=>recmay_gen gen hgen A n c B l W hrW hBW hn hok
 have CW0:=fun p base W hrW hBb h hb=>recwrite_gen p base gen hgen A n c B l W hrW hBb (by omega) had h hb
 have hlen:(genB gen l).length=5 + n * 7:=by rw[genB_length,hr.be_length]
 obtain⟨m,hm⟩:∃m,5 + n * 7=m:=⟨_,rfl⟩
 rw[hm] at hlen
 have hmb:m≤1000:=by omega
 clear hm
 rw[hlen]
 generalize genB gen l=TB at *
 unfold recG at *
 have hb2:=((bR w.heap.size w).alloc (nR _) (cL #[X Y 3,X Z 0,X Z 0,X Y 0,X Y 0,X Y 0,X Y 0,X Y 0,X Y 0,X Y gen,G A n c,X Y 0,X Y 0,X Y 0] 119)).alloc (by simp) (cL #[X Y 0,X Y 0,G none 0 0] 284)
 have k1:=(Blk.new w 119 #[X Y 3,X Z 0,X Z 0,X Y 0,X Y 0,X Y 0,X Y 0,X Y 0,X Y 0,X Y gen,G A n c,X Y 0,X Y 0,X Y 0]).alloc (cL #[X Y 0,X Y 0,G none 0 0] 284)
 have k2:=Blk.new (w.alloc (cL #[X Y 3,X Z 0,X Z 0,X Y 0,X Y 0,X Y 0,X Y 0,X Y 0,X Y 0,X Y gen,G A n c,X Y 0,X Y 0,X Y 0] 119)) 284 #[X Y 0,X Y 0,G none 0 0]
 rw[show (w.alloc (cL #[X Y 3,X Z 0,X Z 0,X Y 0,X Y 0,X Y 0,X Y 0,X Y 0,X Y 0,X Y gen,G A n c,X Y 0,X Y 0,X Y 0] 119)).heap.size=w.heap.size + 1 by simp] at k2
 have hsz:((w.alloc (cL #[X Y 3,X Z 0,X Z 0,X Y 0,X Y 0,X Y 0,X Y 0,X Y 0,X Y 0,X Y gen,G A n c,X Y 0,X Y 0,X Y 0] 119)).alloc (cL #[X Y 0,X Y 0,G none 0 0] 284)).heap.size=w.heap.size + 2:=by simp
 have CV:=jH (recver_any 3 (by omega) (by omega))
 rw[show ((3:Nat):Int)=3 from rfl] at CV
 have hrW:=hr.below (hb2.mono hB)
 have CM:=jH (CM0 ((w.alloc (cL #[X Y 3,X Z 0,X Z 0,X Y 0,X Y 0,X Y 0,X Y 0,X Y 0,X Y 0,X Y gen,G A n c,X Y 0,X Y 0,X Y 0] 119)).alloc (cL #[X Y 0,X Y 0,G none 0 0] 284)) hrW (by rw[hsz];omega))
 clear CM0 hr
 obtain⟨q,hq⟩:∃q,q=w.heap.size:=⟨_,rfl⟩
 have HQ:=jH hq
 go_enter func212,ntmps212
 go_wp2_with fail
 refine(CV.out _).mono ?_
 rintro e w1 ⟨rfl,rfl⟩
 go_wp2_with fail
 rw[←hq] at k1 k2 hsz hb2⊢
 clear hq
 generalize (w.alloc (cL #[X Y 3,X Z 0,X Z 0,X Y 0,X Y 0,X Y 0,X Y 0,X Y 0,X Y 0,X Y gen,G A n c,X Y 0,X Y 0,X Y 0] 119)).alloc (cL #[X Y 0,X Y 0,G none 0 0] 284)=W at *
 refine CM.out.mono ?_
 rintro e w1 ⟨rfl,hb1⟩
 have j1:=k1.below hb1 k1.lt
 have j2:=k2.below hb1 k2.lt
 have hbw:=hb2.trans (hb1.mono (by omega))
 have hs1:=hb1.size
 have H:=jH (aI j1 (aI j2 hbw))
 clear CV CM k1 k2 hb2
 obtain⟨p,hp⟩:∃p,p=w1.heap.size:=⟨_,rfl⟩
 have i1:=j1.alloc (cL #[G none 0 0] 251)
 have i2:=j2.alloc (cL #[G none 0 0] 251)
 have hwb:WBuf (w1.alloc (cL #[G none 0 0] 251)) p p []:=⟨nR _,none,0,hp▸Blk.new w1 251 #[G none 0 0],rfl,.inl ⟨rfl,rfl⟩⟩
 have hs2:(w1.alloc (cL #[G none 0 0] 251)).heap.size=p + 1:=by simp[hp]
 have hb12:Below p w1 (w1.alloc (cL #[G none 0 0] 251)):=hp▸(bR w1.heap.size w1).alloc (nR _) (cL #[G none 0 0] 251)
 have hqp:q + 2≤p:=by omega
 have hrw1:=(hrW.below (hb1.mono (by have:=HQ.out;omega))).below (hb12.mono (by have:=HQ.out;omega))
 have CW:=jH (CW0 p p _ hrw1 (by have:=HQ.out;omega) hwb (by omega))
 clear CW0 hrW hrw1
 obtain⟨e10,e11,e12,e13,e14,e15,e16,e17,e18,e19,e110,e111,e112,e113⟩:=i1.c14
 go_wp2_with fail
 rw[←hp]
 clear hp
 generalize w1.alloc (cL #[G none 0 0] 251)=w2 at *
 clear e10 e11 e12 e13 e14 e15 e16 e17 e18 e19 e110 e111 e112 e113
 refine CW.out.mono ?_
 rintro e w3 ⟨rfl,hw3,hb3,hK3⟩
 have i13:=i1.below hb3 (by omega)
 have i23:=i2.below hb3 (by omega)
 have hs3:=hb3.size
 have hb03:Below q w w3:=(H.out.2.2.trans (hb12.mono (by omega))).trans (hb3.mono (by omega))
 have CB:=jH (bytes_any p p TB w3.drew (hw3.below (bR _ _).drew) (by omega))
 rw[hlen] at CB
 have c0:w3.drew.cell? ⟨q,0,none⟩=some (X Y 3):=by have:=i13.cell 0;simpa using this
 have HM:=jH (aI i13 (aI i23 hb03))
 clear CW i1 i2 hw3 hb3 hK3 i13 i23 hb03 hwb hb12
 go_wp2_with fail
 go_region_held3 (fun wS=>wS.cell? ⟨q,0,none⟩=some (X Y 3)) (first|with_reducible exact c0|with_reducible exact e0|with_reducible exact g0 _ _ _|fail)
  (first
   |(go_at_call 163;(with_reducible refine CB.out.mono ?_);rintro e w4 ⟨A4,c4,rfl,hown4,hb4⟩;have n1:=HM.out.1.drew.below hb4 HM.out.1.lt;have n2:=HM.out.2.1.drew.below hb4 HM.out.2.1.lt;have e0:w4.cell? ⟨q,0,none⟩=some (X Y 3):=by {have:=n1.cell 0;simpa using this};have g0:∀v u z,(((w4.setCell ⟨q + 1,0,none⟩ v).setCell ⟨q + 1,1,none⟩ u).setCell ⟨q + 1,2,none⟩ z).cell? ⟨q,0,none⟩=some (X Y 3):=fun v u z=>by {have:=(((n1.far (p:=⟨q + 1,0,none⟩) (by simp) v).far (p:=⟨q + 1,1,none⟩) (by simp) u).far (p:=⟨q + 1,2,none⟩) (by simp) z).cell 0;simpa using this};have s0:w4.cell? ⟨q + 1,0,none⟩=some (X Y 0):=by {have:=n2.cell 0;simpa using this};have z0:=n2.frozen 0;have s1:w4.cell? ⟨q + 1,1,none⟩=some (X Y 0):=by {have:=n2.cell 1;simpa using this};have z1:=n2.frozen 1;have s2:w4.cell? ⟨q + 1,2,none⟩=some (G none 0 0):=by {have:=n2.cell 2;simpa using this};have z2:=n2.frozen 2;have hl2:=n2.lt;have t1:∀v,(w4.setCell ⟨q + 1,0,none⟩ v).cell? ⟨q + 1,1,none⟩=some (X Y 0):=fun v=>by {have:=(n2.set_ 0 v).cell 1;simpa using this};have y1:∀v,(w4.setCell ⟨q + 1,0,none⟩ v).frozen? ⟨q + 1,1,none⟩=false:=fun v=>(n2.set_ 0 v).frozen 1;have t2:∀v u,((w4.setCell ⟨q + 1,0,none⟩ v).setCell ⟨q + 1,1,none⟩ u).cell? ⟨q + 1,2,none⟩=some (G none 0 0):=fun v u=>by {have:=((n2.set_ 0 v).set_ 1 u).cell 2;simpa using this};have y2:∀v u,((w4.setCell ⟨q + 1,0,none⟩ v).setCell ⟨q + 1,1,none⟩ u).frozen? ⟨q + 1,2,none⟩=false:=fun v u=>((n2.set_ 0 v).set_ 1 u).frozen 2))
 all_goals
  have n5:=((n2.set_ 0 (X Y 3)).set_ 1 (X Y 3)).set_ 2 (G A4 m c4)
  have o5:=own_set_far (own_set_far (own_set_far hown4 n2 (by decide) 0 (X Y 3)) (n2.set_ 0 (X Y 3)) (by decide) 1 (X Y 3)) ((n2.set_ 0 (X Y 3)).set_ 1 (X Y 3)) (by decide) 2 (G A4 m c4)
  have hqs:q≤w3.drew.heap.size:=by show q≤w3.heap.size;omega
  have b5:Below q w (((w4.setCell ⟨q + 1,0,none⟩ (X Y 3)).setCell ⟨q + 1,1,none⟩ (X Y 3)).setCell ⟨q + 1,2,none⟩ (G A4 m c4)):=(((HM.out.2.2.drew.trans (hb4.mono hqs)).setCell (p:=⟨q + 1,0,none⟩) (by simp) _).setCell (p:=⟨q + 1,1,none⟩) (by simp) _).setCell (p:=⟨q + 1,2,none⟩) (by simp) _
  generalize ((w4.setCell ⟨q + 1,0,none⟩ (X Y 3)).setCell ⟨q + 1,1,none⟩ (X Y 3)).setCell ⟨q + 1,2,none⟩ (G A4 m c4)=w5 at *
  have HE:=jH (aI n5 (aI (ownsRow_mono o5 (by have:=HQ.out;omega:w.heap.size≤w3.drew.heap.size)) b5))
  clear n5 o5 b5 g0 t1 y1 t2 y2 hown4
  go_wp2_with fail
  refine bodyPost_ret (results_row_tmp rfl _ _ (q + 1) 284 #[X Y 3,X Y 3,G A4 m c4] (0,0) _ rfl HE.out.1 underlying284 rfl infoFrame) rfl ?_
  exact⟨A4,c4,rfl,HE.out.2.1,HQ.out▸HE.out.2.2⟩
theorem ktS {w:World}{q src dst:Nat}{pr sp dp:Int}(h:Blk w q 39 #[X Z src,X Z dst,X Y pr,X Y sp,X Y dp]):w.cell? ⟨q,0,none⟩=some (X Z src)∧w.cell? ⟨q,1,none⟩=some (X Z dst)∧w.cell? ⟨q,2,none⟩=some (X Y pr)∧w.cell? ⟨q,3,none⟩=some (X Y sp)∧w.cell? ⟨q,4,none⟩=some (X Y dp):=⟨h.cell 0,h.cell 1,h.cell 2,h.cell 3,h.cell 4⟩
theorem rflow_ok (p:Nat)(f:Fl)(hf:FlOk f)(r:List Nat)(w:World)(hl:r.length≤5000)(ha:AllB r)(h:RBuf w p (putB f++r)):
  Calls Pg 409 #[PT (some ⟨p,0,none⟩),X Y 3] w fun e w'=>e=rT (tU #[.agg f.vals,bL true])∧RG p r w w':=by
 obtain⟨⟨src,dst,pr,sp,dp⟩,be,gen,seen⟩:=f
 obtain⟨hk,hm,h1,h2,h3⟩:=hf
 dsimp only at hk hm h1 h2 h3
 obtain⟨q,hq⟩:∃q,q=w.heap.size:=⟨_,rfl⟩
 have hp:p < q:=hq▸h.lt
 have hb0:=Blk.new w 47 #[X Z 0,X Z 0,X Y 0,X Y 0,X Y 0,X Y 0,X Y 0,X Y 0]
 have hbl0:w.grownBy (w.alloc (cL #[X Z 0,X Z 0,X Y 0,X Y 0,X Y 0,X Y 0,X Y 0,X Y 0] 47)) (some p):=grown_below ((bR _ w).alloc (nR _) _)
 have hr0:RBuf (w.alloc (cL #[X Z 0,X Z 0,X Y 0,X Y 0,X Y 0,X Y 0,X Y 0,X Y 0] 47)) p (tupB ⟨src,dst,pr,sp,dp⟩++(Go.Proofs.YtgjnoccflmjheaaGreatDoor.be be 2++(Go.Proofs.YtgjnoccflmjheaaGreatDoor.be gen 4++(Go.Proofs.YtgjnoccflmjheaaGreatDoor.be seen 8++r)))):=by
  have h:=h.below ((bR w.heap.size w).alloc (nR _) (cL #[X Z 0,X Z 0,X Y 0,X Y 0,X Y 0,X Y 0,X Y 0,X Y 0] 47))
  unfold putB at h
  simpa only[List.append_assoc] using h
 rw[←hq] at hb0
 clear h
 dsimp only[Fl.vals]
 go_enter func409,ntmps409
 go_wp2_with fail
 rw[←hq]
 have HE:=jH hq
 clear hq
 generalize (w.alloc (cL #[X Z 0,X Z 0,X Y 0,X Y 0,X Y 0,X Y 0,X Y 0,X Y 0] 47))=w1 at *
 refine(tread_any p ⟨src,dst,pr,sp,dp⟩ hk hm _ w1 (by simp[be_length];omega) (allB_be (allB_be (allB_be ha))) hr0).mono ?_
 rintro e w2 ⟨rfl,hr⟩
 dsimp only[Tu.vals]
 obtain⟨q6,hq6⟩:∃q6,q6=w2.heap.size:=⟨_,rfl⟩
 have hb2:=hb0.grown hr.2 (by simp;omega)
 have H3:(fun Vv:World=>Hid (RBuf Vv p (Go.Proofs.YtgjnoccflmjheaaGreatDoor.be be 2++(Go.Proofs.YtgjnoccflmjheaaGreatDoor.be gen 4++(Go.Proofs.YtgjnoccflmjheaaGreatDoor.be seen 8++r)))∧w.grownBy Vv (some p)∧Blk Vv q 47 #[X Z 0,X Z 0,X Y 0,X Y 0,X Y 0,X Y 0,X Y 0,X Y 0]∧Blk Vv q6 39 #[X Z src,X Z dst,X Y pr,X Y sp,X Y dp]∧p < q6∧q < q6)) (w2.alloc (cL #[X Z src,X Z dst,X Y pr,X Y sp,X Y dp] 39)):=by
  have:=hb2.lt
  have:=hr.1.lt
  exact⟨hr.1.below ((bR _ _).alloc (nR _) _),(hbl0.trans hr.2).trans (grown_below ((bR _ w2).alloc (nR _) _)),hb2.alloc _,hq6▸Blk.new w2 _ _,by omega,by omega⟩
 clear hb2 hr hr0 hb0 hbl0
 go_upto_region 2 with fail
 rw[←hq6]
 clear hq6
 generalize (w2.alloc (cL #[X Z src,X Z dst,X Y pr,X Y sp,X Y dp] 39))=w3 at *
 go_cut [8] from 9 (fun v8 w5=>∃q8,v8=PT (some ⟨q8,0,none⟩)∧Hid (RBuf w5 p (Go.Proofs.YtgjnoccflmjheaaGreatDoor.be gen 4++(Go.Proofs.YtgjnoccflmjheaaGreatDoor.be seen 8++r))∧w.grownBy w5 (some p)∧Blk w5 q 47 #[X Z 0,X Z 0,X Y 0,X Y 0,X Y 0,X Y 0,X Y 0,X Y 0]∧Blk w5 q8 47 #[X Z src,X Z dst,X Y pr,X Y sp,X Y dp,X Y be,X Y 0,X Y 0]∧p < q8∧q < q8))
 case first=>
  have hq9:q < w3.heap.size∧q6≠w3.heap.size∧p < w3.heap.size:=⟨H3.out.2.2.1.lt,Nat.ne_of_lt H3.out.2.2.2.1.lt,H3.out.1.lt⟩
  have d0:=ktS H3.out.2.2.2.1.drew
  have e0:=ktS (H3.out.2.2.2.1.alloc (cL #[X Z 0,X Z 0,X Y 0,X Y 0,X Y 0,X Y 0,X Y 0,X Y 0] 47)).drew
  have e1:=ktS (H3.out.2.2.2.1.alloc (cL #[X Z 0,X Z 0,X Y 0,X Y 0,X Y 0,X Y 0,X Y 0,X Y 0] 47))
  go_region_held3 (fun wS=>wS.cell? ⟨q6,0,none⟩=some (X Z src)∧wS.cell? ⟨q6,1,none⟩=some (X Z dst)∧wS.cell? ⟨q6,2,none⟩=some (X Y pr)∧wS.cell? ⟨q6,3,none⟩=some (X Y sp)∧wS.cell? ⟨q6,4,none⟩=some (X Y dp)) (first|with_reducible exact d0|with_reducible exact d1|with_reducible exact d2|with_reducible exact d3|with_reducible exact d4|with_reducible exact e0|with_reducible exact e1|fail)
   (first
   |(go_at_call 306;(with_reducible refine(u16g p be _ w3.drew (by omega) (by simp[be_length];omega) (allB_be (allB_be ha)) (H3.out.1.below ((bR _ w3).drew))).mono ?_);rintro e w4 ⟨rfl,hr4⟩;have b6:=H3.out.2.2.2.1.drew.grown hr4.2 (by have:=H3.out.2.2.2.2.1;simp;omega);have d1:=ktS b6;have d2:=ktS (b6.alloc (cL #[X Z 0,X Z 0,X Y 0,X Y 0,X Y 0,X Y 0,X Y 0,X Y 0] 47));have d3:=ktS (b6.alloc (cL #[X Z src,X Z dst,X Y pr,X Y sp,X Y dp,X Y be,X Y 0,X Y 0] 47)))
   |(go_at_call 306;(with_reducible refine(u16g p be _ (w3.alloc (cL #[X Z 0,X Z 0,X Y 0,X Y 0,X Y 0,X Y 0,X Y 0,X Y 0] 47)).drew (by omega) (by simp[be_length];omega) (allB_be (allB_be ha)) (H3.out.1.below (((bR _ w3).alloc (nR _) _).drew))).mono ?_);rintro e w4 ⟨rfl,hr4⟩;have b6:=(H3.out.2.2.2.1.alloc (cL #[X Z 0,X Z 0,X Y 0,X Y 0,X Y 0,X Y 0,X Y 0,X Y 0] 47)).drew.grown hr4.2 (by have:=H3.out.2.2.2.2.1;simp;omega);have d1:=ktS b6;have b8:=(Blk.new w3 47 #[X Z 0,X Z 0,X Y 0,X Y 0,X Y 0,X Y 0,X Y 0,X Y 0]).drew.grown hr4.2 (by have:=hq9;simp;omega)
     have z0:=(b8).frozen 0
     have y0:=(b8).cell 0
     have nn_0:=(b8).set_ 0 (X Z src)
     have z1:=(nn_0).frozen 1
     have y1:=(nn_0).cell 1
     have nn_1:=(nn_0).set_ 1 (X Z dst)
     have z2:=(nn_1).frozen 2
     have y2:=(nn_1).cell 2
     have nn_2:=(nn_1).set_ 2 (X Y pr)
     have z3:=(nn_2).frozen 3
     have y3:=(nn_2).cell 3
     have nn_3:=(nn_2).set_ 3 (X Y sp)
     have z4:=(nn_3).frozen 4
     have y4:=(nn_3).cell 4
     have nn_4:=(nn_3).set_ 4 (X Y dp)
     have z5:=(nn_4).frozen 5
     have y5:=(nn_4).cell 5
     have nn_5:=(nn_4).set_ 5 (X Y be)
     have z6:=(nn_5).frozen 6
     have y6:=(nn_5).cell 6
     have nn_6:=(nn_5).set_ 6 (X Y 0)
     have z7:=(nn_6).frozen 7
     have y7:=(nn_6).cell 7
     have nn:=(nn_6).set_ 7 (X Y 0)
     have mm0:=nn.cell 0
     have mm1:=nn.cell 1
     have mm2:=nn.cell 2
     have mm3:=nn.cell 3
     have mm4:=nn.cell 4
     have mm5:=nn.cell 5
     have mm6:=nn.cell 6
     have mm7:=nn.cell 7
     simp only[ga,gz,gN,Array.setIfInBounds,List.set_toArray,List.set_cons_zero,List.set_cons_succ,List.size_toArray,List.length_cons,List.length_nil] at y0 y1 y2 y3 y4 y5 y6 y7 mm0 mm1 mm2 mm3 mm4 mm5 mm6 mm7 nn
     clear nn_0 nn_1 nn_2 nn_3 nn_4 nn_5 nn_6
     have d4:=ktS (((((((((b6.far (p:=⟨w3.heap.size,0,none⟩) hq9.2.1 (X Z src)).far (p:=⟨w3.heap.size,1,none⟩) hq9.2.1 (X Z dst)).far (p:=⟨w3.heap.size,2,none⟩) hq9.2.1 (X Y pr)).far (p:=⟨w3.heap.size,3,none⟩) hq9.2.1 (X Y sp)).far (p:=⟨w3.heap.size,4,none⟩) hq9.2.1 (X Y dp)).far (p:=⟨w3.heap.size,5,none⟩) hq9.2.1 (X Y be)).far (p:=⟨w3.heap.size,6,none⟩) hq9.2.1 (X Y 0)).far (p:=⟨w3.heap.size,7,none⟩) hq9.2.1 (X Y 0)))))
  ·obtain⟨q8,hq8⟩:∃q8,q8=w4.heap.size:=⟨_,rfl⟩
   have H5:(fun Vv:World=>Hid (RBuf Vv p (Go.Proofs.YtgjnoccflmjheaaGreatDoor.be gen 4++(Go.Proofs.YtgjnoccflmjheaaGreatDoor.be seen 8++r))∧w.grownBy Vv (some p)∧Blk Vv q 47 #[X Z 0,X Z 0,X Y 0,X Y 0,X Y 0,X Y 0,X Y 0,X Y 0]∧Blk Vv q8 47 #[X Z src,X Z dst,X Y pr,X Y sp,X Y dp,X Y be,X Y 0,X Y 0]∧p < q8∧q < q8)) (w4.alloc (cL #[X Z src,X Z dst,X Y pr,X Y sp,X Y dp,X Y be,X Y 0,X Y 0] 47)):=by
    obtain⟨g1,g2,g3,g4,g5,g6⟩:=H3.out
    have g3':=g3.drew.grown hr4.2 (by simp;omega)
    have:=g3'.lt
    have:=hr4.1.lt
    exact⟨hr4.1.below ((bR _ _).alloc (nR _) _),((g2.trans (grown_below (bR _ w3).drew)).trans hr4.2).trans (grown_below ((bR _ w4).alloc (nR _) _)),g3'.alloc _,hq8▸Blk.new w4 _ _,by omega,by omega⟩
   have HQ8:=jH hq8
   clear hq8
   go_wp2_with fail
   go_meet
   exact⟨q8,by rw[HQ8.out],H5⟩
  ·obtain⟨q8,hq8⟩:∃q8,q8=w3.heap.size:=⟨_,rfl⟩
   have H5:(fun Vv:World=>Hid (RBuf Vv p (Go.Proofs.YtgjnoccflmjheaaGreatDoor.be gen 4++(Go.Proofs.YtgjnoccflmjheaaGreatDoor.be seen 8++r))∧w.grownBy Vv (some p)∧Blk Vv q 47 #[X Z 0,X Z 0,X Y 0,X Y 0,X Y 0,X Y 0,X Y 0,X Y 0]∧Blk Vv q8 47 #[X Z src,X Z dst,X Y pr,X Y sp,X Y dp,X Y be,X Y 0,X Y 0]∧p < q8∧q < q8)) ((((((((w4.setCell ⟨w3.heap.size,0,none⟩ (X Z src)).setCell ⟨w3.heap.size,1,none⟩ (X Z dst)).setCell ⟨w3.heap.size,2,none⟩ (X Y pr)).setCell ⟨w3.heap.size,3,none⟩ (X Y sp)).setCell ⟨w3.heap.size,4,none⟩ (X Y dp)).setCell ⟨w3.heap.size,5,none⟩ (X Y be)).setCell ⟨w3.heap.size,6,none⟩ (X Y 0)).setCell ⟨w3.heap.size,7,none⟩ (X Y 0)):=by
    obtain⟨g1,g2,g3,g4,g5,g6⟩:=H3.out
    have g3':=(g3.alloc (cL #[X Z 0,X Z 0,X Y 0,X Y 0,X Y 0,X Y 0,X Y 0,X Y 0] 47)).drew.grown hr4.2 (by simp;omega)
    have h9:=hq9.2.2
    have h8:w.heap.size≤w3.heap.size:=g2.size
    have h7:q≠w3.heap.size:=Nat.ne_of_lt hq9.1
    refine⟨((((((((hr4.1.far6 h9 _ _).far6 h9 _ _).far6 h9 _ _).far6 h9 _ _).far6 h9 _ _).far6 h9 _ _).far6 h9 _ _).far6 h9 _ _),(grown_setF (grown_setF (grown_setF (grown_setF (grown_setF (grown_setF (grown_setF (grown_setF ((g2.trans (grown_below (((bR _ w3).alloc (nR _) _).drew))).trans hr4.2) h8 0 _) h8 1 _) h8 2 _) h8 3 _) h8 4 _) h8 5 _) h8 6 _) h8 7 _),((((((((g3'.far (p:=⟨w3.heap.size,0,none⟩) h7 _).far (p:=⟨w3.heap.size,1,none⟩) h7 _).far (p:=⟨w3.heap.size,2,none⟩) h7 _).far (p:=⟨w3.heap.size,3,none⟩) h7 _).far (p:=⟨w3.heap.size,4,none⟩) h7 _).far (p:=⟨w3.heap.size,5,none⟩) h7 _).far (p:=⟨w3.heap.size,6,none⟩) h7 _).far (p:=⟨w3.heap.size,7,none⟩) h7 _),?_,by omega,by have:=hq9.1;omega⟩
    rw[hq8]
    exact nn
   have HQ8:=jH hq8
   clear hq8
   go_wp2_with fail
   go_meet
   exact⟨q8,by rw[HQ8.out],H5⟩
 case rest=>
  obtain⟨q8,rfl,H5⟩:=hcut
  clear H3
  go_wp2_with fail
  refine(u32g p gen _ wc (by omega) (by simp[be_length];omega) (allB_be ha) H5.out.1).mono ?_
  rintro e w6 ⟨rfl,hr⟩
  have H6:Hid (RBuf w6 p (Go.Proofs.YtgjnoccflmjheaaGreatDoor.be seen 8++r)∧w.grownBy w6 (some p)∧Blk w6 q 47 #[X Z 0,X Z 0,X Y 0,X Y 0,X Y 0,X Y 0,X Y 0,X Y 0]∧Blk w6 q8 47 #[X Z src,X Z dst,X Y pr,X Y sp,X Y dp,X Y be,X Y 0,X Y 0]∧p < q8∧q < q8):=by
   obtain⟨g1,g2,g3,g4,g5,g6⟩:=H5.out
   exact⟨hr.1,g2.trans hr.2,g3.grown hr.2 (by simp;omega),g4.grown hr.2 (by simp;omega),g5,g6⟩
  clear hr H5
  have cv:IntKind.i64.wrap (gen:Int)=(gen:Int):=IntWalk.i64_in _ (by omega)
  have z6:=H6.out.2.2.2.1.frozen 6
  have x6:=H6.out.2.2.2.1.cell 6
  have H7:(fun Vv:World=>Hid (RBuf Vv p (Go.Proofs.YtgjnoccflmjheaaGreatDoor.be seen 8++r)∧w.grownBy Vv (some p)∧Blk Vv q 47 #[X Z 0,X Z 0,X Y 0,X Y 0,X Y 0,X Y 0,X Y 0,X Y 0]∧Blk Vv q8 47 #[X Z src,X Z dst,X Y pr,X Y sp,X Y dp,X Y be,X Y gen,X Y 0]∧p < q8∧q < q8)) (w6.setCell ⟨q8,6,none⟩ (X Y gen)):=by
   obtain⟨g1,g2,g3,g4,g5,g6⟩:=H6.out
   have:=HE.out
   exact⟨g1.far6 g5 _ _,grown_setF g2 (by omega) 6 _,g3.far (p:=⟨q8,6,none⟩) (by show q≠q8;omega) _,g4.set_ 6 _,g5,g6⟩
  clear H6
  go_wp2_with fail
  generalize (w6.setCell ⟨q8,6,none⟩ (X Y gen))=w7 at *
  clear cv z6 x6
  refine(i64g p seen _ w7 (by omega) (by omega) ha H7.out.1).mono ?_
  rintro e w8 ⟨rfl,hr⟩
  have H8:Hid (RBuf w8 p r∧w.grownBy w8 (some p)∧Blk w8 q 47 #[X Z 0,X Z 0,X Y 0,X Y 0,X Y 0,X Y 0,X Y 0,X Y 0]∧Blk w8 q8 47 #[X Z src,X Z dst,X Y pr,X Y sp,X Y dp,X Y be,X Y gen,X Y 0]∧p < q8∧q < q8):=by
   obtain⟨g1,g2,g3,g4,g5,g6⟩:=H7.out
   exact⟨hr.1,g2.trans hr.2,g3.grown hr.2 (by simp;omega),g4.grown hr.2 (by simp;omega),g5,g6⟩
  clear hr H7
  have z7:=H8.out.2.2.2.1.frozen 7
  have x7:=H8.out.2.2.2.1.cell 7
  have H9:(fun Vv:World=>Hid (RBuf Vv p r∧w.grownBy Vv (some p)∧Blk Vv q 47 #[X Z 0,X Z 0,X Y 0,X Y 0,X Y 0,X Y 0,X Y 0,X Y 0]∧Blk Vv q8 47 #[X Z src,X Z dst,X Y pr,X Y sp,X Y dp,X Y be,X Y gen,X Y seen]∧p < q8∧q < q8)) (w8.setCell ⟨q8,7,none⟩ (X Y seen)):=by
   obtain⟨g1,g2,g3,g4,g5,g6⟩:=H8.out
   have:=HE.out
   exact⟨g1.far6 g5 _ _,grown_setF g2 (by omega) 7 _,g3.far (p:=⟨q8,7,none⟩) (by show q≠q8;omega) _,g4.set_ 7 _,g5,g6⟩
  clear H8
  have g3:=H9.out.2.2.1
  have g4:=H9.out.2.2.2.1
  obtain⟨c0,c1,c2,c3,c4,c5,c6,c7⟩:=g4.c8
  have z0:=(g3).frozen 0
  have y0:=(g3).cell 0
  have n_0:=(g3).set_ 0 (X Z src)
  have z1:=(n_0).frozen 1
  have y1:=(n_0).cell 1
  have n_1:=(n_0).set_ 1 (X Z dst)
  have z2:=(n_1).frozen 2
  have y2:=(n_1).cell 2
  have n_2:=(n_1).set_ 2 (X Y pr)
  have z3:=(n_2).frozen 3
  have y3:=(n_2).cell 3
  have n_3:=(n_2).set_ 3 (X Y sp)
  have z4:=(n_3).frozen 4
  have y4:=(n_3).cell 4
  have n_4:=(n_3).set_ 4 (X Y dp)
  have z5:=(n_4).frozen 5
  have y5:=(n_4).cell 5
  have n_5:=(n_4).set_ 5 (X Y be)
  have z6:=(n_5).frozen 6
  have y6:=(n_5).cell 6
  have n_6:=(n_5).set_ 6 (X Y gen)
  have z7:=(n_6).frozen 7
  have y7:=(n_6).cell 7
  have n:=(n_6).set_ 7 (X Y seen)
  have d0:=n.cell 0
  have d1:=n.cell 1
  have d2:=n.cell 2
  have d3:=n.cell 3
  have d4:=n.cell 4
  have d5:=n.cell 5
  have d6:=n.cell 6
  have d7:=n.cell 7
  simp only[ga,gz,gN,Array.setIfInBounds,List.set_toArray,List.set_cons_zero,List.set_cons_succ,List.size_toArray,List.length_cons,List.length_nil] at y0 y1 y2 y3 y4 y5 y6 y7 d0 d1 d2 d3 d4 d5 d6 d7 n
  clear n_0 n_1 n_2 n_3 n_4 n_5 n_6
  clear g3 g4 n
  go_wp2_with fail
  obtain⟨g1,g2,-,-,g5,g6⟩:=H9.out
  have h6:w.heap.size≤q:=by have:=HE.out;omega
  refine bodyPost_ret (v:=tU #[aG #[X Z src,X Z dst,X Y pr,X Y sp,X Y dp,X Y be,X Y gen,X Y seen],bL true]) (by simp[results,results409,go_sem,d0,d1,d2,d3,d4,d5,d6,d7]) rfl ?_
  exact⟨rfl,((((((((g1.far6 hp _ _).far6 hp _ _).far6 hp _ _).far6 hp _ _).far6 hp _ _).far6 hp _ _).far6 hp _ _).far6 hp _ _),(grown_setF (grown_setF (grown_setF (grown_setF (grown_setF (grown_setF (grown_setF (grown_setF g2 h6 0 _) h6 1 _) h6 2 _) h6 3 _) h6 4 _) h6 5 _) h6 6 _) h6 7 _)⟩
theorem wpList_append_s {P:Program}{w:World}{ops:Array Oper}{rest:List Oper}{o:Oper}{a:Act}{Q:Exit→Act→World→Prop}(hw:Region.wanted o (yielded ops a.tmps)=true)(s x:Operand)(t:TypeId)
  (ho:o.op=.call {callee:=.builtin .append,args:=#[s,x],argTypes:=#[t,t]})
  (e:TypeId)(z:Value)(hi:(P.info? e).map (fun i=>(i.zero,i.size,i.bytes))=some (some z,1,16))(hzc:z.cells.size=1)(ht:P.underlying t=some (.slice e))
  (base:Nat)(v:Value)(n:Nat)(xs:List Value)(hs:a.eval s=v)(hown:w.ownsRow base e 1 v n xs)
  (B:Nat)(A:Option Addr)(m c:Nat)(news:List Value)(hx:a.eval x=G A m c)(hr:Reads w B 1 A m news)(h1:∀u∈news,u.oneCell'=true)
  (k:Nat)(hk:n + m=k)(hbytes:k≤1099511627776)(hbase:base≤w.heap.size)
  (h:∀A' c' w',w'.ownsRow base e 1 (G A' k c') k (xs++news)→Below base w w'→w.grownBy w' v.ownBlock→((Value.slice A' k c').ownBlock=v.ownBlock∨(Value.slice A' k c').ownBlock=some w.heap.size)→wpList P ops Q rest (a.put o.dst (G A' k c')) w'):
  wpList P ops Q (o::rest) a w:=by
 subst hk
 obtain⟨i0,hi0,hz0,hz1,hz2⟩:=info_parts hi
 refine wpList_append_want w hw s x t ho base e i0 _ 1 16 ht hi0 hz0 hz1 hz2 hzc (by omega) v n xs hs hown B A m c news hx hr h1 (by unfold maxLen;omega) (by omega) hbase ?_
 intro v' w' h1 h2 h3
 obtain⟨A',c',rfl⟩:=own_slice h1
 exact h A' c' w' h1 ((bR _ _).grown h2 hbase (fun k hk=>(hown.lt k hk).1)) h2 h3
theorem wpList_append_k {P:Program}{w:World}{ops:Array Oper}{rest:List Oper}{o:Oper}{a:Act}{Q:Exit→Act→World→Prop}(hw:Region.wanted o (yielded ops a.tmps)=true)(s x:Operand)(t:TypeId)
  (ho:o.op=.call {callee:=.builtin .append,args:=#[s,x],argTypes:=#[t,t]})
  (size bytes:Nat)(e:TypeId)(z:Value)(hi:(P.info? e).map (fun i=>(i.zero,i.size,i.bytes))=some (some z,size,bytes))(hzc:z.cells.size=size)(hsz:0 < size)(hby:bytes≤1024)(ht:P.underlying t=some (.slice e))
  (base:Nat)(v:Value)(n:Nat)(xs:List Value)(hs:a.eval s=v)(hown:w.ownsRow base e size v n xs)
  (B:Nat)(A:Option Addr)(m c:Nat)(news:List Value)(hx:a.eval x=G A m c)(hr:Reads w B size A m news)(h1:∀u∈news,u.oneCell'=true)
  (k:Nat)(hk:n + m=k)(hbytes:k≤1000000000)(hbase:base≤w.heap.size)
  (h:∀A' c' w',w'.ownsRow base e size (G A' k c') k (xs++news)→Below base w w'→w.grownBy w' v.ownBlock→((Value.slice A' k c').ownBlock=v.ownBlock∨(Value.slice A' k c').ownBlock=some w.heap.size)→wpList P ops Q rest (a.put o.dst (G A' k c')) w'):
  wpList P ops Q (o::rest) a w:=by
 subst hk
 obtain⟨i0,hi0,hz0,hz1,hz2⟩:=info_parts hi
 refine wpList_append_want w hw s x t ho base e i0 _ size bytes ht hi0 hz0 hz1 hz2 hzc hsz v n xs hs hown B A m c news hx hr h1 (by unfold maxLen;omega) (nT (Nat.mul_le_mul hbytes hby) (by omega)) hbase ?_
 intro v' w' h1 h2 h3
 obtain⟨A',c',rfl⟩:=own_slice h1
 exact h A' c' w' h1 ((bR _ _).grown h2 hbase (fun k hk=>(hown.lt k hk).1)) h2 h3
theorem step_append_k {P:Program}{w:World}{ops:Array Oper}{o:Oper}{a:Act}{K:Act→World→Prop}{Q:Exit→Act→World→Prop}{E:Prop}(hw:Region.wanted o (yielded ops a.tmps)=true)(s x:Operand)(t:TypeId)
  (ho:o.op=.call {callee:=.builtin .append,args:=#[s,x],argTypes:=#[t,t]})
  (size bytes:Nat)(e:TypeId)(z:Value)(hi:(P.info? e).map (fun i=>(i.zero,i.size,i.bytes))=some (some z,size,bytes))(hzc:z.cells.size=size)(hsz:0 < size)(hby:bytes≤1024)(ht:P.underlying t=some (.slice e))
  (base:Nat)(v:Value)(n:Nat)(xs:List Value)(hs:a.eval s=v)(hown:w.ownsRow base e size v n xs)
  (B:Nat)(A:Option Addr)(m c:Nat)(news:List Value)(hx:a.eval x=G A m c)(hr:Reads w B size A m news)(h1:∀u∈news,u.oneCell'=true)
  (k:Nat)(hk:n + m=k)(hbytes:k≤1000000000)(hbase:base≤w.heap.size)
  (h:∀A' c' w',w'.ownsRow base e size (G A' k c') k (xs++news)→Below base w w'→w.grownBy w' v.ownBlock→((Value.slice A' k c').ownBlock=v.ownBlock∨(Value.slice A' k c').ownBlock=some w.heap.size)→K (a.put o.dst (G A' k c')) w'):
  if Region.wanted o (yielded ops a.tmps)=true then Oper.wp P o a w K Q else E:=by
 subst hk
 obtain⟨i0,hi0,hz0,hz1,hz2⟩:=info_parts hi
 rw[if_pos hw]
 refine wp_append_any w s x t ho base e i0 _ size bytes ht hi0 hz0 hz1 hz2 hzc hsz v n xs hs hown B A m c news hx hr h1 (by unfold maxLen;omega) (nT (Nat.mul_le_mul hbytes hby) (by omega)) hbase ?_
 intro v' w' h1 h2 h3
 obtain⟨A',c',rfl⟩:=own_slice h1
 exact h A' c' w' h1 ((bR _ _).grown h2 hbase (fun k hk=>(hown.lt k hk).1)) h2 h3
def logB (v:Nat)(fs:List (Nat×List Nat)):List Nat:=fs.flatMap fun f=>frameB f.1 v f.2
def FrOk (fs:List (Nat×List Nat)):Prop:=∀f∈fs,f.1≤255∧0 < f.2.length∧f.2.length≤4096∧AllB f.2
theorem logB_all {v:Nat}{fs:List (Nat×List Nat)}(h:FrOk fs):AllB (logB v fs):=by
 intro x hx
 obtain⟨f,hf,hx⟩:=List.mem_flatMap.1 hx
 exact frameB_all _ _ (h f hf).2.2.2 x hx
theorem logB_cons (v:Nat)(f:Nat×List Nat)(fs:List (Nat×List Nat)):logB v (f::fs)=frameB f.1 v f.2++logB v fs:=rfl
theorem logB_append (v:Nat)(a b:List (Nat×List Nat)):logB v (a++b)=logB v a++logB v b:=by simp[logB]
theorem logB_len (v:Nat):∀fs:List (Nat×List Nat),16 * fs.length≤(logB v fs).length
 |[]=>by simp[logB]
 |f::fs=>by rw[logB_cons,List.length_append,frameB_length,List.length_cons];have:=logB_len v fs;omega
theorem logB_cut (v:Nat)(fs:List (Nat×List Nat))(j:Nat):logB v fs=logB v (fs.take j)++logB v (fs.drop j):=by rw[←logB_append,List.take_append_drop]
theorem infoFrz:(Pg.info? 284).map (fun i=>(i.zero,i.size,i.bytes))=some (some (aG #[X Y 0,X Y 0,G none 0 0]),3,40):=by kernel_rfl
def frCells (v:Nat)(p:(Nat×List Nat)×(Option Addr×Nat)):List Value:=[X Y p.1.1,X Y v,G p.2.1 p.1.2.length p.2.2]
def frvs (v:Nat)(fs:List (Nat×List Nat))(hs:List (Option Addr×Nat)):List Value:=(fs.zip hs).flatMap (frCells v)
def FrsAt (w:World)(base v:Nat)(A:Option Addr)(c:Nat)(fs:List (Nat×List Nat)):Prop:=
 ∃hs:List (Option Addr×Nat),hs.length=fs.length∧w.ownsRow base 284 3 (G A fs.length c) fs.length (frvs v fs hs)∧
  ∀(i:Nat) (f:Nat×List Nat) (h:Option Addr×Nat),fs[i]? =some f→hs[i]? =some h→w.ownsRow base 5 1 (G h.1 f.2.length h.2) f.2.length (bv f.2)
theorem FrsAt.nil (w:World)(base v:Nat):FrsAt w base v none 0 []:=⟨[],rfl,World.ownsRow_nil _ _ _ _,fun i f h hf _=>by simp at hf⟩
theorem FrsAt.below {w w':World}{base v c:Nat}{A:Option Addr}{fs:List (Nat×List Nat)}(h:FrsAt w base v A c fs)(hb:Below w.heap.size w w'):FrsAt w' base v A c fs:=by
 obtain⟨hs,h1,h2,h3⟩:=h
 exact⟨hs,h1,own_below h2 hb,fun i f x hf hx=>own_below (h3 i f x hf hx) hb⟩
theorem own_grown_other {w w':World}{b1 b2 n m s1 s2:Nat}{e t:TypeId}{v u:Value}{xs ys:List Value}(h:w.ownsRow b1 e s1 v n xs)(h2:w.ownsRow b2 t s2 u m ys)(hg:w.grownBy w' u.ownBlock)(hne:e≠t):w'.ownsRow b1 e s1 v n xs:=by
 refine own_grown_far h hg ?_
 rcases h.2 with⟨hv,_⟩|⟨g,cap,cur,hv,_,hc,_⟩
 ·left;rw[hv];rfl
 ·right
  rcases h2.2 with⟨hu,_⟩|⟨g2,cap2,cur2,hu,_,hc2,_⟩
  ·rw[hv,hu];simp[Value.ownBlock]
  ·rw[hv,hu]
   simp only[Value.ownBlock]
   intro he
   have:g=g2:=by simpa using he
   subst this
   rw[hc] at hc2
   injection hc2 with hc2
   injection hc2 with _ hc3
   exact hne hc3
theorem FrsAt.snoc {w w':World}{base v c c' c1:Nat}{A A' A1:Option Addr}{fs:List (Nat×List Nat)}{k:Nat}{l:List Nat}{hs:List (Option Addr×Nat)}(h1:hs.length=fs.length)(h2:w.ownsRow base 284 3 (G A fs.length c) fs.length (frvs v fs hs))
  (h3:∀(i:Nat) (f:Nat×List Nat) (h:Option Addr×Nat),fs[i]? =some f→hs[i]? =some h→w.ownsRow base 5 1 (G h.1 f.2.length h.2) f.2.length (bv f.2))
  (hl:w.ownsRow base 5 1 (G A1 l.length c1) l.length (bv l))(hg:w.grownBy w' (Value.slice A fs.length c).ownBlock)
  (ho:w'.ownsRow base 284 3 (G A' (fs.length + 1) c') (fs.length + 1) (frvs v fs hs++frCells v ((k,l),(A1,c1)))):FrsAt w' base v A' c' (fs++[(k,l)]):=by
 have hfar:∀{n:Nat} {u:Value} {xs:List Value},w.ownsRow base 5 1 u n xs→w'.ownsRow base 5 1 u n xs:=fun{n u xs} ho1=>own_grown_other ho1 h2 hg (by decide)
 refine⟨hs++[(A1,c1)],by simp[h1],?_,fun i f x hf hx=>?_⟩
 ·have e:frvs v (fs++[(k,l)]) (hs++[(A1,c1)])=frvs v fs hs++frCells v ((k,l),(A1,c1)):=by
   unfold frvs
   rw[List.zip_append h1.symm]
   simp
  rw[e,List.length_append]
  exact ho
 ·by_cases hi:i < fs.length
  ·rw[List.getElem?_append_left hi] at hf
   rw[List.getElem?_append_left (by omega)] at hx
   exact hfar (h3 i f x hf hx)
  ·have hi2:i=fs.length:=by
    have:=(List.getElem?_eq_some_iff.1 hf).1
    simp at this
    omega
   subst hi2
   rw[List.getElem?_append_right (nR _),Nat.sub_self] at hf
   rw[←h1,List.getElem?_append_right (nR _),Nat.sub_self] at hx
   injection hf with hf
   injection hx with hx
   subst hf
   subst hx
   exact hfar hl
theorem scan_ok (v:Nat)(fs:List (Nat×List Nat))(A:Option Addr)(n c B:Nat)(w:World)(hok:FrOk fs)(hv:v≤255)(hr:Reads w B 1 A n (bv (logB v fs)))(hB:B≤w.heap.size)(hnc:n≤c)(hn:n≤1048576):
  Calls Pg 239 #[G A n c] w fun e w'=>∃A' c',e=rT (tU #[G A' fs.length c',X Y n,X Y 0])∧FrsAt w' w.heap.size v A' c' fs∧Below w.heap.size w w':=by
 have hlen:=hr.length
 have HR:=jH hr
 have HL:=jH hlen
 clear hr hlen
 go_enter func239,ntmps239
 go_wp2_with fail
 go_loopg [5,6] fs.length (fun gk o at_ wr=>∃(j:Nat) (A2:Option Addr) (c2 m:Nat),o=G A2 j c2∧at_=X Y m∧Hid (j + gk=fs.length)∧Hid (m=(logB v (fs.take j)).length)∧Hid (FrsAt wr w.heap.size v A2 c2 (fs.take j))∧Hid (Below w.heap.size w wr))
 case atStart=>exact⟨0,none,0,0,rfl,rfl,(by show _=_;omega),rfl,FrsAt.nil _ _ _,bR _ _⟩
 case round=>
  obtain⟨j,A2,c2,m,rfl,rfl,hgk,hm,hF,hbr⟩:=hrel
  by_cases hlt:j < fs.length
  ·obtain⟨⟨k,l⟩,hfj⟩:∃f,fs[j]? =some f:=⟨_,List.getElem?_eq_getElem hlt⟩
   have hfok:=hok _ (List.mem_of_getElem? hfj)
   have hdrop:fs.drop j=(k,l)::fs.drop (j + 1):=by
    rw[List.drop_eq_getElem_cons hlt]
    have:=(List.getElem?_eq_some_iff.1 hfj).2
    rw[this]
   have htake:fs.take (j + 1)=fs.take j++[(k,l)]:=by rw[List.take_add_one,hfj];rfl
   have hsum:n=m + ((l.length + 16) + (logB v (fs.drop (j + 1))).length):=by
    rw[←HL.out,logB_cut v fs j,List.length_append,hdrop,logB_cons,List.length_append,frameB_length,←hm.out]
   have hmn:m + (16 + l.length)≤n:=by omega
   obtain⟨b,off,hA,hbB,hcl⟩:=HR.out.plain (by omega) (by omega)
   subst hA
   dsimp only at hfok
   have hdr:(bv (logB v fs)).drop m=bv (frameB k v l++logB v (fs.drop (j + 1))):=by
    have e0:frameB k v l++logB v (fs.drop (j + 1))=logB v (fs.drop j):=by rw[hdrop];rfl
    have e:bv (logB v fs)=bv (logB v (fs.take j))++bv (logB v (fs.drop j)):=by rw[logB_cut v fs j];simp[bv]
    have e2:(bv (logB v (fs.take j))).length=m:=by rw[bv_length];exact hm.out.symm
    rw[e0,e,←e2,List.drop_left]
   have hcut:Reads wr B 1 (some ⟨b,off + m,none⟩) (n - m) (bv (frameB k v l++logB v (fs.drop (j + 1)))):=by
    have h1:=(HR.out.below (hbr.out.mono hB)).cut (k:=m) (cap:=c) (by omega) hnc
    rw[if_neg (by omega),Nat.mul_one,hdr] at h1
    simpa only[Option.map_some,Addr.add_lit] using h1
   have CT:=jH (take_frame k v l (logB v (fs.drop (j + 1))) (some ⟨b,off + m,none⟩) (n - m) (c - m) B wr hfok.1 hv hfok.2.2.1 hfok.2.1 hfok.2.2.2 (logB_all (fun f hf=>hok f (List.mem_of_mem_drop hf))) hcut (nT hB hbr.out.size) (by omega) (by omega))
   have HT:=jH htake
   have HS:=jH hsum
   have hmc:¬c=m:=by omega
   have hj16:j≤1048576:=by
    have h1:=logB_len v (fs.take j)
    rw[←hm.out,List.length_take] at h1
    omega
   have hmn2:m < n:=by omega
   have hl16:16 + l.length≤4112:=by have:=hfok.2.2.1;omega
   have hm1:m≤1048576:=by omega
   clear hcut hdr hcl hfj hdrop htake hsum hfok hmn
   go_wp2_with fail
   refine CT.out.mono ?_
   rintro e w2 ⟨A3,c3,rfl,hown3,hb3⟩
   have hs3:=hb3.size
   have HB3:=jH (aI hown3 (hbr.out.trans (hb3.mono hbr.out.size)))
   obtain⟨hs,hs1,hs2,hs3'⟩:=hF.out.below hb3
   have hlj:(fs.take j).length=j:=by rw[List.length_take];omega
   rw[hlj] at hs1 hs2
   have HH:=jH (aI hs1 (aI hs2 (aI hs3' hlj)))
   clear hown3 hb3 hs1 hs2 hs3' hF CT hlj
   go_wp2_with (at_builtin;refine stop_ ?_)
   refine on_ ?_
   have hb5:Below w2.heap.size w2 ((w2.alloc (cL #[X Y k,X Y v,G A3 l.length c3] 284)).alloc (cL #[X Y k,X Y v,G A3 l.length c3] 284)):=((bR _ _).alloc (nR _) _).alloc (by simp) _
   refine wpList_append_k rfl (.tmp 27) (.tmp 29) _ rfl 3 40 284 _ infoFrz rfl (by omega) (by omega) underlying314 w.heap.size (G A2 j c2) j (frvs v (fs.take j) hs) rfl (own_below HH.out.2.1 hb5) (w2.heap.size + 2) (some ⟨w2.heap.size + 1,0,none⟩) 1 1 (frCells v ((k,l),(A3,c3))) rfl (reads_news _ _ _ _ 1 3 _ _ (by rfl) (by simp) (by simp) _ rfl) (by intro u hu;simp[frCells] at hu;rcases hu with rfl|rfl|rfl<;>rfl) (j + 1) rfl (by omega) (by simp;have:=HB3.out.2.size;omega) ?_
   intro A4 c4 w4 hown4 hb4 hg4 _
   have hF4:Hid (FrsAt w4 w.heap.size v A4 c4 (fs.take (j + 1))):=by
    obtain⟨g1,g2,g3,g4⟩:=HH.out
    show FrsAt _ _ _ _ _ _
    rw[HT.out]
    have e:=g4.symm
    exact FrsAt.snoc (w:=((w2.alloc (cL #[X Y k,X Y v,G A3 l.length c3] 284)).alloc (cL #[X Y k,X Y v,G A3 l.length c3] 284))) (w':=w4) (c:=c2) (A:=A2) (by rw[g4];exact g1) (by rw[g4];exact own_below g2 hb5) (fun i f h hf hx=>own_below (g3 i f h hf hx) hb5) (own_below (own_base HB3.out.1 hbr.out.size) hb5) (by rw[g4];exact hg4) (by rw[g4];exact hown4)
   have hb6:Hid (Below w.heap.size w w4):=(HB3.out.2.trans (hb5.mono (HB3.out.2.size))).trans hb4
   clear hown4 hb4 hg4 hb5 HH HB3 hbr
   go_wp2_with fail
   go_roundg (gk - 1)
   case measure=>have h1:=hgk.out;omega
   case rel=>
    refine⟨j + 1,A4,c4,m + (16 + l.length),rfl,by go_num,(by show _=_;have:=hgk.out;omega),(by show _=_;rw[HT.out,logB_append,List.length_append,←hm.out];simp[logB,frameB_length];omega),hF4,hb6⟩
  ·have hj:j=fs.length:=by have:=hgk.out;omega
   have hA:Hid (FrsAt wr w.heap.size v A2 c2 fs∧Below w.heap.size w wr):=by
    have h1:=hF.out
    rw[hj,List.take_of_length_le (nR _)] at h1
    exact⟨h1,hbr.out⟩
   have hmn:m=n:=by
    have h1:=hm.out
    rw[hj,List.take_of_length_le (nR _)] at h1
    rw[h1,HL.out]
   subst hmn
   clear hF hbr hm HL HR
   go_wp2_with fail
   go_ret3
   exact⟨A2,c2,by simp[hj],hA.out⟩
theorem own_low {w:World}{base n size p:Nat}{e:TypeId}{v:Value}{xs:List Value}(h:w.ownsRow base e size v n xs)(hp:p < base):v.ownBlock=none∨some p≠v.ownBlock:=by
 rcases h.2 with⟨hv,_⟩|⟨g,cap,cur,hv,hg,_⟩
 ·left;rw[hv];rfl
 ·right;rw[hv];simp[Value.ownBlock];omega
theorem own_lo {w:World}{base n size p:Nat}{e:TypeId}{v:Value}{xs:List Value}(h:w.ownsRow base e size v n xs)(hp:p < base):v.ownBlock=none∨v.ownBlock≠some p:=(own_low h hp).imp id Ne.symm
theorem own_hi {w:World}{base n size q:Nat}{e:TypeId}{v:Value}{xs:List Value}(h:w.ownsRow base e size v n xs)(hq:w.heap.size≤q):v.ownBlock≠some q:=fun e=>by have:=(h.lt q e).2;omega
theorem RBuf.grownO {w w':World}{p base n size:Nat}{e:TypeId}{v:Value}{xs:List Value}{l:List Nat}(h:RBuf w p l)(hg:w.grownBy w' v.ownBlock)(ho:w.ownsRow base e size v n xs)(hp:p < base):RBuf w' p l:=by
 obtain⟨B,A,c,h1,h2,h3,h4⟩:=h
 have hb:Below (p + 1) w w':=(bR (p + 1) w).grown hg h2.lt (fun k hk=>by have:=(ho.lt k hk).1;omega)
 exact⟨B,A,c,h1,h2.below hb (by omega),h3.below (hb.mono (by omega)),h4⟩
theorem grown_low {a c c':World}{row:Option Nat}(h:a.grownBy c row)(hb:Below a.heap.size c c'):a.grownBy c' row:=⟨hb.os.trans h.os,hb.tape.trans h.tape,hb.output.trans h.output,nT h.size hb.size,fun i hi hne=>(hb.block i hi).trans (h.block i hi hne)⟩
theorem RBuf.low {w w':World}{p B:Nat}{l:List Nat}(h:RBuf w p l)(hb:Below B w w')(hp:p < B):RBuf w' p l:=by
 obtain⟨B2,A,c,h1,h2,h3,h4⟩:=h
 exact⟨B2,A,c,h1,h2.below hb hp,h3.below (hb.mono (by omega)),h4⟩
theorem bks_snoc (l:List Be)(b:Be):bks (l++[b])=bks l++b.cells:=by simp[bks]
theorem rbacks_ok (p:Nat)(l:List Be)(hn:l.length≤16)(hok:∀b∈l,beOk b=true)(had:∀b∈l,b.addr < 4294967296)(r:List Nat)(w:World)(hl:r.length≤5000)(ha:AllB r)(h:RBuf w p (be l.length 1++(besB l++r))):
  Calls Pg 411 #[PT (some ⟨p,0,none⟩),X Y 3] w fun e w'=>∃A c,e=rT (G A l.length c)∧w'.ownsRow w.heap.size 34 3 (G A l.length c) l.length (bks l)∧RG p r w w':=by
 have hp:=h.lt
 have H1:=jH h
 have HP:=jH hp
 have hmin:min ((l.length:Nat):Int) 17=((l.length:Nat):Int):=by omega
 have hle:decide (((l.length:Nat):Int) < 17)=true:=decide_eq_true (by omega)
 clear h hp
 go_enter func411,ntmps411
 go_wp2_with fail
 refine(u8g p l.length _ w (by omega) (by rw[List.length_append,besB_length];omega) (allB_append (besB_all _) ha) H1.out).mono ?_
 rintro e w1 ⟨rfl,hr⟩
 have H2:=jH hr
 clear hr H1
 go_wp2_with fail
 go_loopg [5,10] l.length (fun gk o at_ wr=>∃(j:Nat) (A2:Option Addr) (c2:Nat),o=G A2 j c2∧at_=X Y j∧Hid (j + gk=l.length)∧Hid (wr.ownsRow w.heap.size 34 3 (G A2 j c2) j (bks (l.take j)))∧Hid (RBuf wr p (besB (l.drop j)++r))∧Hid (w.grownBy wr (some p)))
 case atStart=>exact⟨0,none,0,rfl,rfl,(by show _=_;omega),World.ownsRow_nil _ _ _ _,H2.out.1,H2.out.2⟩
 case round=>
  obtain⟨j,A2,c2,rfl,rfl,hgk,hown,hrb,hgr⟩:=hrel
  by_cases hlt:j < l.length
  ·obtain⟨⟨id,ad,wt⟩,hfj⟩:∃f,l[j]? =some f:=⟨_,List.getElem?_eq_getElem hlt⟩
   have hmem:=List.mem_of_getElem? hfj
   have hbok:=hok _ hmem
   have hbad:=had _ hmem
   dsimp only[beOk,recinZ] at hbok hbad
   simp only[Bool.and_eq_true,decide_eq_true_eq] at hbok
   obtain⟨⟨hid0,hid1⟩,hwt0,hwt1⟩:=hbok
   obtain⟨id,rfl⟩:∃n:Nat,id=(n:Int):=⟨id.toNat,by omega⟩
   obtain⟨wt,rfl⟩:∃n:Nat,wt=(n:Int):=⟨wt.toNat,by omega⟩
   have hdrop:l.drop j=⟨id,ad,wt⟩::l.drop (j + 1):=by
    rw[List.drop_eq_getElem_cons hlt,(List.getElem?_eq_some_iff.1 hfj).2]
   have htake:l.take (j + 1)=l.take j++[⟨id,ad,wt⟩]:=by rw[List.take_add_one,hfj];rfl
   have hrb2:RBuf wr p (be id 2++(be ad 4++(be wt 1++(besB (l.drop (j + 1))++r)))):=by
    have h1:=hrb.out
    rw[hdrop,show besB ((⟨id,ad,wt⟩:Be)::l.drop (j + 1))=beB ⟨id,ad,wt⟩++besB (l.drop (j + 1)) from rfl] at h1
    unfold beB at h1
    dsimp only at h1
    rw[u64n_nat id (by omega),u64n_nat wt (by omega)] at h1
    simpa only[List.append_assoc] using h1
   have hR:AllB (besB (l.drop (j + 1))++r):=allB_append (besB_all _) ha
   have hRl:(besB (l.drop (j + 1))++r).length≤6000:=by rw[List.length_append,besB_length,List.length_drop];omega
   have HT:=jH htake
   have HH:=jH (aI hrb2 (aI hown.out hgr.out))
   clear hdrop hfj hmem htake hrb2 hrb hown hgr
   go_wp2_with fail
   generalize hRR:(besB (l.drop (j + 1))++r)=R at *
   have HRR:=jH hRR
   clear hRR
   refine(u16g p id _ wr (by omega) (by simp[be_length];omega) (allB_be (allB_be hR)) HH.out.1).mono ?_
   rintro e w2 ⟨rfl,hr⟩
   have HH2:Hid (RBuf w2 p (be ad 4++(be wt 1++R))∧w2.ownsRow w.heap.size 34 3 (G A2 j c2) j (bks (l.take j))∧w.grownBy w2 (some p)):=⟨hr.1,HH.out.2.1.kept hr.2 (own_lo HH.out.2.1 HP.out),HH.out.2.2.trans hr.2⟩
   clear hr HH
   go_wp2_with fail
   refine(u32g p ad _ w2 hbad (by simp[be_length];omega) (allB_be hR) HH2.out.1).mono ?_
   rintro e w3 ⟨rfl,hr⟩
   have HH3:Hid (RBuf w3 p (be wt 1++R)∧w3.ownsRow w.heap.size 34 3 (G A2 j c2) j (bks (l.take j))∧w.grownBy w3 (some p)):=⟨hr.1,HH2.out.2.1.kept hr.2 (own_lo HH2.out.2.1 HP.out),HH2.out.2.2.trans hr.2⟩
   clear hr HH2
   go_wp2_with fail
   obtain⟨q6,hq6⟩:∃q6,q6=w3.heap.size:=⟨_,rfl⟩
   have H4:(fun Vv:World=>Hid (RBuf Vv p (be wt 1++R)∧Vv.ownsRow w.heap.size 34 3 (G A2 j c2) j (bks (l.take j))∧w.grownBy Vv (some p)∧Blk Vv q6 34 #[X Y id,X Z ad,X Y 1]∧(Value.slice A2 j c2).ownBlock≠some q6∧w.heap.size≤q6)) (w3.alloc (cL #[X Y id,X Z ad,X Y 1] 34)):=by
    obtain⟨g1,g2,g3⟩:=HH3.out
    exact⟨g1.below ((bR _ _).alloc (nR _) _),own_below g2 ((bR _ _).alloc (nR _) _),g3.trans (grown_below ((bR _ w3).alloc (nR _) _)),hq6▸Blk.new w3 _ _,own_hi g2 (by omega),by have:=g3.size;omega⟩
   clear HH3
   rw[←hq6]
   clear hq6
   generalize (w3.alloc (cL #[X Y id,X Z ad,X Y 1] 34))=w4 at *
   refine(u8g p wt _ w4 (by omega) (by omega) hR H4.out.1).mono ?_
   rintro e w5 ⟨rfl,hr⟩
   have H5:Hid (RBuf w5 p R∧w5.ownsRow w.heap.size 34 3 (G A2 j c2) j (bks (l.take j))∧w.grownBy w5 (some p)∧Blk w5 q6 34 #[X Y id,X Z ad,X Y 1]∧(Value.slice A2 j c2).ownBlock≠some q6∧w.heap.size≤q6):=by
    obtain⟨g1,g2,g3,g4,g5,g6⟩:=H4.out
    exact⟨hr.1,g2.kept hr.2 (own_lo g2 HP.out),g3.trans hr.2,g4.grown hr.2 (by have:=HP.out;simp;omega),g5,g6⟩
   clear hr H4
   have z2:=H5.out.2.2.2.1.frozen 2
   have x2:=H5.out.2.2.2.1.cell 2
   have H6:(fun Vv:World=>Hid (RBuf Vv p R∧Vv.ownsRow w.heap.size 34 3 (G A2 j c2) j (bks (l.take j))∧w.grownBy Vv (some p)∧Blk Vv q6 34 #[X Y id,X Z ad,X Y wt])) (w5.setCell ⟨q6,2,none⟩ (X Y wt)):=by
    obtain⟨g1,g2,g3,g4,g5,g6⟩:=H5.out
    have:=HP.out
    exact⟨g1.far6 (by omega) _ _,g2.kept (grown_set1 w5 q6 2 _) (.inr g5),grown_setF g3 (by omega) 2 _,g4.set_ 2 _⟩
   obtain⟨c0,c1,c2'⟩:=H6.out.2.2.2.c3
   clear H5
   go_wp2_with (at_builtin;refine stop_ ?_)
   refine on_ ?_
   have hs65:(w5.setCell ⟨q6,2,none⟩ (X Y wt)).heap.size=w5.heap.size:=by simp
   generalize (w5.setCell ⟨q6,2,none⟩ (X Y wt))=w6 at *
   have hb7:=(bR w6.heap.size w6).alloc (nR _) (cL #[X Y id,X Z ad,X Y wt] 34)
   have hsz6:w.heap.size≤w6.heap.size:=H6.out.2.2.1.size
   refine wpList_append_k rfl (.tmp 22) (.tmp 24) _ rfl 3 24 34 _ infoBe rfl (by omega) (by omega) underlying35 w.heap.size (G A2 j c2) j (bks (l.take j)) rfl (own_below H6.out.2.1 hb7) (w6.heap.size + 1) (some ⟨w5.heap.size,0,none⟩) 1 1 (Be.cells ⟨id,ad,wt⟩) rfl (reads_news _ _ _ _ 1 3 _ _ (by rfl) rfl hs65.symm _ rfl) (by intro u hu;simp[Be.cells] at hu;rcases hu with rfl|rfl|rfl<;>rfl) (j + 1) rfl (by omega) (by rw[World.size_alloc];omega) ?_
   intro A7 c7 w7 hown7 hb8 hg8 hor
   have H7:Hid (w7.ownsRow w.heap.size 34 3 (G A7 (j + 1) c7) (j + 1) (bks (l.take (j + 1)))∧RBuf w7 p R∧w.grownBy w7 (some p)):=by
    obtain⟨g1,g2,g3,g4⟩:=H6.out
    refine⟨by rw[HT.out,bks_snoc];exact hown7,(g1.below hb7).grownO hg8 (own_below g2 hb7) HP.out,(g3.trans (grown_below hb7)).andThen hg8 (fun k hk=>.inl ((own_below g2 hb7).lt k hk).1)⟩
   clear hown7 hb8 hg8 hb7 H6 hor z2 x2 c0 c1 c2'
   go_wp2_with fail
   go_roundg (gk - 1)
   case measure=>have h1:=hgk.out;omega
   case rel=>exact⟨j + 1,A7,c7,rfl,by go_num,(by show _=_;have:=hgk.out;omega),H7.out.1,(by rw[HRR.out];exact H7.out.2.1),H7.out.2.2⟩
  ·have hj:j=l.length:=by have:=hgk.out;omega
   have hA:Hid (wr.ownsRow w.heap.size 34 3 (G A2 l.length c2) l.length (bks l)∧RG p r w wr):=by
    have h1:=hown.out
    have h2:=hrb.out
    rw[hj,List.take_of_length_le (nR _)] at h1
    rw[hj,List.drop_length] at h2
    exact⟨h1,h2,hgr.out⟩
   clear hown hrb hgr
   go_wp2_with fail
   go_ret
   exact⟨A2,c2,by simp[hj],hA.out⟩
theorem rread_put (p:Nat)(f:Fl)(hf:FlOk f)(r:List Nat)(w:World)(hl:r.length≤4000)(ha:AllB r)(h:RBuf w p (putB f++r)):
  Calls Pg 311 #[PT (some ⟨p,0,none⟩),X Y 1,X Y 3] w fun e w'=>e=rT (tU #[.agg (recC 1 f 0 (G none 0 0)),bL true])∧RG p r w w':=by
 obtain⟨⟨src,dst,pr,sp,dp⟩,be,gen,seen⟩:=f
 dsimp only[recC]
 obtain⟨q,hq⟩:∃q,q=w.heap.size:=⟨_,rfl⟩
 have hp:p < q:=hq▸h.lt
 have hB0:Below w.heap.size w ((w.alloc (cL #[X Y 0,X Z 0,X Z 0,X Y 0,X Y 0,X Y 0,X Y 0,X Y 0,X Y 0,X Y 0,G none 0 0,X Y 0,X Y 0,X Y 0] 119)).alloc (cL #[X Y 1,X Z 0,X Z 0,X Y 0,X Y 0,X Y 0,X Y 0,X Y 0,X Y 0,X Y 0,G none 0 0,X Y 0,X Y 0,X Y 0] 119)):=((bR w.heap.size w).alloc (nR _) _).alloc (by simp) _
 have h0:=h.below hB0
 have hq1:Blk ((w.alloc (cL #[X Y 0,X Z 0,X Z 0,X Y 0,X Y 0,X Y 0,X Y 0,X Y 0,X Y 0,X Y 0,G none 0 0,X Y 0,X Y 0,X Y 0] 119)).alloc (cL #[X Y 1,X Z 0,X Z 0,X Y 0,X Y 0,X Y 0,X Y 0,X Y 0,X Y 0,X Y 0,G none 0 0,X Y 0,X Y 0,X Y 0] 119)) q 119 #[X Y 0,X Z 0,X Z 0,X Y 0,X Y 0,X Y 0,X Y 0,X Y 0,X Y 0,X Y 0,G none 0 0,X Y 0,X Y 0,X Y 0]:=(hq▸Blk.new w 119 #[X Y 0,X Z 0,X Z 0,X Y 0,X Y 0,X Y 0,X Y 0,X Y 0,X Y 0,X Y 0,G none 0 0,X Y 0,X Y 0,X Y 0]).alloc _
 have hq2:Blk ((w.alloc (cL #[X Y 0,X Z 0,X Z 0,X Y 0,X Y 0,X Y 0,X Y 0,X Y 0,X Y 0,X Y 0,G none 0 0,X Y 0,X Y 0,X Y 0] 119)).alloc (cL #[X Y 1,X Z 0,X Z 0,X Y 0,X Y 0,X Y 0,X Y 0,X Y 0,X Y 0,X Y 0,G none 0 0,X Y 0,X Y 0,X Y 0] 119)) (q + 1) 119 #[X Y 1,X Z 0,X Z 0,X Y 0,X Y 0,X Y 0,X Y 0,X Y 0,X Y 0,X Y 0,G none 0 0,X Y 0,X Y 0,X Y 0]:=by
  have:=Blk.new (w.alloc (cL #[X Y 0,X Z 0,X Z 0,X Y 0,X Y 0,X Y 0,X Y 0,X Y 0,X Y 0,X Y 0,G none 0 0,X Y 0,X Y 0,X Y 0] 119)) 119 #[X Y 1,X Z 0,X Z 0,X Y 0,X Y 0,X Y 0,X Y 0,X Y 0,X Y 0,X Y 0,G none 0 0,X Y 0,X Y 0,X Y 0]
  rw[show (w.alloc (cL #[X Y 0,X Z 0,X Z 0,X Y 0,X Y 0,X Y 0,X Y 0,X Y 0,X Y 0,X Y 0,G none 0 0,X Y 0,X Y 0,X Y 0] 119)).heap.size=q + 1 by rw[hq];simp] at this
  exact this
 have H1:=jH (aI h0 (aI hB0 (aI hq1 hq2)))
 clear h h0 hB0 hq1 hq2
 go_enter func311,ntmps311
 go_wp2_with fail
 rw[←hq]
 have HE:=jH hq
 clear hq
 generalize ((w.alloc (cL #[X Y 0,X Z 0,X Z 0,X Y 0,X Y 0,X Y 0,X Y 0,X Y 0,X Y 0,X Y 0,G none 0 0,X Y 0,X Y 0,X Y 0] 119)).alloc (cL #[X Y 1,X Z 0,X Z 0,X Y 0,X Y 0,X Y 0,X Y 0,X Y 0,X Y 0,X Y 0,G none 0 0,X Y 0,X Y 0,X Y 0] 119))=w1 at *
 refine(rflow_ok p ⟨⟨src,dst,pr,sp,dp⟩,be,gen,seen⟩ hf r w1 (by omega) ha H1.out.1).mono ?_
 rintro e w2 ⟨rfl,hr⟩
 dsimp only[Fl.vals]
 have g4:=H1.out.2.2.2.grown hr.2 (by simp;omega)
 have z0:=(g4).frozen 1
 have y0:=(g4).cell 1
 have n_0:=(g4).set_ 1 (X Z src)
 have z1:=(n_0).frozen 2
 have y1:=(n_0).cell 2
 have n_1:=(n_0).set_ 2 (X Z dst)
 have z2:=(n_1).frozen 3
 have y2:=(n_1).cell 3
 have n_2:=(n_1).set_ 3 (X Y pr)
 have z3:=(n_2).frozen 4
 have y3:=(n_2).cell 4
 have n_3:=(n_2).set_ 4 (X Y sp)
 have z4:=(n_3).frozen 5
 have y4:=(n_3).cell 5
 have n_4:=(n_3).set_ 5 (X Y dp)
 have z5:=(n_4).frozen 6
 have y5:=(n_4).cell 6
 have n_5:=(n_4).set_ 6 (X Y be)
 have z6:=(n_5).frozen 7
 have y6:=(n_5).cell 7
 have n_6:=(n_5).set_ 7 (X Y gen)
 have z7:=(n_6).frozen 8
 have y7:=(n_6).cell 8
 have n:=(n_6).set_ 8 (X Y seen)
 have d0:=n.cell 1
 have d1:=n.cell 2
 have d2:=n.cell 3
 have d3:=n.cell 4
 have d4:=n.cell 5
 have d5:=n.cell 6
 have d6:=n.cell 7
 have d7:=n.cell 8
 simp only[ga,gz,gN,Array.setIfInBounds,List.set_toArray,List.set_cons_zero,List.set_cons_succ,List.size_toArray,List.length_cons,List.length_nil] at y0 y1 y2 y3 y4 y5 y6 y7 d0 d1 d2 d3 d4 d5 d6 d7 n
 clear n_0 n_1 n_2 n_3 n_4 n_5 n_6
 have H3:(fun Vv:World=>Hid (Blk Vv (q + 1) 119 #[X Y 1,X Z src,X Z dst,X Y pr,X Y sp,X Y dp,X Y be,X Y gen,X Y seen,X Y 0,G none 0 0,X Y 0,X Y 0,X Y 0]∧Blk Vv q 119 #[X Y 0,X Z 0,X Z 0,X Y 0,X Y 0,X Y 0,X Y 0,X Y 0,X Y 0,X Y 0,G none 0 0,X Y 0,X Y 0,X Y 0]∧RBuf Vv p r∧w.grownBy Vv (some p))) ((((((((w2.setCell ⟨q + 1,1,none⟩ (X Z src)).setCell ⟨q + 1,2,none⟩ (X Z dst)).setCell ⟨q + 1,3,none⟩ (X Y pr)).setCell ⟨q + 1,4,none⟩ (X Y sp)).setCell ⟨q + 1,5,none⟩ (X Y dp)).setCell ⟨q + 1,6,none⟩ (X Y be)).setCell ⟨q + 1,7,none⟩ (X Y gen)).setCell ⟨q + 1,8,none⟩ (X Y seen)):=by
  obtain⟨-,g2,g3,-⟩:=H1.out
  have g5:=g3.grown hr.2 (by simp;omega)
  have h6:w.heap.size≤q + 1:=by have:=HE.out;omega
  have hpq:p < q + 1:=by omega
  have hqq:q≠q + 1:=by omega
  exact⟨n,((((((((g5.far (p:=⟨q + 1,1,none⟩) hqq _).far (p:=⟨q + 1,2,none⟩) hqq _).far (p:=⟨q + 1,3,none⟩) hqq _).far (p:=⟨q + 1,4,none⟩) hqq _).far (p:=⟨q + 1,5,none⟩) hqq _).far (p:=⟨q + 1,6,none⟩) hqq _).far (p:=⟨q + 1,7,none⟩) hqq _).far (p:=⟨q + 1,8,none⟩) hqq _),((((((((hr.1.far6 hpq _ _).far6 hpq _ _).far6 hpq _ _).far6 hpq _ _).far6 hpq _ _).far6 hpq _ _).far6 hpq _ _).far6 hpq _ _),(grown_setF (grown_setF (grown_setF (grown_setF (grown_setF (grown_setF (grown_setF (grown_setF ((grown_below g2).trans hr.2) h6 1 _) h6 2 _) h6 3 _) h6 4 _) h6 5 _) h6 6 _) h6 7 _) h6 8 _)⟩
 clear n g4 hr H1
 go_upto_region 18 with fail
 clear z0 y0 d0 z1 y1 d1 z2 y2 d2 z3 y3 d3 z4 y4 d4 z5 y5 d5 z6 y6 d6 z7 y7 d7
 generalize ((((((((w2.setCell ⟨q + 1,1,none⟩ (X Z src)).setCell ⟨q + 1,2,none⟩ (X Z dst)).setCell ⟨q + 1,3,none⟩ (X Y pr)).setCell ⟨q + 1,4,none⟩ (X Y sp)).setCell ⟨q + 1,5,none⟩ (X Y dp)).setCell ⟨q + 1,6,none⟩ (X Y be)).setCell ⟨q + 1,7,none⟩ (X Y gen)).setCell ⟨q + 1,8,none⟩ (X Y seen))=W at *
 apply wp_region_lit
 refine wpList_load_row rfl _ _ rfl (q + 1) rfl 119 #[X Y 1,X Z src,X Z dst,X Y pr,X Y sp,X Y dp,X Y be,X Y gen,X Y seen,X Y 0,G none 0 0,X Y 0,X Y 0,X Y 0] (0,0) _ H3.out.1 underlying119 rfl infoRec ?_
 refine Go.Great.wpList_readTo rfl (some 64) rfl (bL true) rfl ?_
 refine wpList_store_row rfl _ _ _ rfl q #[X Y 1,X Z src,X Z dst,X Y pr,X Y sp,X Y dp,X Y be,X Y gen,X Y seen,X Y 0,G none 0 0,X Y 0,X Y 0,X Y 0] rfl rfl 119 #[X Y 0,X Z 0,X Z 0,X Y 0,X Y 0,X Y 0,X Y 0,X Y 0,X Y 0,X Y 0,G none 0 0,X Y 0,X Y 0,X Y 0] H3.out.2.1 infoRec rfl (by simp[Value.oneCell']) ?_
 refine Go.Great.wpList_readTo rfl (some 7) rfl (bL true) rfl ?_
 apply wpList_nil
 have hres:=setRow_heap W q _ #[X Y 1,X Z src,X Z dst,X Y pr,X Y sp,X Y dp,X Y be,X Y gen,X Y seen,X Y 0,G none 0 0,X Y 0,X Y 0,X Y 0] _ _ H3.out.2.1
 have hlow:Below q W (W.setRow q #[X Y 1,X Z src,X Z dst,X Y pr,X Y sp,X Y dp,X Y be,X Y gen,X Y seen,X Y 0,G none 0 0,X Y 0,X Y 0,X Y 0]):=below_setRow (bR _ _) (nR _) _
 simp only[Exit.inBlock,Exit.then]
 go_wp2_with fail
 refine bodyPost_ret (results_row_tmp rfl _ _ q 119 #[X Y 1,X Z src,X Z dst,X Y pr,X Y sp,X Y dp,X Y be,X Y gen,X Y seen,X Y 0,G none 0 0,X Y 0,X Y 0,X Y 0] (0,0) _ rfl hres underlying119 rfl infoRec) rfl ?_
 exact⟨rfl,H3.out.2.2.1.low hlow hp,grown_low H3.out.2.2.2 (HE.out▸hlow)⟩
theorem rdec_put (f:Fl)(hf:FlOk f)(A:Option Addr)(n c B:Nat)(w:World)(hrd:Reads w B 1 A n (bv (putB f)))(hB:B≤w.heap.size)(hnil:A=none→c=0):
  Calls Pg 198 #[aG #[X Y 1,X Y 3,G A n c]] w fun e w'=>e=rT (tU #[.agg (recC 1 f 0 (G none 0 0)),X Y 0])∧Below w.heap.size w w':=by
 obtain⟨⟨src,dst,pr,sp,dp⟩,be,gen,seen⟩:=f
 have CM:=jH (recmay_put _ hf)
 dsimp only[recC] at CM⊢
 have hn2:n≤140737488355328:=by have:=hrd.length;rw[putB_length] at this;omega
 obtain⟨q,hq⟩:∃q,q=w.heap.size:=⟨_,rfl⟩
 have hB0:Below w.heap.size w ((w.alloc (cL #[X Y 1,X Y 3,G A n c] 284)).alloc (cL #[X Y 0,X Z 0,X Z 0,X Y 0,X Y 0,X Y 0,X Y 0,X Y 0,X Y 0,X Y 0,G none 0 0,X Y 0,X Y 0,X Y 0] 119)):=((bR w.heap.size w).alloc (nR _) _).alloc (by simp) _
 have hsz:((w.alloc (cL #[X Y 1,X Y 3,G A n c] 284)).alloc (cL #[X Y 0,X Z 0,X Z 0,X Y 0,X Y 0,X Y 0,X Y 0,X Y 0,X Y 0,X Y 0,G none 0 0,X Y 0,X Y 0,X Y 0] 119)).heap.size=q + 2:=by rw[hq];simp
 have hr0:=hrd.below (hB0.mono hB)
 have hq1:Blk ((w.alloc (cL #[X Y 1,X Y 3,G A n c] 284)).alloc (cL #[X Y 0,X Z 0,X Z 0,X Y 0,X Y 0,X Y 0,X Y 0,X Y 0,X Y 0,X Y 0,G none 0 0,X Y 0,X Y 0,X Y 0] 119)) q 284 #[X Y 1,X Y 3,G A n c]:=(hq▸Blk.new w 284 #[X Y 1,X Y 3,G A n c]).alloc _
 have hq2:Blk ((w.alloc (cL #[X Y 1,X Y 3,G A n c] 284)).alloc (cL #[X Y 0,X Z 0,X Z 0,X Y 0,X Y 0,X Y 0,X Y 0,X Y 0,X Y 0,X Y 0,G none 0 0,X Y 0,X Y 0,X Y 0] 119)) (q + 1) 119 #[X Y 0,X Z 0,X Z 0,X Y 0,X Y 0,X Y 0,X Y 0,X Y 0,X Y 0,X Y 0,G none 0 0,X Y 0,X Y 0,X Y 0]:=by
  have:=Blk.new (w.alloc (cL #[X Y 1,X Y 3,G A n c] 284)) 119 #[X Y 0,X Z 0,X Z 0,X Y 0,X Y 0,X Y 0,X Y 0,X Y 0,X Y 0,X Y 0,G none 0 0,X Y 0,X Y 0,X Y 0]
  rw[show (w.alloc (cL #[X Y 1,X Y 3,G A n c] 284)).heap.size=q + 1 by rw[hq];simp] at this
  exact this
 have CN:=jH (newreader_any A n c B _ ((w.alloc (cL #[X Y 1,X Y 3,G A n c] 284)).alloc (cL #[X Y 0,X Z 0,X Z 0,X Y 0,X Y 0,X Y 0,X Y 0,X Y 0,X Y 0,X Y 0,G none 0 0,X Y 0,X Y 0,X Y 0] 119)) hr0 (by rw[hsz];omega) hn2 hnil)
 have CV:=jH (recver_any 3 (by omega) (by omega))
 rw[show ((3:Nat):Int)=3 from rfl] at CV
 obtain⟨x0,x1,x2⟩:=hq1.c3
 have H1:=jH (aI hB0 (aI hq1 (aI hq2 hsz)))
 clear hrd hr0 hB0 hq1 hq2 hsz
 go_enter func198,ntmps198
 go_wp2_with fail
 rw[←hq]
 have HE:=jH hq
 clear hq
 generalize ((w.alloc (cL #[X Y 1,X Y 3,G A n c] 284)).alloc (cL #[X Y 0,X Z 0,X Z 0,X Y 0,X Y 0,X Y 0,X Y 0,X Y 0,X Y 0,X Y 0,G none 0 0,X Y 0,X Y 0,X Y 0] 119))=w1 at *
 refine(CV.out w1).mono ?_
 rintro e w' ⟨rfl,rfl⟩
 go_wp2_with fail
 refine CN.out.mono ?_
 rintro e w2 ⟨p,rfl,hp,hrb,hb2⟩
 rw[H1.out.2.2.2] at hp
 have k1:=H1.out.2.1.below hb2 (by rw[H1.out.2.2.2];omega)
 have k2:=H1.out.2.2.1.below hb2 (by rw[H1.out.2.2.2];omega)
 have H2:Hid (RBuf w2 p (putB ⟨⟨src,dst,pr,sp,dp⟩,be,gen,seen⟩++[])∧Below q w w2∧Blk w2 q 284 #[X Y 1,X Y 3,G A n c]∧Blk w2 (q + 1) 119 #[X Y 0,X Z 0,X Z 0,X Y 0,X Y 0,X Y 0,X Y 0,X Y 0,X Y 0,X Y 0,G none 0 0,X Y 0,X Y 0,X Y 0]∧q + 2≤p∧w.heap.size≤w2.heap.size):=⟨by rw[List.append_nil];exact hrb,HE.out▸H1.out.1.trans (hb2.mono H1.out.1.size),k1,k2,hp,nT H1.out.1.size hb2.size⟩
 clear x0 x1 x2
 obtain⟨x0,x1⟩:=k1.c2
 clear hrb hb2 CN CV H1 k1 k2 hp
 go_wp2_with fail
 refine(rread_put p _ hf [] w2 (by simp) allB_nil H2.out.1).mono ?_
 rintro e w4 ⟨rfl,hr⟩
 dsimp only[recC]
 obtain⟨q5,hq5⟩:∃q5,q5=w4.heap.size:=⟨_,rfl⟩
 have hz5:w.heap.size≤w4.heap.size:=nT H2.out.2.2.2.2.2 hr.2.size
 have H3:(fun Vv:World=>Hid (RBuf Vv p []∧Below q w Vv∧Blk Vv (q + 1) 119 #[X Y 0,X Z 0,X Z 0,X Y 0,X Y 0,X Y 0,X Y 0,X Y 0,X Y 0,X Y 0,G none 0 0,X Y 0,X Y 0,X Y 0]∧Blk Vv q5 119 #[X Y 1,X Z src,X Z dst,X Y pr,X Y sp,X Y dp,X Y be,X Y gen,X Y seen,X Y 0,G none 0 0,X Y 0,X Y 0,X Y 0]∧w.heap.size≤Vv.heap.size)) (w4.alloc (cL #[X Y 1,X Z src,X Z dst,X Y pr,X Y sp,X Y dp,X Y be,X Y gen,X Y seen,X Y 0,G none 0 0,X Y 0,X Y 0,X Y 0] 119)):=by
  obtain⟨-,g2,-,g4,g5,g6⟩:=H2.out
  have g7:Below q w2 w4:=(bR q w2).grown hr.2 (by have:=HE.out;omega) (fun k hk=>by injection hk with hk;omega)
  exact⟨hr.1.below ((bR _ _).alloc (nR _) _),(g2.trans g7).alloc (by have:=HE.out;omega) _,(g4.grown hr.2 (by simp;omega)).alloc _,hq5▸Blk.new w4 _ _,by rw[World.size_alloc];omega⟩
 clear hr H2 x0 x1
 have g5:=H3.out.2.2.2.1
 obtain⟨c_0,c_1,c_2,c_3,c_4,c_5,c_6,c_7,c_8,c_9,c_10,c_11,c_12,c_13⟩:=g5.c14
 clear g5 hz5
 go_wp2_with fail
 rw[←hq5]
 clear hq5
 generalize (w4.alloc (cL #[X Y 1,X Z src,X Z dst,X Y pr,X Y sp,X Y dp,X Y be,X Y gen,X Y seen,X Y 0,G none 0 0,X Y 0,X Y 0,X Y 0] 119))=w5 at *
 refine(rend_any p w5 H3.out.1).mono ?_
 rintro e w' ⟨rfl,rfl⟩
 go_wp2_with fail
 refine(CM.out w5).mono ?_
 rintro e w6 ⟨rfl,hb6⟩
 have H4:Hid (Blk w6 q5 119 #[X Y 1,X Z src,X Z dst,X Y pr,X Y sp,X Y dp,X Y be,X Y gen,X Y seen,X Y 0,G none 0 0,X Y 0,X Y 0,X Y 0]∧Blk w6 (q + 1) 119 #[X Y 0,X Z 0,X Z 0,X Y 0,X Y 0,X Y 0,X Y 0,X Y 0,X Y 0,X Y 0,G none 0 0,X Y 0,X Y 0,X Y 0]∧Below q w w6):=by
  obtain⟨-,g2,g3,g4,g5⟩:=H3.out
  have:=HE.out
  exact⟨g4.below hb6 g4.lt,g3.below hb6 g3.lt,g2.trans (hb6.mono (by omega))⟩
 clear hb6 H3 c_0 c_1 c_2 c_3 c_4 c_5 c_6 c_7 c_8 c_9 c_10 c_11 c_12 c_13
 go_upto_region 7 with fail
 apply wp_region_lit
 refine wpList_load_row rfl _ _ rfl q5 rfl 119 #[X Y 1,X Z src,X Z dst,X Y pr,X Y sp,X Y dp,X Y be,X Y gen,X Y seen,X Y 0,G none 0 0,X Y 0,X Y 0,X Y 0] (0,0) _ H4.out.1 underlying119 rfl infoRec ?_
 refine wpList_store_row rfl _ _ _ rfl (q + 1) #[X Y 1,X Z src,X Z dst,X Y pr,X Y sp,X Y dp,X Y be,X Y gen,X Y seen,X Y 0,G none 0 0,X Y 0,X Y 0,X Y 0] rfl rfl 119 #[X Y 0,X Z 0,X Z 0,X Y 0,X Y 0,X Y 0,X Y 0,X Y 0,X Y 0,X Y 0,G none 0 0,X Y 0,X Y 0,X Y 0] H4.out.2.1 infoRec rfl (by simp[Value.oneCell']) ?_
 refine Go.Great.wpList_readTo rfl (some 3) rfl (X Y 0) rfl ?_
 apply wpList_nil
 have hres:=setRow_heap w6 (q + 1) _ #[X Y 1,X Z src,X Z dst,X Y pr,X Y sp,X Y dp,X Y be,X Y gen,X Y seen,X Y 0,G none 0 0,X Y 0,X Y 0,X Y 0] _ _ H4.out.2.1
 have hlow:Below q w (w6.setRow (q + 1) #[X Y 1,X Z src,X Z dst,X Y pr,X Y sp,X Y dp,X Y be,X Y gen,X Y seen,X Y 0,G none 0 0,X Y 0,X Y 0,X Y 0]):=below_setRow H4.out.2.2 (by omega) _
 simp only[Exit.inBlock,Exit.then]
 go_wp2_with fail
 refine bodyPost_ret (results_row_tmp rfl _ _ (q + 1) 119 #[X Y 1,X Z src,X Z dst,X Y pr,X Y sp,X Y dp,X Y be,X Y gen,X Y seen,X Y 0,G none 0 0,X Y 0,X Y 0,X Y 0] (0,0) _ rfl hres underlying119 rfl infoRec) rfl ?_
 exact⟨rfl,HE.out▸hlow⟩
theorem rread_gen (p:Nat)(gen:Nat)(l:List Be)(hg:gen≤1000000)(hn:l.length≤16)(hok:∀b∈l,beOk b=true)(had:∀b∈l,b.addr < 4294967296)(r:List Nat)(w:World)(hl:r.length≤4000)(ha:AllB r)(h:RBuf w p (genB gen l++r)):
  Calls Pg 311 #[PT (some ⟨p,0,none⟩),X Y 3,X Y 3] w fun e w'=>∃A c,e=rT (tU #[.agg (recG (gen:Int) (G A l.length c)),bL true])∧w'.ownsRow w.heap.size 34 3 (G A l.length c) l.length (bks l)∧RG p r w w':=by
 dsimp only[recG]
 obtain⟨q,hq⟩:∃q,q=w.heap.size:=⟨_,rfl⟩
 have hp:p < q:=hq▸h.lt
 have hB0:Below w.heap.size w ((w.alloc (cL #[X Y 0,X Z 0,X Z 0,X Y 0,X Y 0,X Y 0,X Y 0,X Y 0,X Y 0,X Y 0,G none 0 0,X Y 0,X Y 0,X Y 0] 119)).alloc (cL #[X Y 3,X Z 0,X Z 0,X Y 0,X Y 0,X Y 0,X Y 0,X Y 0,X Y 0,X Y 0,G none 0 0,X Y 0,X Y 0,X Y 0] 119)):=((bR w.heap.size w).alloc (nR _) _).alloc (by simp) _
 have h0:=h.below hB0
 have hq1:Blk ((w.alloc (cL #[X Y 0,X Z 0,X Z 0,X Y 0,X Y 0,X Y 0,X Y 0,X Y 0,X Y 0,X Y 0,G none 0 0,X Y 0,X Y 0,X Y 0] 119)).alloc (cL #[X Y 3,X Z 0,X Z 0,X Y 0,X Y 0,X Y 0,X Y 0,X Y 0,X Y 0,X Y 0,G none 0 0,X Y 0,X Y 0,X Y 0] 119)) q 119 #[X Y 0,X Z 0,X Z 0,X Y 0,X Y 0,X Y 0,X Y 0,X Y 0,X Y 0,X Y 0,G none 0 0,X Y 0,X Y 0,X Y 0]:=(hq▸Blk.new w 119 #[X Y 0,X Z 0,X Z 0,X Y 0,X Y 0,X Y 0,X Y 0,X Y 0,X Y 0,X Y 0,G none 0 0,X Y 0,X Y 0,X Y 0]).alloc _
 have hq2:Blk ((w.alloc (cL #[X Y 0,X Z 0,X Z 0,X Y 0,X Y 0,X Y 0,X Y 0,X Y 0,X Y 0,X Y 0,G none 0 0,X Y 0,X Y 0,X Y 0] 119)).alloc (cL #[X Y 3,X Z 0,X Z 0,X Y 0,X Y 0,X Y 0,X Y 0,X Y 0,X Y 0,X Y 0,G none 0 0,X Y 0,X Y 0,X Y 0] 119)) (q + 1) 119 #[X Y 3,X Z 0,X Z 0,X Y 0,X Y 0,X Y 0,X Y 0,X Y 0,X Y 0,X Y 0,G none 0 0,X Y 0,X Y 0,X Y 0]:=by
  have:=Blk.new (w.alloc (cL #[X Y 0,X Z 0,X Z 0,X Y 0,X Y 0,X Y 0,X Y 0,X Y 0,X Y 0,X Y 0,G none 0 0,X Y 0,X Y 0,X Y 0] 119)) 119 #[X Y 3,X Z 0,X Z 0,X Y 0,X Y 0,X Y 0,X Y 0,X Y 0,X Y 0,X Y 0,G none 0 0,X Y 0,X Y 0,X Y 0]
  rw[show (w.alloc (cL #[X Y 0,X Z 0,X Z 0,X Y 0,X Y 0,X Y 0,X Y 0,X Y 0,X Y 0,X Y 0,G none 0 0,X Y 0,X Y 0,X Y 0] 119)).heap.size=q + 1 by rw[hq];simp] at this
  exact this
 have H1:=jH (aI h0 (aI hB0 (aI hq1 hq2)))
 clear h h0 hB0 hq1 hq2
 go_enter func311,ntmps311
 go_wp2_with fail
 rw[←hq]
 have HE:=jH hq
 clear hq
 generalize ((w.alloc (cL #[X Y 0,X Z 0,X Z 0,X Y 0,X Y 0,X Y 0,X Y 0,X Y 0,X Y 0,X Y 0,G none 0 0,X Y 0,X Y 0,X Y 0] 119)).alloc (cL #[X Y 3,X Z 0,X Z 0,X Y 0,X Y 0,X Y 0,X Y 0,X Y 0,X Y 0,X Y 0,G none 0 0,X Y 0,X Y 0,X Y 0] 119))=w1 at *
 have h5:RBuf w1 p (be gen 4++(be l.length 1++(besB l++r))):=by
  have:=H1.out.1
  unfold genB at this
  simpa only[List.append_assoc] using this
 refine(u32g p gen _ w1 (by omega) (by simp[be_length,besB_length];omega) (allB_be (allB_append (besB_all _) ha)) h5).mono ?_
 rintro e w2 ⟨rfl,hr⟩
 have cv:IntKind.i64.wrap (gen:Int)=(gen:Int):=IntWalk.i64_in _ (by omega)
 have b2:=H1.out.2.2.2.grown hr.2 (by simp;omega)
 have b1:=H1.out.2.2.1.grown hr.2 (by simp;omega)
 have z9:=b2.frozen 9
 have y9:=b2.cell 9
 have H3:(fun Vv:World=>Hid (Blk Vv (q + 1) 119 #[X Y 3,X Z 0,X Z 0,X Y 0,X Y 0,X Y 0,X Y 0,X Y 0,X Y 0,X Y gen,G none 0 0,X Y 0,X Y 0,X Y 0]∧Blk Vv q 119 #[X Y 0,X Z 0,X Z 0,X Y 0,X Y 0,X Y 0,X Y 0,X Y 0,X Y 0,X Y 0,G none 0 0,X Y 0,X Y 0,X Y 0]∧RBuf Vv p (be l.length 1++(besB l++r))∧w.grownBy Vv (some p))) (w2.setCell ⟨q + 1,9,none⟩ (X Y gen)):=
  ⟨b2.set_ 9 _,b1.far (p:=⟨q + 1,9,none⟩) (by show q≠q + 1;omega) _,hr.1.far6 (by omega) _ _,grown_setF ((grown_below H1.out.2.1).trans hr.2) (by have:=HE.out;omega) 9 _⟩
 clear b1 b2 hr H1 h5
 go_wp2_with fail
 generalize (w2.setCell ⟨q + 1,9,none⟩ (X Y gen))=w3 at *
 clear cv z9 y9
 refine(rbacks_ok p l hn hok had r w3 (by omega) ha H3.out.2.2.1).mono ?_
 rintro e w4 ⟨A,c,rfl,hown,hr⟩
 have b2:=H3.out.1.grown hr.2 (by simp;omega)
 have b1:=H3.out.2.1.grown hr.2 (by simp;omega)
 have z10:=b2.frozen 10
 have y10:=b2.cell 10
 have H5:(fun Vv:World=>Hid (Blk Vv (q + 1) 119 #[X Y 3,X Z 0,X Z 0,X Y 0,X Y 0,X Y 0,X Y 0,X Y 0,X Y 0,X Y gen,G A l.length c,X Y 0,X Y 0,X Y 0]∧Blk Vv q 119 #[X Y 0,X Z 0,X Z 0,X Y 0,X Y 0,X Y 0,X Y 0,X Y 0,X Y 0,X Y 0,G none 0 0,X Y 0,X Y 0,X Y 0]∧RBuf Vv p r∧w.grownBy Vv (some p)∧Vv.ownsRow w.heap.size 34 3 (G A l.length c) l.length (bks l))) (w4.setCell ⟨q + 1,10,none⟩ (G A l.length c)):=
  ⟨b2.set_ 10 _,b1.far (p:=⟨q + 1,10,none⟩) (by show q≠q + 1;omega) _,hr.1.far6 (by omega) _ _,grown_setF (H3.out.2.2.2.trans hr.2) (by have:=HE.out;omega) 10 _,own_set_far (own_base hown H3.out.2.2.2.size) b2 (by decide) 10 _⟩
 clear b1 b2 hr H3 hown
 go_upto_region 18 with fail
 clear z10 y10
 generalize (w4.setCell ⟨q + 1,10,none⟩ (G A l.length c))=W at *
 apply wp_region_lit
 refine wpList_load_row rfl _ _ rfl (q + 1) rfl 119 #[X Y 3,X Z 0,X Z 0,X Y 0,X Y 0,X Y 0,X Y 0,X Y 0,X Y 0,X Y gen,G A l.length c,X Y 0,X Y 0,X Y 0] (0,0) _ H5.out.1 underlying119 rfl infoRec ?_
 refine Go.Great.wpList_readTo rfl (some 64) rfl (bL true) rfl ?_
 refine wpList_store_row rfl _ _ _ rfl q #[X Y 3,X Z 0,X Z 0,X Y 0,X Y 0,X Y 0,X Y 0,X Y 0,X Y 0,X Y gen,G A l.length c,X Y 0,X Y 0,X Y 0] rfl rfl 119 #[X Y 0,X Z 0,X Z 0,X Y 0,X Y 0,X Y 0,X Y 0,X Y 0,X Y 0,X Y 0,G none 0 0,X Y 0,X Y 0,X Y 0] H5.out.2.1 infoRec rfl (by simp[Value.oneCell']) ?_
 refine Go.Great.wpList_readTo rfl (some 7) rfl (bL true) rfl ?_
 apply wpList_nil
 have hres:=setRow_heap W q _ #[X Y 3,X Z 0,X Z 0,X Y 0,X Y 0,X Y 0,X Y 0,X Y 0,X Y 0,X Y gen,G A l.length c,X Y 0,X Y 0,X Y 0] _ _ H5.out.2.1
 have hlow:Below q W (W.setRow q #[X Y 3,X Z 0,X Z 0,X Y 0,X Y 0,X Y 0,X Y 0,X Y 0,X Y 0,X Y gen,G A l.length c,X Y 0,X Y 0,X Y 0]):=below_setRow (bR _ _) (nR _) _
 simp only[Exit.inBlock,Exit.then]
 go_wp2_with fail
 refine bodyPost_ret (results_row_tmp rfl _ _ q 119 #[X Y 3,X Z 0,X Z 0,X Y 0,X Y 0,X Y 0,X Y 0,X Y 0,X Y 0,X Y gen,G A l.length c,X Y 0,X Y 0,X Y 0] (0,0) _ rfl hres underlying119 rfl infoRec) rfl ?_
 exact⟨A,c,rfl,own_setRow H5.out.2.2.2.2 H5.out.2.1 (by decide) _,H5.out.2.2.1.low hlow hp,grown_low H5.out.2.2.2.1 (HE.out▸hlow)⟩
theorem rdec_gen (gen:Nat)(l:List Be)(hg:gen≤1000000)(hn:l.length≤16)(hok:∀b∈l,beOk b=true)(had:∀b∈l,b.addr < 4294967296)(A:Option Addr)(n c B:Nat)(w:World)(hrd:Reads w B 1 A n (bv (genB gen l)))(hB:B≤w.heap.size)(hnil:A=none→c=0):
  Calls Pg 198 #[aG #[X Y 3,X Y 3,G A n c]] w fun e w'=>∃A4 c4,e=rT (tU #[.agg (recG (gen:Int) (G A4 l.length c4)),X Y 0])∧w'.ownsRow w.heap.size 34 3 (G A4 l.length c4) l.length (bks l)∧Below w.heap.size w w':=by
 dsimp only[recG]
 have hn2:n≤140737488355328:=by have:=hrd.length;rw[genB_length] at this;omega
 obtain⟨q,hq⟩:∃q,q=w.heap.size:=⟨_,rfl⟩
 have hB0:Below w.heap.size w ((w.alloc (cL #[X Y 3,X Y 3,G A n c] 284)).alloc (cL #[X Y 0,X Z 0,X Z 0,X Y 0,X Y 0,X Y 0,X Y 0,X Y 0,X Y 0,X Y 0,G none 0 0,X Y 0,X Y 0,X Y 0] 119)):=((bR w.heap.size w).alloc (nR _) _).alloc (by simp) _
 have hsz:((w.alloc (cL #[X Y 3,X Y 3,G A n c] 284)).alloc (cL #[X Y 0,X Z 0,X Z 0,X Y 0,X Y 0,X Y 0,X Y 0,X Y 0,X Y 0,X Y 0,G none 0 0,X Y 0,X Y 0,X Y 0] 119)).heap.size=q + 2:=by rw[hq];simp
 have hr0:=hrd.below (hB0.mono hB)
 have hq1:Blk ((w.alloc (cL #[X Y 3,X Y 3,G A n c] 284)).alloc (cL #[X Y 0,X Z 0,X Z 0,X Y 0,X Y 0,X Y 0,X Y 0,X Y 0,X Y 0,X Y 0,G none 0 0,X Y 0,X Y 0,X Y 0] 119)) q 284 #[X Y 3,X Y 3,G A n c]:=(hq▸Blk.new w 284 #[X Y 3,X Y 3,G A n c]).alloc _
 have hq2:Blk ((w.alloc (cL #[X Y 3,X Y 3,G A n c] 284)).alloc (cL #[X Y 0,X Z 0,X Z 0,X Y 0,X Y 0,X Y 0,X Y 0,X Y 0,X Y 0,X Y 0,G none 0 0,X Y 0,X Y 0,X Y 0] 119)) (q + 1) 119 #[X Y 0,X Z 0,X Z 0,X Y 0,X Y 0,X Y 0,X Y 0,X Y 0,X Y 0,X Y 0,G none 0 0,X Y 0,X Y 0,X Y 0]:=by
  have:=Blk.new (w.alloc (cL #[X Y 3,X Y 3,G A n c] 284)) 119 #[X Y 0,X Z 0,X Z 0,X Y 0,X Y 0,X Y 0,X Y 0,X Y 0,X Y 0,X Y 0,G none 0 0,X Y 0,X Y 0,X Y 0]
  rw[show (w.alloc (cL #[X Y 3,X Y 3,G A n c] 284)).heap.size=q + 1 by rw[hq];simp] at this
  exact this
 have CN:=jH (newreader_any A n c B _ ((w.alloc (cL #[X Y 3,X Y 3,G A n c] 284)).alloc (cL #[X Y 0,X Z 0,X Z 0,X Y 0,X Y 0,X Y 0,X Y 0,X Y 0,X Y 0,X Y 0,G none 0 0,X Y 0,X Y 0,X Y 0] 119)) hr0 (by rw[hsz];omega) hn2 hnil)
 have CV:=jH (recver_any 3 (by omega) (by omega))
 rw[show ((3:Nat):Int)=3 from rfl] at CV
 obtain⟨x0,x1,x2⟩:=hq1.c3
 have H1:=jH (aI hB0 (aI hq1 (aI hq2 hsz)))
 clear hrd hr0 hB0 hq1 hq2 hsz
 go_enter func198,ntmps198
 go_wp2_with fail
 rw[←hq]
 have HE:=jH hq
 clear hq
 generalize ((w.alloc (cL #[X Y 3,X Y 3,G A n c] 284)).alloc (cL #[X Y 0,X Z 0,X Z 0,X Y 0,X Y 0,X Y 0,X Y 0,X Y 0,X Y 0,X Y 0,G none 0 0,X Y 0,X Y 0,X Y 0] 119))=w1 at *
 refine(CV.out w1).mono ?_
 rintro e w' ⟨rfl,rfl⟩
 go_wp2_with fail
 refine CN.out.mono ?_
 rintro e w2 ⟨p,rfl,hp,hrb,hb2⟩
 rw[H1.out.2.2.2] at hp
 have k1:=H1.out.2.1.below hb2 (by rw[H1.out.2.2.2];omega)
 have k2:=H1.out.2.2.1.below hb2 (by rw[H1.out.2.2.2];omega)
 have H2:Hid (RBuf w2 p (genB gen l++[])∧Below q w w2∧Blk w2 q 284 #[X Y 3,X Y 3,G A n c]∧Blk w2 (q + 1) 119 #[X Y 0,X Z 0,X Z 0,X Y 0,X Y 0,X Y 0,X Y 0,X Y 0,X Y 0,X Y 0,G none 0 0,X Y 0,X Y 0,X Y 0]∧q + 2≤p∧w.heap.size≤w2.heap.size):=⟨by rw[List.append_nil];exact hrb,HE.out▸H1.out.1.trans (hb2.mono H1.out.1.size),k1,k2,hp,nT H1.out.1.size hb2.size⟩
 clear x0 x1 x2
 obtain⟨x0,x1⟩:=k1.c2
 clear hrb hb2 CN CV H1 k1 k2 hp
 go_wp2_with fail
 refine(rread_gen p gen l hg hn hok had [] w2 (by simp) allB_nil H2.out.1).mono ?_
 rintro e w4 ⟨A4,c4,rfl,hown,hr⟩
 dsimp only[recG]
 obtain⟨q5,hq5⟩:∃q5,q5=w4.heap.size:=⟨_,rfl⟩
 have hz5:w.heap.size≤w4.heap.size:=nT H2.out.2.2.2.2.2 hr.2.size
 have H3:(fun Vv:World=>Hid (RBuf Vv p []∧Below q w Vv∧Blk Vv (q + 1) 119 #[X Y 0,X Z 0,X Z 0,X Y 0,X Y 0,X Y 0,X Y 0,X Y 0,X Y 0,X Y 0,G none 0 0,X Y 0,X Y 0,X Y 0]∧Blk Vv q5 119 #[X Y 3,X Z 0,X Z 0,X Y 0,X Y 0,X Y 0,X Y 0,X Y 0,X Y 0,X Y gen,G A4 l.length c4,X Y 0,X Y 0,X Y 0]∧Vv.ownsRow w.heap.size 34 3 (G A4 l.length c4) l.length (bks l)∧w.heap.size≤Vv.heap.size)) (w4.alloc (cL #[X Y 3,X Z 0,X Z 0,X Y 0,X Y 0,X Y 0,X Y 0,X Y 0,X Y 0,X Y gen,G A4 l.length c4,X Y 0,X Y 0,X Y 0] 119)):=by
  obtain⟨-,g2,-,g4,g5,g6⟩:=H2.out
  have g7:Below q w2 w4:=(bR q w2).grown hr.2 (by have:=HE.out;omega) (fun k hk=>by injection hk with hk;omega)
  exact⟨hr.1.below ((bR _ _).alloc (nR _) _),(g2.trans g7).alloc (by have:=HE.out;omega) _,(g4.grown hr.2 (by simp;omega)).alloc _,hq5▸Blk.new w4 _ _,own_base (own_below hown ((bR _ _).alloc (nR _) _)) g6,by rw[World.size_alloc];omega⟩
 clear hr H2 x0 x1 hown
 have g5:=H3.out.2.2.2.1
 obtain⟨c_0,c_1,c_2,c_3,c_4,c_5,c_6,c_7,c_8,c_9,c_10,c_11,c_12,c_13⟩:=g5.c14
 clear g5 hz5
 go_wp2_with fail
 rw[←hq5]
 clear hq5
 generalize (w4.alloc (cL #[X Y 3,X Z 0,X Z 0,X Y 0,X Y 0,X Y 0,X Y 0,X Y 0,X Y 0,X Y gen,G A4 l.length c4,X Y 0,X Y 0,X Y 0] 119))=w5 at *
 refine(rend_any p w5 H3.out.1).mono ?_
 rintro e w' ⟨rfl,rfl⟩
 go_wp2_with fail
 refine(recmay_gen gen hg A4 l.length c4 w5.heap.size l w5 (Reads.of_own H3.out.2.2.2.2.1) (nR _) hn hok).mono ?_
 rintro e w6 ⟨rfl,hb6⟩
 have H4:Hid (Blk w6 q5 119 #[X Y 3,X Z 0,X Z 0,X Y 0,X Y 0,X Y 0,X Y 0,X Y 0,X Y 0,X Y gen,G A4 l.length c4,X Y 0,X Y 0,X Y 0]∧Blk w6 (q + 1) 119 #[X Y 0,X Z 0,X Z 0,X Y 0,X Y 0,X Y 0,X Y 0,X Y 0,X Y 0,X Y 0,G none 0 0,X Y 0,X Y 0,X Y 0]∧Below q w w6∧w6.ownsRow w.heap.size 34 3 (G A4 l.length c4) l.length (bks l)):=by
  obtain⟨-,g2,g3,g4,g6,g5⟩:=H3.out
  have:=HE.out
  exact⟨g4.below hb6 g4.lt,g3.below hb6 g3.lt,g2.trans (hb6.mono (by omega)),own_below g6 hb6⟩
 clear hb6 H3 c_0 c_1 c_2 c_3 c_4 c_5 c_6 c_7 c_8 c_9 c_10 c_11 c_12 c_13
 go_upto_region 7 with fail
 apply wp_region_lit
 refine wpList_load_row rfl _ _ rfl q5 rfl 119 #[X Y 3,X Z 0,X Z 0,X Y 0,X Y 0,X Y 0,X Y 0,X Y 0,X Y 0,X Y gen,G A4 l.length c4,X Y 0,X Y 0,X Y 0] (0,0) _ H4.out.1 underlying119 rfl infoRec ?_
 refine wpList_store_row rfl _ _ _ rfl (q + 1) #[X Y 3,X Z 0,X Z 0,X Y 0,X Y 0,X Y 0,X Y 0,X Y 0,X Y 0,X Y gen,G A4 l.length c4,X Y 0,X Y 0,X Y 0] rfl rfl 119 #[X Y 0,X Z 0,X Z 0,X Y 0,X Y 0,X Y 0,X Y 0,X Y 0,X Y 0,X Y 0,G none 0 0,X Y 0,X Y 0,X Y 0] H4.out.2.1 infoRec rfl (by simp[Value.oneCell']) ?_
 refine Go.Great.wpList_readTo rfl (some 3) rfl (X Y 0) rfl ?_
 apply wpList_nil
 have hres:=setRow_heap w6 (q + 1) _ #[X Y 3,X Z 0,X Z 0,X Y 0,X Y 0,X Y 0,X Y 0,X Y 0,X Y 0,X Y gen,G A4 l.length c4,X Y 0,X Y 0,X Y 0] _ _ H4.out.2.1
 have hlow:Below q w (w6.setRow (q + 1) #[X Y 3,X Z 0,X Z 0,X Y 0,X Y 0,X Y 0,X Y 0,X Y 0,X Y 0,X Y gen,G A4 l.length c4,X Y 0,X Y 0,X Y 0]):=below_setRow H4.out.2.2.1 (by omega) _
 simp only[Exit.inBlock,Exit.then]
 go_wp2_with fail
 refine bodyPost_ret (results_row_tmp rfl _ _ (q + 1) 119 #[X Y 3,X Z 0,X Z 0,X Y 0,X Y 0,X Y 0,X Y 0,X Y 0,X Y 0,X Y gen,G A4 l.length c4,X Y 0,X Y 0,X Y 0] (0,0) _ rfl hres underlying119 rfl infoRec) rfl ?_
 exact⟨A4,c4,rfl,own_setRow H4.out.2.2.2 H4.out.2.1 (by decide) _,HE.out▸hlow⟩
end
section
theorem laidRt:laidOutB Pg=true:=by kernel_rfl
end
section
open Go.RowKit Go.Maps
theorem tupWide:(match Pg.underlying 39 with|some (.array _ _)|some (.struct _)=>true|_=>false)=true:=by kernel_rfl
theorem tupRow:(39:TypeId) < Pg.types.size:=of_decide_eq_true (by kernel_rfl)
theorem tupKT:Pg.keyTypeAt 2 39=true:=by kernel_rfl
theorem tupLaw0:Go.WideMaps.KeyLaw Pg 39:=deep_law_laid laidRt (m:=2) (by omega) tupRow tupKT tupWide
theorem tupLaw:Keyed Pg 39:=Keyed.of_law tupLaw0
theorem tupKeyType:Pg.keyType 39=true:=by kernel_rfl
theorem tupCells:Pg.cellsOf 39=5:=by kernel_rfl
theorem u32Cells:Pg.cellsOf 32=1:=by kernel_rfl
theorem intCells:Pg.cellsOf 3=1:=by kernel_rfl
theorem rtTypes:∃n,Pg.types.size=n + 1:=by
 obtain⟨k,hk⟩:=Nat.exists_eq_add_of_lt tupRow
 exact⟨_,hk⟩
def tupV (k:Tu):Value:=.agg k.vals
theorem wfT_u32 (n:Nat)(h:n < 4294967296):(Lit.int .u32 n).wf=true:=by
 show (decide (IntKind.u32.min≤(n:Int))&&decide ((n:Int)≤IntKind.u32.max))=true
 rw[show IntKind.u32.min=0 by decide,show IntKind.u32.max=4294967295 by decide,decide_eq_true (by omega),decide_eq_true (by omega)]
 rfl
theorem wfT_i64 (z:Int)(h0:-9223372036854775808≤z)(h1:z≤9223372036854775807):(Lit.int .i64 z).wf=true:=by
 show (decide (IntKind.i64.min≤z)&&decide (z≤IntKind.i64.max))=true
 rw[show IntKind.i64.min=-9223372036854775808 by decide,show IntKind.i64.max=9223372036854775807 by decide,decide_eq_true h0,decide_eq_true h1]
 rfl
theorem tup_key (k:Tu)(hk:TuOk k):∃l,keyOf Pg 39 (tupV k)=some l:=by
 obtain⟨n,hn⟩:=rtTypes
 obtain⟨src,dst,proto,sport,dport⟩:=k
 obtain⟨h1,h2,h3,h4,h5⟩:=hk
 dsimp only at *
 have hf:(tupV ⟨src,dst,proto,sport,dport⟩).formed Pg 39=true:=by
  unfold tupV Tu.vals Value.formed
  rw[underlying39]
  simp[tupCells]
 unfold keyOf
 rw[underlying39]
 dsimp only
 rw[tupKeyType,hf,hn]
 simp only[Bool.and_self,if_true]
 have hu:∀m,Pg.keyLits (m + 1) 32 [.int .u32 src]=some [.int .u32 src]:=fun m=>by
  unfold Program.keyLits
  rw[underlying32]
  dsimp only
  rw[if_pos ⟨rfl,wfT_u32 src h1⟩]
 have hu2:∀m,Pg.keyLits (m + 1) 32 [.int .u32 dst]=some [.int .u32 dst]:=fun m=>by
  unfold Program.keyLits
  rw[underlying32]
  dsimp only
  rw[if_pos ⟨rfl,wfT_u32 dst h2⟩]
 have hi:∀m z,-9223372036854775808≤z→z≤9223372036854775807→Pg.keyLits (m + 1) 3 [.int .i64 z]=some [.int .i64 z]:=fun m z h0 h1=>by
  unfold Program.keyLits
  rw[underlying3]
  dsimp only
  rw[if_pos ⟨rfl,wfT_i64 z h0 h1⟩]
 unfold tupV Tu.vals Value.cells
 unfold Program.keyLits
 rw[underlying39]
 dsimp only
 rw[tupCells]
 simp[u32Cells,intCells,hu,hu2,hi _ proto h3.1 h3.2,hi _ sport h4.1 h4.2,hi _ dport h5.1 h5.2]
theorem tupV_inj (a b:Tu)(h:tupV a=tupV b):a=b:=by
 obtain⟨a1,a2,a3,a4,a5⟩:=a
 obtain⟨b1,b2,b3,b4,b5⟩:=b
 simp[tupV,Tu.vals] at h
 obtain⟨h1,h2,h3,h4,h5⟩:=h
 simp[h3,h4,h5]
 omega
theorem encT:Enc Pg 39 tupV TuOk:=⟨tupLaw,tup_key,tupV_inj⟩
def flV (f:Fl):Value:=.agg f.vals
abbrev intV:Int→Value:=Value.int .i64
def anyI (_:Int):Prop:=True
structure StAt (w:World)(base sp sd sf:Nat)(gen:Nat)(bl:List Be)(fm:List (Tu×Fl)):Prop where
 los:base≤sp
 lod:base≤sd
 lof:base≤sf
 hi:base≤w.heap.size
 ne:sd≠sf
 blk:∃A c,Blk w sp 192 #[X Y gen,G A bl.length c,.map (some sd),.map (some sf)]∧w.ownsRow base 34 3 (G A bl.length c) bl.length (bks bl)
 dr:MapIs w intV anyI intV sd ([]:List (Int×Int))
 fm:MapIs w tupV TuOk flV sf fm
theorem StAt.fr {w w':World}{base base' sp sd sf gen:Nat}{bl:List Be}{fm:List (Tu×Fl)}{K:List TypeId}{M:List Nat}(h:StAt w base sp sd sf gen bl fm)(hf:Fr K M base' w w')(h1:192∉K)(h2:34∉K)(h3:sd∉M)(h4:sf∉M):StAt w' base sp sd sf gen bl fm:=by
 obtain⟨A,c,hb,ho⟩:=h.blk
 exact{h with hi:=nT h.hi hf.size,blk:=⟨A,c,hf.blk _ _ _ hb h1,hf.own ho h2⟩,dr:=hf.mapIs h.dr h3,fm:=hf.mapIs h.fm h4}
theorem StAt.made {w w':World}{base sp sd sf gen:Nat}{bl:List Be}{fm:List (Tu×Fl)}(h:StAt w base sp sd sf gen bl fm)(hb:Below w.heap.size w w'):StAt w' base sp sd sf gen bl fm:=
 h.fr (K:=[]) (M:=[]) (Fr.of_below [] [] hb h.hi) (by simp) (by simp) (by simp) (by simp)
theorem stnew_ok (w:World):Calls Pg 86 #[] w fun e w'=>∃sp sd sf,e=rT (PT (some ⟨sp,0,none⟩))∧StAt w' w.heap.size sp sd sf 0 [] []∧Below w.heap.size w w':=by
 have hmk:∀W:World,(Instr.makeMap 137 none).run Pg W=.ok (.map (some W.heap.size)) (W.alloc (.map #[] 0)):=fun _=>rfl
 have hmk2:∀W:World,(Instr.makeMap 147 none).run Pg W=.ok (.map (some W.heap.size)) (W.alloc (.map #[] 0)):=fun _=>rfl
 go_enter func86,ntmps86
 go_wp2_with fail
 go_ret
 have m1:MapIs (w.alloc (.map #[] 0)) intV anyI intV w.heap.size []:=MapIs.made w
 have m2:MapIs ((w.alloc (.map #[] 0)).alloc (.map #[] 0)) tupV TuOk flV (w.heap.size + 1) []:=by have:=MapIs.made (ek:=tupV) (ok:=TuOk) (ev:=flV) (w.alloc (.map #[] 0));simpa using this
 refine⟨w.heap.size + 2,w.heap.size,w.heap.size + 1,rfl,?_,below_three w _ _ _⟩
 exact{los:=by omega,lod:=by omega,lof:=by omega,hi:=by simp;omega,ne:=by omega,blk:=⟨none,0,Blk.new_ (by simp),rfl,.inl ⟨rfl,rfl⟩⟩,dr:=(m1.alloc _).alloc _,fm:=m2.alloc _}
theorem full_put (base sp sd sf gen:Nat)(bl:List Be)(fm:List (Tu×Fl))(f:Fl)(hf:FlOk f)(w:World)(h:StAt w base sp sd sf gen bl fm)(hlen:fm.length < 256):
  Calls Pg 312 #[PT (some ⟨sp,0,none⟩),.agg (recC 1 f 0 (G none 0 0))] w fun e w'=>e=rT (bL false)∧Below w.heap.size w w':=by
 obtain⟨A,c,hb,ho⟩:=h.blk
 have hb0:=(bR w.heap.size w).alloc (nR _) (cL (recC 1 f 0 (G none 0 0)) 119)
 have hk:=hb.alloc (cL (recC 1 f 0 (G none 0 0)) 119)
 have hm:=h.fm.alloc (cL (recC 1 f 0 (G none 0 0)) 119)
 have hx:=Blk.new w 119 (recC 1 f 0 (G none 0 0))
 obtain⟨⟨src,dst,proto,sport,dport⟩,be0,g0,seen⟩:=f
 obtain⟨hkt,hmay,-,-,-⟩:=hf
 dsimp only[recC] at *
 have hlk:=hm.drew.lookup (P:=Pg) encT (t:=147) underlying147 (z:=aG #[X Z 0,X Z 0,X Y 0,X Y 0,X Y 0,X Y 0,X Y 0,X Y 0]) (by kernel_rfl) ⟨src,dst,proto,sport,dport⟩ hkt true
 have hlkA:=fun o=>(hm.alloc o).drew.lookup (P:=Pg) encT (t:=147) underlying147 (z:=aG #[X Z 0,X Z 0,X Y 0,X Y 0,X Y 0,X Y 0,X Y 0,X Y 0]) (by kernel_rfl) ⟨src,dst,proto,sport,dport⟩ hkt true
 unfold tupV Tu.vals at hlk hlkA
 dsimp only at hlk hlkA
 have c3:=hk.cell 3
 simp only[ga,gz,gN] at c3
 have c3A:∀o,((w.alloc (cL #[X Y 1,X Z src,X Z dst,X Y proto,X Y sport,X Y dport,X Y be0,X Y g0,X Y seen,X Y 0,G none 0 0,X Y 0,X Y 0,X Y 0] 119)).alloc o).cell? ⟨sp,3,none⟩=some (.map (some sf)):=fun o=>by have:=(hk.alloc o).cell 3;simpa using this
 have hlnA:=fun ty o=>(hm.alloc o).drew.len (P:=Pg) (ty:=ty) (t:=147) underlying147
 have d1:decide ((256:Int)≤(fm.length:Int))=false:=decide_eq_false (by omega)
 generalize fm.length=fl at *
 have hbA:=fun o=>(hb0.trans ((bR _ _).alloc (nR _) o |>.mono hb0.size)).drew
 clear hb ho h
 cases hg:mget fm ⟨src,dst,proto,sport,dport⟩ with
 |none=>
  rw[hg] at hlk hlkA
  simp only[if_true] at hlk hlkA
  go_enter func312,ntmps312
  go_wp2_with fail
  go_region
  all_goals
   go_wp2_with fail
   go_ret
   exact⟨rfl,hbA _⟩
 |some fv=>
  rw[hg] at hlk hlkA
  simp only[if_true] at hlk hlkA
  unfold flV Fl.vals at hlk hlkA
  go_enter func312,ntmps312
  go_wp2_with fail
  go_region
  all_goals
   go_wp2_with fail
   go_ret
   exact⟨rfl,hbA _⟩
theorem StAt.remap {w w':World}{base sp sd sf gen:Nat}{bl:List Be}{fm fm':List (Tu×Fl)}(h:StAt w base sp sd sf gen bl fm)(hf:Fr [] [sf] base w w')(hm:MapIs w' tupV TuOk flV sf fm'):StAt w' base sp sd sf gen bl fm':=by
 obtain⟨A,c,hb,ho⟩:=h.blk
 exact{los:=h.los,lod:=h.lod,lof:=h.lof,hi:=nT h.hi hf.size,ne:=h.ne,blk:=⟨A,c,hf.blk _ _ _ hb (by simp),hf.own ho (by simp)⟩,dr:=hf.mapIs h.dr (by have:=h.ne;simp;omega),fm:=hm}
theorem full_del (sp:Nat)(k:Tu)(w:World):
  Calls Pg 312 #[PT (some ⟨sp,0,none⟩),.agg (recD k)] w fun e w'=>e=rT (bL false)∧Below w.heap.size w w':=by
 have hb0:=(bR w.heap.size w).alloc (nR _) (cL (recD k) 119)
 unfold recD at *
 go_enter func312,ntmps312
 go_wp2_with fail
 go_ret
 exact⟨rfl,hb0⟩
theorem apply_put (base sp sd sf gen:Nat)(bl:List Be)(fm:List (Tu×Fl))(f:Fl)(hf:FlOk f)(w:World)(h:StAt w base sp sd sf gen bl fm)(hlen:fm.length < 256):
  Calls Pg 199 #[PT (some ⟨sp,0,none⟩),.agg (recC 1 f 0 (G none 0 0))] w fun e w'=>e=rT (X Y 0)∧StAt w' base sp sd sf gen bl (mput fm f.k f)∧Fr [] [sf] base w w':=by
 have CF:=jH (fun W hW=>full_put base sp sd sf gen bl fm f hf W hW hlen)
 have CM:=jH (recmay_put f hf)
 have hx:=Blk.new w 119 (recC 1 f 0 (G none 0 0))
 have hb0:=(bR w.heap.size w).alloc (nR _) (cL (recC 1 f 0 (G none 0 0)) 119)
 have hkt:=hf.k
 have HU:=jH (fun(W:World) (hm:MapIs W tupV TuOk flV sf fm)=>hm.update (P:=Pg) encT (t:=147) underlying147 f.k hkt f)
 obtain⟨FM,hFM⟩:∃FM,mput fm f.k f=FM:=⟨_,rfl⟩
 rw[hFM] at HU⊢
 clear hFM hf
 obtain⟨⟨src,dst,proto,sport,dport⟩,be0,g0,seen⟩:=f
 dsimp only[recC] at *
 obtain⟨q,hq⟩:∃q,q=w.heap.size:=⟨_,rfl⟩
 have HQ:=jH hq
 have H:=jH h
 rw[←hq] at hx hb0
 clear h
 go_enter func199,ntmps199
 go_wp2_with fail
 rw[←hq]
 clear hq
 generalize w.alloc (cL #[X Y 1,X Z src,X Z dst,X Y proto,X Y sport,X Y dport,X Y be0,X Y g0,X Y seen,X Y 0,G none 0 0,X Y 0,X Y 0,X Y 0] 119)=w0 at *
 refine(CM.out _).mono ?_
 rintro e w1 ⟨rfl,hb1⟩
 have hx1:=hx.below hb1 hx.lt
 have hb01:=hb0.trans (hb1.mono (by have:=hx.lt;omega))
 obtain⟨e0,e1,e2,e3,e4,e5,e6,e7,e8,e9,e10,e11,e12,e13⟩:=hx1.c14
 have HX:=jH (aI hx1 hb01)
 clear hx hb0 hx1 hb1 hb01
 go_wp2_with fail
 refine(CF.out _ (H.out.made (HQ.out▸HX.out.2))).mono ?_
 rintro e w2 ⟨rfl,hb2⟩
 have hx2:=HX.out.1.below hb2 HX.out.1.lt
 have hb02:=HX.out.2.trans (hb2.mono (by have:=HX.out.1.lt;omega))
 clear e0 e1 e2 e3 e4 e5 e6 e7 e8 e9 e10 e11 e12 e13
 obtain⟨g0,g1,g2,g3,g4,g5,g6,g7,g8,g9,g10,g11,g12,g13⟩:=hx2.c14
 have hS2:=H.out.made (HQ.out▸hb02)
 obtain⟨A,c,hb,ho⟩:=hS2.blk
 have s3:=hb.cell 3
 simp only[ga,gz,gN] at s3
 obtain⟨w3,hup,hm3,hbut3,hs3⟩:=HU.out w2.drew hS2.fm.drew
 unfold tupV flV Fl.vals Tu.vals at hup
 dsimp only at hup
 obtain⟨es,cl,hes,_⟩:=hS2.fm
 have HE:=jH (aI hS2 (aI hm3 (((Fr.of_below [] [sf] (HQ.out▸hb02) H.out.hi).drew.but (show w2.drew.heap[sf]? =_ from hes) hbut3 (by simp) H.out.lof hS2.hi))))
 clear hS2 hm3 hbut3 hs3 hb ho hx2 hb02 hb2 hes
 go_wp2_with fail
 go_region
 all_goals
  go_wp2_with fail
  go_ret
  exact⟨rfl,H.out.remap HE.out.2.2 HE.out.2.1,HE.out.2.2⟩
theorem apply_del (base sp sd sf gen:Nat)(bl:List Be)(fm:List (Tu×Fl))(k:Tu)(hkt:TuOk k)(hmay:mayTu k=true)(w:World)(h:StAt w base sp sd sf gen bl fm):
  Calls Pg 199 #[PT (some ⟨sp,0,none⟩),.agg (recD k)] w fun e w'=>e=rT (X Y 0)∧StAt w' base sp sd sf gen bl (mdel fm k)∧Fr [] [sf] base w w':=by
 have CF:=jH (full_del sp k)
 have CM:=jH (recmay_del k hmay)
 have hx:=Blk.new w 119 (recD k)
 have hb0:=(bR w.heap.size w).alloc (nR _) (cL (recD k) 119)
 have HU:=jH (fun(W:World) (hm:MapIs W tupV TuOk flV sf fm)=>hm.delete (P:=Pg) (ty:=0) encT (t:=147) underlying147 k hkt)
 obtain⟨FM,hFM⟩:∃FM,mdel fm k=FM:=⟨_,rfl⟩
 rw[hFM] at HU⊢
 clear hFM
 obtain⟨src,dst,proto,sport,dport⟩:=k
 dsimp only[recD] at *
 obtain⟨q,hq⟩:∃q,q=w.heap.size:=⟨_,rfl⟩
 have HQ:=jH hq
 have H:=jH h
 rw[←hq] at hx hb0
 clear h
 go_enter func199,ntmps199
 go_wp2_with fail
 rw[←hq]
 clear hq
 generalize w.alloc (cL #[X Y 2,X Z src,X Z dst,X Y proto,X Y sport,X Y dport,X Y 0,X Y 0,X Y 0,X Y 0,G none 0 0,X Y 0,X Y 0,X Y 0] 119)=w0 at *
 refine(CM.out _).mono ?_
 rintro e w1 ⟨rfl,hb1⟩
 have hx1:=hx.below hb1 hx.lt
 have hb01:=hb0.trans (hb1.mono (by have:=hx.lt;omega))
 obtain⟨e0,e1,e2,e3,e4,e5,e6,e7,e8,e9,e10,e11,e12,e13⟩:=hx1.c14
 have HX:=jH (aI hx1 hb01)
 clear hx hb0 hx1 hb1 hb01
 go_wp2_with fail
 refine(CF.out _).mono ?_
 rintro e w2 ⟨rfl,hb2⟩
 have hx2:=HX.out.1.below hb2 HX.out.1.lt
 have hb02:=HX.out.2.trans (hb2.mono (by have:=HX.out.1.lt;omega))
 clear e0 e1 e2 e3 e4 e5 e6 e7 e8 e9 e10 e11 e12 e13
 obtain⟨g0,g1,g2,g3,g4,g5,g6,g7,g8,g9,g10,g11,g12,g13⟩:=hx2.c14
 have hS2:=H.out.made (HQ.out▸hb02)
 obtain⟨A,c,hb,ho⟩:=hS2.blk
 have s3:=hb.cell 3
 simp only[ga,gz,gN] at s3
 obtain⟨w3,hup,hm3,hbut3,hs3⟩:=HU.out w2.drew hS2.fm.drew
 unfold tupV Tu.vals at hup
 dsimp only at hup
 obtain⟨es,cl,hes,_⟩:=hS2.fm
 have HE:=jH (aI hS2 (aI hm3 (((Fr.of_below [] [sf] (HQ.out▸hb02) H.out.hi).drew.but (show w2.drew.heap[sf]? =_ from hes) hbut3 (by simp) H.out.lof hS2.hi))))
 clear hS2 hm3 hbut3 hs3 hb ho hx2 hb02 hb2 hes
 go_wp2_with fail
 go_region
 all_goals
  go_wp2_with fail
  go_ret
  exact⟨rfl,H.out.remap HE.out.2.2 HE.out.2.1,HE.out.2.2⟩
theorem full_gen (sp:Nat)(gn:Int)(bs:Value)(w:World):
  Calls Pg 312 #[PT (some ⟨sp,0,none⟩),.agg (recG gn bs)] w fun e w'=>e=rT (bL false)∧Below w.heap.size w w':=by
 have hb0:=(bR w.heap.size w).alloc (nR _) (cL (recG gn bs) 119)
 unfold recG at *
 go_enter func312,ntmps312
 go_wp2_with fail
 go_ret
 exact⟨rfl,hb0⟩
theorem beOk_of_may {n:Nat}{l:List Be}(hl:l.length=n)(h:MayBs n l):∀b∈l,beOk b=true:=fun b hb=>by
 obtain⟨j,hj,rfl⟩:=List.getElem_of_mem hb
 obtain⟨_,h1,h2,h3,h4,_⟩:=h.2 j (by omega)
 unfold beOk recinZ
 rw[decide_eq_true ⟨h1,h2⟩,decide_eq_true ⟨h3,h4⟩]
 rfl
theorem apply_gen (base sp sd sf gen:Nat)(bl:List Be)(fm:List (Tu×Fl))(gn:Nat)(hgn:gn≤1000000)(A:Option Addr)(n c B:Nat)(l:List Be)(w:World)(hr:Reads w B 3 A n (bks l))(hB:B≤w.heap.size)(hok:BesOk l)(hmay:MayBs n l)(hnc:n≤c)(hnil:A=none→c=0)(h:StAt w base sp sd sf gen bl fm):
  Calls Pg 199 #[PT (some ⟨sp,0,none⟩),.agg (recG (gn:Int) (G A n c))] w fun e w'=>e=rT (X Y 0)∧StAt w' base sp sd sf gn l fm∧Fr [192] [] base w w':=by
 have hln:=hr.be_length
 have hn16:n≤16:=hmay.1
 have CF:=jH (full_gen sp (gn:Int) (G A n c))
 have CM:=jH (fun W hrW hBW=>recmay_gen gn hgn A n c B l W hrW hBW hn16 (beOk_of_may hln hmay))
 have CG:=jH (fun W hrW hBW=>gmay_any A n c B l W hrW hBW hok (by omega) hnc)
 have hx:=Blk.new w 119 (recG (gn:Int) (G A n c))
 have hb0:=(bR w.heap.size w).alloc (nR _) (cL (recG (gn:Int) (G A n c)) 119)
 have hr0:=hr.below (hb0.mono hB)
 unfold recG at *
 obtain⟨q,hq⟩:∃q,q=w.heap.size:=⟨_,rfl⟩
 have HQ:=jH hq
 have H:=jH (aI h (aI hr hmay))
 rw[←hq] at hx hb0
 have hBq:B≤q:=by omega
 clear h hr hmay
 go_enter func199,ntmps199
 go_wp2_with fail
 rw[←hq]
 clear hq
 generalize w.alloc (cL #[X Y 3,X Z 0,X Z 0,X Y 0,X Y 0,X Y 0,X Y 0,X Y 0,X Y 0,X Y gn,G A n c,X Y 0,X Y 0,X Y 0] 119)=w0 at *
 refine(CM.out _ hr0 (by have:=hb0.size;have:=HQ.out;omega)).mono ?_
 rintro e w1 ⟨rfl,hb1⟩
 have hx1:=hx.below hb1 hx.lt
 have hb01:=hb0.trans (hb1.mono (by have:=hx.lt;omega))
 obtain⟨e0,e1,e2,e3,e4,e5,e6,e7,e8,e9,e10,e11,e12,e13⟩:=hx1.c14
 have HX:=jH (aI hx1 hb01)
 clear hx hb0 hx1 hb1 hb01 hr0
 go_wp2_with fail
 refine(CG.out _ (H.out.2.1.below (HX.out.2.mono hBq)) (by have:=HX.out.1.lt;omega)).mono ?_
 rintro e wg ⟨⟨bb,rfl,hbb⟩,hbg⟩
 obtain rfl:bb=true:=hbb.2 H.out.2.2
 have hxg:=HX.out.1.below hbg HX.out.1.lt
 have hb0g:=HX.out.2.trans (hbg.mono (by have:=HX.out.1.lt;omega))
 clear e0 e1 e2 e3 e4 e5 e6 e7 e8 e9 e10 e11 e12 e13
 obtain⟨g0,g1,g2,g3,g4,g5,g6,g7,g8,g9,g10,g11,g12,g13⟩:=hxg.c14
 have HG:=jH (aI hxg hb0g)
 clear hxg hbg hb0g hbb
 go_wp2_with fail
 refine(CF.out _).mono ?_
 rintro e w2 ⟨rfl,hb2⟩
 have hx2:=HG.out.1.below hb2 HG.out.1.lt
 have hb02:=HG.out.2.trans (hb2.mono (by have:=HG.out.1.lt;omega))
 clear g0 g1 g2 g3 g4 g5 g6 g7 g8 g9 g10 g11 g12 g13
 have r0:=hx2.c1
 have hS2:=H.out.1.made (HQ.out▸hb02)
 obtain⟨A0,c0,hb,ho⟩:=hS2.blk
 have hr2:=H.out.2.1.below (hb02.mono hBq)
 have CC:=jH (clonebe_any A n c B l w2.drew hr2 (by have:=hx2.lt;show B≤w2.heap.size;omega) (by omega) hnil)
 have k0:w2.drew.cell? ⟨q,9,none⟩=some (X Y gn)∧w2.drew.cell? ⟨q,10,none⟩=some (G A n c):=⟨by have:=hx2.cell 9;simpa using this,by have:=hx2.cell 10;simpa using this⟩
 have hqs:q≠sp:=hx2.ne_ hb (by decide)
 have HE:=jH (aI hS2 (aI hb (aI hx2 hb02)))
 clear hS2 hb ho hx2 hb02 hb2 hr2
 go_wp2_with fail
 go_region_held3 (fun wS=>wS.cell? ⟨q,9,none⟩=some (X Y gn)∧wS.cell? ⟨q,10,none⟩=some (G A n c)) (first|with_reducible exact k0|with_reducible exact e0|with_reducible exact g0 _|with_reducible exact g1 _ _|fail)
  (first
   |(go_at_call 21;(with_reducible refine CC.out.mono ?_);rintro e w3 ⟨A1,c1,rfl,hown1,hb3⟩;have j1:=HE.out.2.2.1.drew.below hb3 HE.out.2.2.1.lt;have js:=HE.out.2.1.drew.below hb3 HE.out.2.1.lt;have e0:w3.cell? ⟨q,9,none⟩=some (X Y gn)∧w3.cell? ⟨q,10,none⟩=some (G A n c):=⟨by {have:=j1.cell 9;simpa using this},by {have:=j1.cell 10;simpa using this}⟩;have g0:∀v,(w3.setCell ⟨sp,0,none⟩ v).cell? ⟨q,9,none⟩=some (X Y gn)∧(w3.setCell ⟨sp,0,none⟩ v).cell? ⟨q,10,none⟩=some (G A n c):=fun v=>⟨by {have:=(j1.far (p:=⟨sp,0,none⟩) hqs v).cell 9;simpa using this},by {have:=(j1.far (p:=⟨sp,0,none⟩) hqs v).cell 10;simpa using this}⟩;have g1:∀v u,((w3.setCell ⟨sp,0,none⟩ v).setCell ⟨sp,1,none⟩ u).cell? ⟨q,9,none⟩=some (X Y gn)∧((w3.setCell ⟨sp,0,none⟩ v).setCell ⟨sp,1,none⟩ u).cell? ⟨q,10,none⟩=some (G A n c):=fun v u=>⟨by {have:=((j1.far (p:=⟨sp,0,none⟩) hqs v).far (p:=⟨sp,1,none⟩) hqs u).cell 9;simpa using this},by {have:=((j1.far (p:=⟨sp,0,none⟩) hqs v).far (p:=⟨sp,1,none⟩) hqs u).cell 10;simpa using this}⟩;have s0:w3.cell? ⟨sp,0,none⟩=some (X Y gen):=by {have:=js.cell 0;simpa using this};have z0:=js.frozen 0;have s1:∀v,(w3.setCell ⟨sp,0,none⟩ v).cell? ⟨sp,1,none⟩=some (G A0 bl.length c0):=fun v=>by {have:=(js.set_ 0 v).cell 1;simpa using this};have z1:∀v,(w3.setCell ⟨sp,0,none⟩ v).frozen? ⟨sp,1,none⟩=false:=fun v=>(js.set_ 0 v).frozen 1;have hl0:=js.lt;have hl1:∀v,sp < (w3.setCell ⟨sp,0,none⟩ v).heap.size:=fun v=>(js.set_ 0 v).lt))
 all_goals
  have m5:=(js.set_ 0 (X Y gn)).set_ 1 (G A1 n c1)
  have o5:=own_set_far (own_set_far hown1 js (by decide) 0 (X Y gn)) (js.set_ 0 (X Y gn)) (by decide) 1 (G A1 n c1)
  have hS2:=HE.out.1
  have f3:Fr [192] [] base w w3:=(Fr.of_below _ _ (HQ.out▸HE.out.2.2.2) H.out.1.hi).drew.made hb3 hS2.hi
  have f5:=(f3.set_ js (by decide) H.out.1.los 0 (X Y gn)).set_ (js.set_ 0 (X Y gn)) (by decide) H.out.1.los 1 (G A1 n c1)
  have o6:=ownsRow_mono o5 (show base≤w2.drew.heap.size from hS2.hi)
  rw[←hln] at m5 o6
  have S5:StAt ((w3.setCell ⟨sp,0,none⟩ (X Y gn)).setCell ⟨sp,1,none⟩ (G A1 n c1)) base sp sd sf gn l fm:=by
   rw[←hln] at f5⊢
   exact{los:=H.out.1.los,lod:=H.out.1.lod,lof:=H.out.1.lof,hi:=nT H.out.1.hi f5.size,ne:=H.out.1.ne,blk:=⟨A1,c1,m5,o6⟩,dr:=f5.mapIs H.out.1.dr (by simp),fm:=f5.mapIs H.out.1.fm (by simp)}
  have HF:=jH (aI S5 f5)
  clear S5 f5 m5 o5 o6 f3 g0 g1 s1 z1 hl1 hown1 hb3
  go_wp2_with fail
  go_ret
  exact⟨rfl,HF.out.1,HF.out.2⟩
theorem own_nilz {w:World}{base size n c:Nat}{e:TypeId}{A:Option Addr}{xs:List Value}(h:w.ownsRow base e size (G A n c) n xs)(hA:A=none):c=0:=by
 subst hA
 rcases h.2 with⟨h',_⟩|⟨g',cap',cur,h',_⟩
 ·injection h'
 ·injection h' with h1
  cases h1
theorem stcopy_ok (base sp sd sf gen:Nat)(bl:List Be)(fm:List (Tu×Fl))(w:World)(h:StAt w base sp sd sf gen bl fm)(hbl:bl.length≤1000):
  Calls Pg 211 #[PT (some ⟨sp,0,none⟩)] w fun e w'=>∃sp' sd' sf',e=rT (PT (some ⟨sp',0,none⟩))∧StAt w' w.heap.size sp' sd' sf' gen bl fm∧Below w.heap.size w w':=by
 obtain⟨A,c,hb,ho⟩:=h.blk
 have C1:=jH (clonebe_any A bl.length c w.drew.heap.size bl w.drew (Reads.of_own ho).drew (nR _) (by omega) (fun e=>own_nilz ho e))
 have c0:w.drew.cell? ⟨sp,0,none⟩=some (X Y gen)∧w.drew.cell? ⟨sp,1,none⟩=some (G A bl.length c)∧w.drew.cell? ⟨sp,2,none⟩=some (.map (some sd))∧w.drew.cell? ⟨sp,3,none⟩=some (.map (some sf)):=⟨by have:=hb.cell 0;simpa using this,by have:=hb.cell 1;simpa using this,by have:=hb.cell 2;simpa using this,by have:=hb.cell 3;simpa using this⟩
 have H:=jH (aI h hb)
 clear h hb ho
 go_enter func211,ntmps211
 go_wp2_with fail
 go_region_held3 (fun wS=>wS.cell? ⟨sp,0,none⟩=some (X Y gen)∧wS.cell? ⟨sp,1,none⟩=some (G A bl.length c)∧wS.cell? ⟨sp,2,none⟩=some (.map (some sd))∧wS.cell? ⟨sp,3,none⟩=some (.map (some sf))) (first|with_reducible exact c0|with_reducible exact e0|with_reducible exact g0|with_reducible exact h0|with_reducible exact h1 _|fail)
  (first
   |(go_at_call 21;(with_reducible refine C1.out.mono ?_);rintro e w1 ⟨A1,c1,rfl,hown1,hb1⟩;have k1:=H.out.2.drew.below hb1 H.out.2.lt;have e0:w1.cell? ⟨sp,0,none⟩=some (X Y gen)∧w1.cell? ⟨sp,1,none⟩=some (G A bl.length c)∧w1.cell? ⟨sp,2,none⟩=some (.map (some sd))∧w1.cell? ⟨sp,3,none⟩=some (.map (some sf)):=⟨by {have:=k1.cell 0;simpa using this},by {have:=k1.cell 1;simpa using this},by {have:=k1.cell 2;simpa using this},by {have:=k1.cell 3;simpa using this}⟩;have C2:=clonei_any w1 (H.out.1.dr.drew.below hb1 H.out.1.dr.lt))
   |(go_at_call 328;(with_reducible refine C2.mono ?_);rintro e w2 ⟨rfl,hm2,hb2,-⟩;have k2:=k1.below hb2 k1.lt;have g0:w2.cell? ⟨sp,0,none⟩=some (X Y gen)∧w2.cell? ⟨sp,1,none⟩=some (G A bl.length c)∧w2.cell? ⟨sp,2,none⟩=some (.map (some sd))∧w2.cell? ⟨sp,3,none⟩=some (.map (some sf)):=⟨by {have:=k2.cell 0;simpa using this},by {have:=k2.cell 1;simpa using this},by {have:=k2.cell 2;simpa using this},by {have:=k2.cell 3;simpa using this}⟩;have C3:=clonet_any w2 ((H.out.1.fm.drew.below hb1 H.out.1.fm.lt).below hb2 (Nat.lt_of_lt_of_le H.out.1.fm.lt hb1.size)))
   |(go_at_call 329;(with_reducible refine C3.mono ?_);rintro e w3 ⟨rfl,hm3,hb3,-⟩;have k3:=k2.below hb3 k2.lt;have h0:w3.cell? ⟨sp,0,none⟩=some (X Y gen)∧w3.cell? ⟨sp,1,none⟩=some (G A bl.length c)∧w3.cell? ⟨sp,2,none⟩=some (.map (some sd))∧w3.cell? ⟨sp,3,none⟩=some (.map (some sf)):=⟨by {have:=k3.cell 0;simpa using this},by {have:=k3.cell 1;simpa using this},by {have:=k3.cell 2;simpa using this},by {have:=k3.cell 3;simpa using this}⟩;have h1:∀o,(w3.alloc o).cell? ⟨sp,0,none⟩=some (X Y gen)∧(w3.alloc o).cell? ⟨sp,1,none⟩=some (G A bl.length c)∧(w3.alloc o).cell? ⟨sp,2,none⟩=some (.map (some sd))∧(w3.alloc o).cell? ⟨sp,3,none⟩=some (.map (some sf)):=fun o=>⟨by {have:=(k3.alloc o).cell 0;simpa using this},by {have:=(k3.alloc o).cell 1;simpa using this},by {have:=(k3.alloc o).cell 2;simpa using this},by {have:=(k3.alloc o).cell 3;simpa using this}⟩))
 all_goals
  have hs1:=hb1.size
  have hs2:=hb2.size
  have hs3:=hb3.size
  have hl2:=hm2.lt
  have hsw:w.heap.size=w.drew.heap.size:=rfl
  have hba:=(bR w3.heap.size w3).alloc (nR _) (cL #[X Y gen,G A1 bl.length c1,.map (some w1.heap.size),.map (some w2.heap.size)] 192)
  have hbf:Below w.heap.size w (w3.alloc (cL #[X Y gen,G A1 bl.length c1,.map (some w1.heap.size),.map (some w2.heap.size)] 192)):=((((bR w.heap.size w).drew.trans hb1).trans (hb2.mono (by omega))).trans (hb3.mono (by omega))).trans (hba.mono (by omega))
  have o5:=own_below (own_below (own_below hown1 hb2) hb3) hba
  have S5:StAt (w3.alloc (cL #[X Y gen,G A1 bl.length c1,.map (some w1.heap.size),.map (some w2.heap.size)] 192)) w.heap.size w3.heap.size w1.heap.size w2.heap.size gen bl fm:=
   {los:=by omega,lod:=by omega,lof:=by omega,hi:=by simp;omega,ne:=by omega,blk:=⟨A1,c1,Blk.new_ rfl,o5⟩,dr:=(hm2.below hb3 hm2.lt).alloc _,fm:=hm3.alloc _}
  have HF:=jH (aI S5 hbf)
  clear S5 hbf o5 hba hm2 hm3 hown1 hb1 hb2 hb3 h1
  go_wp2_with fail
  go_ret
  exact⟨_,_,_,rfl,HF.out.1,HF.out.2⟩
theorem rframe_put (base sp sd sf gen:Nat)(bl:List Be)(fm:List (Tu×Fl))(f:Fl)(hf:FlOk f)(hlen:fm.length < 256)(A:Option Addr)(n c B:Nat)(w:World)(hst:StAt w base sp sd sf gen bl fm)(hrd:Reads w B 1 A n (bv (putB f)))(hB:B≤w.heap.size)(hnil:A=none→c=0):
  Calls Pg 99 #[aG #[PT (some ⟨sp,0,none⟩)],aG #[X Y 1,X Y 3,G A n c]] w fun e w'=>e=rT (X Y 0)∧StAt w' base sp sd sf gen bl (mput fm f.k f)∧Fr [] [sf] base w w':=by
 have CA:=jH (fun W hW=>apply_put base sp sd sf gen bl fm f hf W hW hlen)
 have CD:=jH (fun W hW hBW=>rdec_put f hf A n c B W hW hBW hnil)
 generalize mput fm f.k f=FM at *
 obtain⟨⟨src,dst,pr,sp_,dp⟩,be,gn,seen⟩:=f
 dsimp only[recC] at CA CD
 have HST:=jH hst.hi
 obtain⟨q,hq⟩:∃q,q=w.heap.size:=⟨_,rfl⟩
 have hB0:Below w.heap.size w ((w.alloc (cL #[PT (some ⟨sp,0,none⟩)] 188)).alloc (cL #[X Y 1,X Y 3,G A n c] 284)):=((bR w.heap.size w).alloc (nR _) _).alloc (by simp) _
 have hsz:((w.alloc (cL #[PT (some ⟨sp,0,none⟩)] 188)).alloc (cL #[X Y 1,X Y 3,G A n c] 284)).heap.size=q + 2:=by rw[hq];simp
 have hr0:=hrd.below (hB0.mono hB)
 have hq1:Blk ((w.alloc (cL #[PT (some ⟨sp,0,none⟩)] 188)).alloc (cL #[X Y 1,X Y 3,G A n c] 284)) q 188 #[PT (some ⟨sp,0,none⟩)]:=(hq▸Blk.new w 188 #[PT (some ⟨sp,0,none⟩)]).alloc _
 have hq2:Blk ((w.alloc (cL #[PT (some ⟨sp,0,none⟩)] 188)).alloc (cL #[X Y 1,X Y 3,G A n c] 284)) (q + 1) 284 #[X Y 1,X Y 3,G A n c]:=by
  have:=Blk.new (w.alloc (cL #[PT (some ⟨sp,0,none⟩)] 188)) 284 #[X Y 1,X Y 3,G A n c]
  rw[show (w.alloc (cL #[PT (some ⟨sp,0,none⟩)] 188)).heap.size=q + 1 by rw[hq];simp] at this
  exact this
 obtain⟨x0,x1,x2⟩:=hq2.c3
 have H1:=jH (aI hB0 (aI hq1 (aI hsz (aI hr0 (hst.made hB0)))))
 clear hrd hr0 hB0 hq1 hq2 hsz hst
 go_enter func99,ntmps99
 go_wp2_with fail
 rw[←hq]
 have HE:=jH hq
 clear hq
 generalize ((w.alloc (cL #[PT (some ⟨sp,0,none⟩)] 188)).alloc (cL #[X Y 1,X Y 3,G A n c] 284))=w1 at *
 refine(CD.out w1 H1.out.2.2.2.1 (by have:=HE.out;have:=H1.out.2.2.1;omega)).mono ?_
 rintro e w4 ⟨rfl,hb4⟩
 obtain⟨q5,hq5⟩:∃q5,q5=w4.heap.size:=⟨_,rfl⟩
 have H3:(fun Vv:World=>Hid (Blk Vv q 188 #[PT (some ⟨sp,0,none⟩)]∧Blk Vv q5 119 #[X Y 1,X Z src,X Z dst,X Y pr,X Y sp_,X Y dp,X Y be,X Y gn,X Y seen,X Y 0,G none 0 0,X Y 0,X Y 0,X Y 0]∧StAt Vv base sp sd sf gen bl fm∧Below w.heap.size w Vv)) (w4.alloc (cL #[X Y 1,X Z src,X Z dst,X Y pr,X Y sp_,X Y dp,X Y be,X Y gn,X Y seen,X Y 0,G none 0 0,X Y 0,X Y 0,X Y 0] 119)):=by
  obtain⟨g1,g2,g3,g4,g5⟩:=H1.out
  have hs1:=g1.size
  have hs4:=hb4.size
  have e1:=(bR w4.heap.size w4).alloc (nR _) (cL #[X Y 1,X Z src,X Z dst,X Y pr,X Y sp_,X Y dp,X Y be,X Y gn,X Y seen,X Y 0,G none 0 0,X Y 0,X Y 0,X Y 0] 119)
  exact⟨(g2.below hb4 (by omega)).alloc _,hq5▸Blk.new w4 _ _,(g5.made hb4).made e1,(g1.trans (hb4.mono hs1)).trans (e1.mono (by omega))⟩
 clear hb4 H1 x0 x1 x2
 have g1:=H3.out.1
 have g5:=H3.out.2.1
 have d0:=g1.c1
 obtain⟨c_0,c_1,c_2,c_3,c_4,c_5,c_6,c_7,c_8,c_9,c_10,c_11,c_12,c_13⟩:=g5.c14
 clear g1 g5
 go_wp2_with fail
 rw[←hq5]
 clear hq5
 generalize (w4.alloc (cL #[X Y 1,X Z src,X Z dst,X Y pr,X Y sp_,X Y dp,X Y be,X Y gn,X Y seen,X Y 0,G none 0 0,X Y 0,X Y 0,X Y 0] 119))=w5 at *
 refine(CA.out w5 H3.out.2.2.1).mono ?_
 rintro e w6 ⟨rfl,hs6,hf6⟩
 have H6:Hid (StAt w6 base sp sd sf gen bl FM∧Fr [] [sf] base w w6):=⟨hs6,(Fr.of_below _ _ H3.out.2.2.2 HST.out).trans hf6⟩
 clear hs6 hf6 H3
 go_wp2_with fail
 go_ret
 exact⟨rfl,H6.out⟩
theorem rframe_gen (base sp sd sf gen:Nat)(bl:List Be)(fm:List (Tu×Fl))(gn:Nat)(l:List Be)(hg:gn≤1000000)(hbes:BesOk l)(hmay:MayBs l.length l)(A:Option Addr)(n c B:Nat)(w:World)(hst:StAt w base sp sd sf gen bl fm)(hrd:Reads w B 1 A n (bv (genB gn l)))(hB:B≤w.heap.size)(hnil:A=none→c=0):
  Calls Pg 99 #[aG #[PT (some ⟨sp,0,none⟩)],aG #[X Y 3,X Y 3,G A n c]] w fun e w'=>e=rT (X Y 0)∧StAt w' base sp sd sf gn l fm∧Fr [192] [] base w w':=by
 have hok:=beOk_of_may rfl hmay
 have CA:=jH (fun W A4 c4 (hr4:W.ownsRow w.heap.size 34 3 (G A4 l.length c4) l.length (bks l)) hW=>apply_gen base sp sd sf gen bl fm gn hg A4 l.length c4 W.heap.size l W (Reads.of_own hr4) (nR _) hbes hmay (own_capp hr4).1 (fun e=>own_nil0 hr4 e) hW)
 have CD:=jH (fun W hW hBW=>rdec_gen gn l hg hmay.1 hok (fun b hb=>(hbes b hb).2.1) A n c B W hW hBW hnil)
 dsimp only[recG] at CA CD
 have HST:=jH hst.hi
 obtain⟨q,hq⟩:∃q,q=w.heap.size:=⟨_,rfl⟩
 have hB0:Below w.heap.size w ((w.alloc (cL #[PT (some ⟨sp,0,none⟩)] 188)).alloc (cL #[X Y 3,X Y 3,G A n c] 284)):=((bR w.heap.size w).alloc (nR _) _).alloc (by simp) _
 have hsz:((w.alloc (cL #[PT (some ⟨sp,0,none⟩)] 188)).alloc (cL #[X Y 3,X Y 3,G A n c] 284)).heap.size=q + 2:=by rw[hq];simp
 have hr0:=hrd.below (hB0.mono hB)
 have hq1:Blk ((w.alloc (cL #[PT (some ⟨sp,0,none⟩)] 188)).alloc (cL #[X Y 3,X Y 3,G A n c] 284)) q 188 #[PT (some ⟨sp,0,none⟩)]:=(hq▸Blk.new w 188 #[PT (some ⟨sp,0,none⟩)]).alloc _
 have hq2:Blk ((w.alloc (cL #[PT (some ⟨sp,0,none⟩)] 188)).alloc (cL #[X Y 3,X Y 3,G A n c] 284)) (q + 1) 284 #[X Y 3,X Y 3,G A n c]:=by
  have:=Blk.new (w.alloc (cL #[PT (some ⟨sp,0,none⟩)] 188)) 284 #[X Y 3,X Y 3,G A n c]
  rw[show (w.alloc (cL #[PT (some ⟨sp,0,none⟩)] 188)).heap.size=q + 1 by rw[hq];simp] at this
  exact this
 obtain⟨x0,x1,x2⟩:=hq2.c3
 have H1:=jH (aI hB0 (aI hq1 (aI hsz (aI hr0 (hst.made hB0)))))
 clear hrd hr0 hB0 hq1 hq2 hsz hst
 go_enter func99,ntmps99
 go_wp2_with fail
 rw[←hq]
 have HE:=jH hq
 clear hq
 generalize ((w.alloc (cL #[PT (some ⟨sp,0,none⟩)] 188)).alloc (cL #[X Y 3,X Y 3,G A n c] 284))=w1 at *
 refine(CD.out w1 H1.out.2.2.2.1 (by have:=HE.out;have:=H1.out.2.2.1;omega)).mono ?_
 rintro e w4 ⟨A4,c4,rfl,hown,hb4⟩
 obtain⟨q5,hq5⟩:∃q5,q5=w4.heap.size:=⟨_,rfl⟩
 have H3:(fun Vv:World=>Hid (Blk Vv q 188 #[PT (some ⟨sp,0,none⟩)]∧Blk Vv q5 119 #[X Y 3,X Z 0,X Z 0,X Y 0,X Y 0,X Y 0,X Y 0,X Y 0,X Y 0,X Y gn,G A4 l.length c4,X Y 0,X Y 0,X Y 0]∧StAt Vv base sp sd sf gen bl fm∧Below w.heap.size w Vv∧Vv.ownsRow w.heap.size 34 3 (G A4 l.length c4) l.length (bks l))) (w4.alloc (cL #[X Y 3,X Z 0,X Z 0,X Y 0,X Y 0,X Y 0,X Y 0,X Y 0,X Y 0,X Y gn,G A4 l.length c4,X Y 0,X Y 0,X Y 0] 119)):=by
  obtain⟨g1,g2,g3,g4,g5⟩:=H1.out
  have hs1:=g1.size
  have hs4:=hb4.size
  have e1:=(bR w4.heap.size w4).alloc (nR _) (cL #[X Y 3,X Z 0,X Z 0,X Y 0,X Y 0,X Y 0,X Y 0,X Y 0,X Y 0,X Y gn,G A4 l.length c4,X Y 0,X Y 0,X Y 0] 119)
  exact⟨(g2.below hb4 (by omega)).alloc _,hq5▸Blk.new w4 _ _,(g5.made hb4).made e1,(g1.trans (hb4.mono hs1)).trans (e1.mono (by omega)),own_base (own_below hown e1) hs1⟩
 clear hb4 H1 x0 x1 x2 hown
 have g1:=H3.out.1
 have g5:=H3.out.2.1
 have d0:=g1.c1
 obtain⟨c_0,c_1,c_2,c_3,c_4,c_5,c_6,c_7,c_8,c_9,c_10,c_11,c_12,c_13⟩:=g5.c14
 clear g1 g5
 go_wp2_with fail
 rw[←hq5]
 clear hq5
 generalize (w4.alloc (cL #[X Y 3,X Z 0,X Z 0,X Y 0,X Y 0,X Y 0,X Y 0,X Y 0,X Y 0,X Y gn,G A4 l.length c4,X Y 0,X Y 0,X Y 0] 119))=w5 at *
 refine(CA.out w5 A4 c4 H3.out.2.2.2.2 H3.out.2.2.1).mono ?_
 rintro e w6 ⟨rfl,hs6,hf6⟩
 have H6:Hid (StAt w6 base sp sd sf gn l fm∧Fr [192] [] base w w6):=⟨hs6,(Fr.of_below _ _ H3.out.2.2.2.1 HST.out).trans hf6⟩
 clear hs6 hf6 H3
 go_wp2_with fail
 go_ret
 exact⟨rfl,H6.out⟩
end
section
open Go.RowKit
theorem infoMan:(Pg.info? 259).map (·.size)=some 3:=by kernel_rfl
theorem Reads.grown_ {w w':World}{B n m size s2 base:Nat}{e t:TypeId}{A:Option Addr}{v:Value}{xs ys:List Value}(h:Reads w B size A n xs)(hg:w.grownBy w' v.ownBlock)(ho:w.ownsRow base t s2 v m ys)(hB:B≤base)(hb:base≤w.heap.size):Reads w' B size A n xs:=
 h.below ((bR B w).grown hg (by omega) (fun k hk=>by have:=(ho.lt k hk).1;omega))
theorem mdec_ok (V nx:Nat)(l:List Nat)(A:Option Addr)(n c B:Nat)(w:World)(ho:MOk V nx l)(hr:Reads w B 1 A n (bv (manB V nx l)))(hB:B≤w.heap.size)(hnc:n≤c):
  Calls Pg 190 #[G A n c] w fun e w'=>∃A4 c4,e=rT (tU #[aG #[X Y V,X Y nx,G A4 l.length c4],X Y 0])∧w'.ownsRow w.heap.size 3 1 (G A4 l.length c4) l.length (nv l)∧Below w.heap.size w w':=by
 obtain⟨v1,v3,l1,l64,n1,n2,inc⟩:=id ho
 have hln:n=16 + (6 + l.length * 4):=by have:=hr.length;unfold manB at this;rw[frameB_length,manBody_length] at this;omega
 obtain⟨q,hq⟩:∃q,q=w.heap.size:=⟨_,rfl⟩
 have hB0:Below w.heap.size w (w.alloc (cL #[X Y 0,X Y 0,G none 0 0] 259)):=(bR w.heap.size w).alloc (nR _) _
 have hq1:Blk (w.alloc (cL #[X Y 0,X Y 0,G none 0 0] 259)) q 259 #[X Y 0,X Y 0,G none 0 0]:=hq▸Blk.new w _ _
 have hsz:(w.alloc (cL #[X Y 0,X Y 0,G none 0 0] 259)).heap.size=q + 1:=by rw[hq];simp
 have hr1:Reads (w.alloc (cL #[X Y 0,X Y 0,G none 0 0] 259)) B 1 A n (bv (frameB 100 V (manBody nx l)++[])):=by
  rw[List.append_nil]
  exact hr.below (hB0.mono hB)
 have CT:=jH (take_frame 100 V (manBody nx l) [] A n c B _ (by omega) (by omega) (by rw[manBody_length];omega) (by rw[manBody_length];omega) (manBody_all _ _) allB_nil hr1 (by rw[hsz];omega) hnc (by omega))
 rw[manBody_length] at CT
 have H1:=jH (aI hB0 (aI hq1 hsz))
 clear hr hr1 hB0 hq1 hsz
 obtain⟨mb,hmb⟩:∃mb,mb=6 + l.length * 4:=⟨_,rfl⟩
 rw[←hmb] at CT hln
 have HLN:=jH hln
 have HMB:=jH hmb
 have e1:decide ((16:Int) + (mb:Int) < (n:Int))=false:=decide_eq_false (by omega)
 have e2:decide ((V:Int) < 1)=false:=decide_eq_false (by omega)
 have e3:decide ((3:Int) < (V:Int))=false:=decide_eq_false (by omega)
 rw[Int.natCast_add] at CT
 clear hln hmb
 go_enter func190,ntmps190
 go_wp2_with fail
 refine CT.out.mono ?_
 rintro e w2 ⟨A2,c2,rfl,hown,hb2⟩
 rw[←hq]
 have HE:=jH hq
 clear hq CT
 generalize (w.alloc (cL #[X Y 0,X Y 0,G none 0 0] 259))=w1 at *
 obtain⟨q4,hq4⟩:∃q4,q4=w2.heap.size:=⟨_,rfl⟩
 have H2:(fun Vv:World=>Hid (Below q w Vv∧Blk Vv q 259 #[X Y 0,X Y 0,G none 0 0]∧Blk Vv q4 284 #[X Y 100,X Y V,G A2 mb c2]∧Vv.ownsRow w.heap.size 5 1 (G A2 mb c2) mb (bv (manBody nx l))∧q < q4)) (w2.alloc (cL #[X Y 100,X Y V,G A2 mb c2] 284)):=by
  obtain⟨g1,g2,g3⟩:=H1.out
  have:=HE.out
  have hs1:=g1.size
  have hs2:=hb2.size
  have f1:=(bR w2.heap.size w2).alloc (nR _) (cL #[X Y 100,X Y V,G A2 mb c2] 284)
  exact⟨HE.out▸(g1.trans (hb2.mono hs1)).trans (f1.mono (by omega)),(g2.below hb2 g2.lt).alloc _,hq4▸Blk.new w2 _ _,own_base (own_below hown f1) hs1,by omega⟩
 clear hown hb2 H1
 have x3:=H2.out.2.2.1
 obtain⟨c_0,c_1,c_2⟩:=x3.c3
 clear x3
 go_wp2_with fail
 rw[←hq4]
 clear hq4
 generalize (w2.alloc (cL #[X Y 100,X Y V,G A2 mb c2] 284))=w3 at *
 refine(newreader_any A2 mb c2 w3.heap.size (manBody nx l) w3 (Reads.of_own H2.out.2.2.2.1) (nR _) (by have:=HMB.out;omega) (fun e=>own_nil0 H2.out.2.2.2.1 e)).mono ?_
 rintro e w4 ⟨p,rfl,hp,hrb,hb4⟩
 have H4:Hid (Below q w w4∧Blk w4 q 259 #[X Y 0,X Y 0,G none 0 0]∧Blk w4 q4 284 #[X Y 100,X Y V,G A2 mb c2]∧RBuf w4 p (be nx 4++(be l.length 2++(segB l++[])))∧q < q4∧q4 < p∧q < w3.heap.size):=by
  obtain⟨g1,g2,g3,g4,g5⟩:=H2.out
  have hl3:=g3.lt
  have hl2:=g2.lt
  refine⟨g1.trans (hb4.mono (by omega)),g2.below hb4 hl2,g3.below hb4 hl3,?_,g5,by omega,hl2⟩
  unfold manBody at hrb
  simpa only[List.append_assoc,List.append_nil] using hrb
 clear hrb hb4 hp H2 c_0 c_1 c_2
 go_upto_region 9 with fail
 go_cut [8] from 9 (fun v8 wc=>∃q8,v8=PT (some ⟨q8,0,none⟩)∧Hid (Below q w wc∧Blk wc q 259 #[X Y 0,X Y 0,G none 0 0]∧Blk wc q8 259 #[X Y V,X Y nx,G none 0 0]∧RBuf wc p (be l.length 2++(segB l++[]))∧q < q8∧p < q8∧q < p))
 case first=>
  have hq9:q < w4.heap.size∧q4≠w4.heap.size∧p < w4.heap.size:=⟨H4.out.2.1.lt,Nat.ne_of_lt H4.out.2.2.1.lt,H4.out.2.2.2.1.lt⟩
  obtain⟨-,d0⟩:=H4.out.2.2.1.drew.c2
  obtain⟨-,e0⟩:=(H4.out.2.2.1.alloc (cL #[X Y 0,X Y 0,G none 0 0] 259)).drew.c2
  obtain⟨-,e1'⟩:=(H4.out.2.2.1.alloc (cL #[X Y 0,X Y 0,G none 0 0] 259)).c2
  have cvx:IntKind.i64.wrap (nx:Int)=(nx:Int):=IntWalk.i64_in _ (by omega)
  go_region_held3 (fun wS=>wS.cell? ⟨q4,1,none⟩=some (X Y V)) (first|with_reducible exact d0|with_reducible exact d1|with_reducible exact d2|with_reducible exact d3|with_reducible exact d4|with_reducible exact e0|with_reducible exact e1'|fail)
   (first
   |(go_at_call 305;(with_reducible refine(u32g p nx _ w4.drew (by omega) (by simp[be_length,segB_length];omega) (allB_be (allB_append (segB_all _) allB_nil)) (H4.out.2.2.2.1.below ((bR _ w4).drew))).mono ?_);rintro e w5 ⟨rfl,hr5⟩
     have b6:=H4.out.2.2.1.drew.grown hr5.2 (by have:=H4.out.2.2.2.2.2.1;simp;omega)
     have d1:=b6.cell 1
     have d2:=(b6.alloc (cL #[X Y 0,X Y 0,G none 0 0] 259)).cell 1
     have d3:=(b6.alloc (cL #[X Y V,X Y nx,G none 0 0] 259)).cell 1
     simp only[ga,gz,gN] at d1 d2 d3)
   |(go_at_call 305;(with_reducible refine(u32g p nx _ (w4.alloc (cL #[X Y 0,X Y 0,G none 0 0] 259)).drew (by omega) (by simp[be_length,segB_length];omega) (allB_be (allB_append (segB_all _) allB_nil)) (H4.out.2.2.2.1.below (((bR _ w4).alloc (nR _) _).drew))).mono ?_);rintro e w5 ⟨rfl,hr5⟩
     have b6:=(H4.out.2.2.1.alloc (cL #[X Y 0,X Y 0,G none 0 0] 259)).drew.grown hr5.2 (by have:=H4.out.2.2.2.2.2.1;simp;omega)
     have d1:=b6.cell 1
     have b8:=(Blk.new w4 259 #[X Y 0,X Y 0,G none 0 0]).drew.grown hr5.2 (by have:=hq9;simp;omega)
     have z0:=(b8).frozen 0
     have y0:=(b8).cell 0
     have nn_0:=(b8).set_ 0 (X Y V)
     have z1:=(nn_0).frozen 1
     have y1:=(nn_0).cell 1
     have nn_1:=(nn_0).set_ 1 (X Y nx)
     have z2:=(nn_1).frozen 2
     have y2:=(nn_1).cell 2
     have nn:=(nn_1).set_ 2 (G none 0 0)
     have mm0:=nn.cell 0
     have mm1:=nn.cell 1
     have mm2:=nn.cell 2
     simp only[ga,gz,gN,Array.setIfInBounds,List.set_toArray,List.set_cons_zero,List.set_cons_succ,List.size_toArray,List.length_cons,List.length_nil] at y0 y1 y2 mm0 mm1 mm2 nn
     clear nn_0 nn_1
     have d4:=((((b6.far (p:=⟨w4.heap.size,0,none⟩) hq9.2.1 (X Y V)).far (p:=⟨w4.heap.size,1,none⟩) hq9.2.1 (X Y nx)).far (p:=⟨w4.heap.size,2,none⟩) hq9.2.1 (G none 0 0))).cell 1
     simp only[ga,gz,gN] at d1 d4))
  ·obtain⟨q8,hq8⟩:∃q8,q8=w5.heap.size:=⟨_,rfl⟩
   have H5:(fun Vv:World=>Hid (Below q w Vv∧Blk Vv q 259 #[X Y 0,X Y 0,G none 0 0]∧Blk Vv q8 259 #[X Y V,X Y nx,G none 0 0]∧RBuf Vv p (be l.length 2++(segB l++[]))∧q < q8∧p < q8∧q < p)) (w5.alloc (cL #[X Y V,X Y nx,G none 0 0] 259)):=by
    obtain⟨g1,g2,g3,g4,g5,g6,g7⟩:=H4.out
    have g3':=g2.drew.grown hr5.2 (by simp;omega)
    have:=g3'.lt
    have:=hr5.1.lt
    have:=HE.out
    have hx:Below q w4 w5:=(bR q w4).drew.trans ((bR q w4.drew).grown hr5.2 (by show q≤w4.heap.size;omega) (fun k hk=>by injection hk with hk;omega))
    exact⟨(g1.trans hx).alloc (by omega) _,g3'.alloc _,hq8▸Blk.new w5 _ _,hr5.1.below ((bR _ _).alloc (nR _) _),by omega,by omega,by omega⟩
   clear d0 d1 d2 d3 e0 e1' b6 hr5 H4 hq9
   have HQ8:=jH hq8
   clear hq8
   go_wp2_with fail
   go_meet
   exact⟨q8,by rw[HQ8.out],H5⟩
  ·obtain⟨q8,hq8⟩:∃q8,q8=w4.heap.size:=⟨_,rfl⟩
   have H5:(fun Vv:World=>Hid (Below q w Vv∧Blk Vv q 259 #[X Y 0,X Y 0,G none 0 0]∧Blk Vv q8 259 #[X Y V,X Y nx,G none 0 0]∧RBuf Vv p (be l.length 2++(segB l++[]))∧q < q8∧p < q8∧q < p)) (((w5.setCell ⟨w4.heap.size,0,none⟩ (X Y V)).setCell ⟨w4.heap.size,1,none⟩ (X Y nx)).setCell ⟨w4.heap.size,2,none⟩ (G none 0 0)):=by
    obtain⟨g1,g2,g3,g4,g5,g6,g7⟩:=H4.out
    have g3':=(g2.alloc (cL #[X Y 0,X Y 0,G none 0 0] 259)).drew.grown hr5.2 (by simp;omega)
    have h9:=hq9.2.2
    have h7:q≠w4.heap.size:=Nat.ne_of_lt hq9.1
    have hqq:q≤w4.heap.size:=by omega
    have hx:Below q w4 w5:=(((bR q w4).alloc hqq _).drew).trans ((bR q (w4.alloc (cL #[X Y 0,X Y 0,G none 0 0] 259)).drew).grown hr5.2 (by show q≤(w4.alloc _).heap.size;rw[World.size_alloc];omega) (fun k hk=>by injection hk with hk;omega))
    refine⟨(((g1.trans hx).setCell (p:=⟨w4.heap.size,0,none⟩) hqq _).setCell (p:=⟨w4.heap.size,1,none⟩) hqq _).setCell (p:=⟨w4.heap.size,2,none⟩) hqq _,(((g3'.far (p:=⟨w4.heap.size,0,none⟩) h7 _).far (p:=⟨w4.heap.size,1,none⟩) h7 _).far (p:=⟨w4.heap.size,2,none⟩) h7 _),?_,(((hr5.1.far6 h9 _ _).far6 h9 _ _).far6 h9 _ _),by omega,by omega,by omega⟩
    rw[hq8]
    exact nn
   clear d0 d1 d4 e0 e1' b6 b8 nn hr5 H4 hq9 z0 y0 mm0 z1 y1 mm1 z2 y2 mm2
   have HQ8:=jH hq8
   clear hq8
   go_wp2_with fail
   go_meet
   exact⟨q8,by rw[HQ8.out],H5⟩
 case rest=>
  obtain⟨q8,rfl,H5⟩:=hcut
  clear H4
  have hmin:min ((l.length:Nat):Int) 65=((l.length:Nat):Int):=by omega
  have hle:decide (((l.length:Nat):Int) < 65)=true:=decide_eq_true (by omega)
  go_wp2_with fail
  refine(u16g p l.length _ wc (by omega) (by simp[segB_length];omega) (allB_append (segB_all _) allB_nil) H5.out.2.2.2.1).mono ?_
  rintro e w6 ⟨rfl,hr⟩
  have H6:Hid (Below q w w6∧Blk w6 q 259 #[X Y 0,X Y 0,G none 0 0]∧Blk w6 q8 259 #[X Y V,X Y nx,G none 0 0]∧RBuf w6 p (segB l++[])∧q < q8∧p < q8∧q < p):=by
   obtain⟨g1,g2,g3,g4,g5,g6,g7⟩:=H5.out
   have h9:=g4.lt
   exact⟨g1.grown hr.2 (by omega) (fun k hk=>by injection hk with hk;omega),g2.grown hr.2 (by simp;omega),g3.grown hr.2 (by simp;omega),hr.1,g5,g6,g7⟩
  clear hr H5
  go_wp2_with fail
  go_loopg [53] l.length (fun gk at_ wr=>∃(j:Nat) (A5:Option Addr) (c5:Nat),at_=X Y j∧Hid (j + gk=l.length)∧Hid (Below q w wr∧Blk wr q 259 #[X Y 0,X Y 0,G none 0 0]∧Blk wr q8 259 #[X Y V,X Y nx,G A5 j c5]∧RBuf wr p (segB (l.drop j)++[])∧wr.ownsRow (p + 1) 3 1 (G A5 j c5) j (nv (l.take j))))
  case atStart=>exact⟨0,none,0,rfl,(by show _=_;omega),H6.out.1,H6.out.2.1,H6.out.2.2.1,H6.out.2.2.2.1,World.ownsRow_nil _ _ _ _⟩
  case round=>
   have HQQ:=jH H6.out.2.2.2.2
   clear H6
   obtain⟨j,A5,c5,rfl,hgk,hrel⟩:=hrel
   by_cases hlt:j < l.length
   ·obtain⟨x,hxj⟩:∃x,l[j]? =some x:=⟨_,List.getElem?_eq_getElem hlt⟩
    have hdrop:l.drop j=x::l.drop (j + 1):=by
     rw[List.drop_eq_getElem_cons hlt,(List.getElem?_eq_some_iff.1 hxj).2]
    have htake:l.take (j + 1)=l.take j++[x]:=by rw[List.take_add_one,hxj];rfl
    have hx32:x < 1000000:=by
     have h1:=(inc j hlt).2
     have h2:=(List.getElem?_eq_some_iff.1 hxj).2
     omega
    have hrb:RBuf wr p (be x 4++(segB (l.drop (j + 1))++[])):=by
     have h1:=hrel.out.2.2.2.1
     rw[hdrop,show segB (x::l.drop (j + 1))=be x 4++segB (l.drop (j + 1)) from rfl,List.append_assoc] at h1
     exact h1
    have HT:=jH htake
    have cvx:IntKind.i64.wrap (x:Int)=(x:Int):=IntWalk.i64_in _ (by omega)
    have CU:=jH (u32g p x _ wr.drew (by omega) (by simp[segB_length];omega) (allB_append (segB_all _) allB_nil) (hrb.below (bR _ wr).drew))
    obtain⟨-,-,d0⟩:=hrel.out.2.2.1.drew.c3
    clear hdrop htake hrb hxj
    go_wp2_with fail
    go_region_law (first
     |(go_simp;go_at_call 305;(with_reducible refine CU.out.mono ?_);rintro e w5 ⟨rfl,hr5⟩;have b5:=hrel.out.2.2.1.drew.grown hr5.2 (by have:=HQQ.out;simp;omega);have d1:=b5.cell 2;have d2:=(b5.alloc (cL #[X Y x] 3)).cell 2;have o5:=hrel.out.2.2.2.2.drew.kept hr5.2 (.inr (by (obtain⟨B',A',c',k1,k2,k3⟩:=hrel.out.2.2.2.1);exact own_blk_ne hrel.out.2.2.2.2 k2 (by decide)));simp only[ga,gz,gN] at d1 d2)
     |(refine step_append_k rfl (.tmp 56) (.tmp 60) _ rfl 1 8 3 _ infoI rfl (by omega) (by omega) underlying51 (p + 1) (G A5 j c5) j (nv (l.take j)) (by simp[Act.eval,Act.put]) (own_below o5 ((bR _ _).alloc (nR _) _)) (w5.heap.size + 1) (some ⟨w5.heap.size,0,none⟩) 1 1 [X Y x] (by simp[Act.eval,Act.put]) (reads_news _ _ _ _ 1 1 _ _ (by rfl) rfl rfl _ rfl) (by intro u hu;simp at hu;subst hu;rfl) (j + 1) rfl (by omega) (by have h1:=hr5.1.lt;rw[World.size_alloc];omega) ?_;intro A7 c7 w7 hown7 hb7 hg7 _;have b7:=(b5.alloc (cL #[X Y x] 3)).grown hg7 (Ne.symm (own_blk_ne (own_below o5 ((bR _ _).alloc (nR _) _)) (b5.alloc (cL #[X Y x] 3)) (by decide)));have x7:=b7.cell 2;have z7:=b7.frozen 2))
    all_goals
     have H7:(fun Vv:World=>Hid (Below q w Vv∧Blk Vv q 259 #[X Y 0,X Y 0,G none 0 0]∧Blk Vv q8 259 #[X Y V,X Y nx,G A7 (j + 1) c7]∧RBuf Vv p (segB (l.drop (j + 1))++[])∧Vv.ownsRow (p + 1) 3 1 (G A7 (j + 1) c7) (j + 1) (nv (l.take (j + 1))))) (w7.setCell ⟨q8,2,none⟩ (G A7 (j + 1) c7)):=by
      obtain⟨g1,g2,g3,g4,g5⟩:=hrel.out
      obtain⟨f1,f2,f3⟩:=HQQ.out
      have hq:=HE.out
      have hs1:=g1.size
      have e6:=(bR w5.heap.size w5).alloc (nR _) (cL #[X Y x] 3)
      have hs5:=hr5.2.size
      have hsd:wr.drew.heap.size=wr.heap.size:=rfl
      have o6:=own_below o5 e6
      have a5:=g2.drew.grown hr5.2 (by simp;omega)
      have a7:=(a5.alloc (cL #[X Y x] 3)).grown hg7 (Ne.symm (own_blk_ne o6 (a5.alloc _) (by decide)))
      have r6:=hr5.1.below e6
      have r7:RBuf w7 p (segB (l.drop (j + 1))++[]):=by
       obtain⟨B',A',c',k1,k2,k3,k4⟩:=r6
       refine⟨B',A',c',k1,k2.grown hg7 (Ne.symm (own_blk_ne o6 k2 (by decide))),?_,k4⟩
       exact k3.grown_ (e:=3) hg7 o6 (by omega) (by have:=k2.lt;omega)
      exact⟨((((g1.trans (bR q wr).drew).trans ((bR q wr.drew).grown hr5.2 (by omega) (fun k hk=>by injection hk with hk;omega))).trans (e6.mono (by omega))).trans (hb7.mono (by omega))).setCell (p:=⟨q8,2,none⟩) (by show q≤q8;omega) _,a7.far (p:=⟨q8,2,none⟩) (by show q≠q8;omega) _,b7.set_ 2 _,r7.far6 f2 _ _,own_set_far (by rw[HT.out,show nv (l.take j++[x])=nv (l.take j)++[X Y x] by simp[nv]];exact hown7) b7 (by decide) 2 _⟩
     clear x7 z7 b7 hg7 hb7 hown7 o5 d1 d2 b5 hr5 d0 hrel CU cvx
     go_wp2_with fail
     go_roundg (gk - 1)
     case measure=>have h1:=hgk.out;omega
     case rel=>exact⟨j + 1,A7,c7,by go_num,(by show _=_;have:=hgk.out;omega),H7⟩
   ·have hj:j=l.length:=by have:=hgk.out;omega
    have H8:Hid (Below q w wr∧Blk wr q 259 #[X Y 0,X Y 0,G none 0 0]∧Blk wr q8 259 #[X Y V,X Y nx,G A5 l.length c5]∧RBuf wr p []∧wr.ownsRow (p + 1) 3 1 (G A5 l.length c5) l.length (nv l)):=by
     have h1:=hrel.out
     rw[hj,List.take_of_length_le (nR _),List.drop_length] at h1
     exact h1
    clear hrel
    have b8:=H8.out.2.2.1
    obtain⟨c_0,c_1,c_2⟩:=b8.c3
    clear b8
    have hd:decide ((j:Int) < (l.length:Int))=false:=decide_eq_false (by omega)
    clear hj
    go_wp2_with fail
    refine(rend_any p wr H8.out.2.2.2.1).mono ?_
    rintro e w' ⟨rfl,rfl⟩
    go_wp2_with fail
    refine(mmay_ok V nx l A5 l.length c5 wr.heap.size wr ho (Reads.of_own H8.out.2.2.2.2) (nR _)).mono ?_
    rintro e w9 ⟨rfl,hb9⟩
    have H9:Hid (Blk w9 q8 259 #[X Y V,X Y nx,G A5 l.length c5]∧Blk w9 q 259 #[X Y 0,X Y 0,G none 0 0]∧Below q w w9∧w9.ownsRow q 3 1 (G A5 l.length c5) l.length (nv l)):=by
     obtain⟨g1,g2,g3,g4,g5⟩:=H8.out
     have hl2:=g2.lt
     exact⟨g3.below hb9 g3.lt,g2.below hb9 hl2,g1.trans (hb9.mono (by omega)),own_base (own_below g5 hb9) (by have:=HQQ.out;omega)⟩
    clear hb9 H8 c_0 c_1 c_2
    go_upto_region 16 with fail
    apply wp_region_lit
    refine wpList_load_row rfl _ _ rfl q8 rfl 259 #[X Y V,X Y nx,G A5 l.length c5] (0,0) _ H9.out.1 underlying259 rfl infoMan ?_
    refine wpList_store_row rfl _ _ _ rfl q #[X Y V,X Y nx,G A5 l.length c5] rfl rfl 259 #[X Y 0,X Y 0,G none 0 0] H9.out.2.1 infoMan rfl (by simp[Value.oneCell']) ?_
    refine Go.Great.wpList_readTo rfl (some 3) rfl (X Y 0) rfl ?_
    apply wpList_nil
    have hres:=setRow_heap w9 q _ #[X Y V,X Y nx,G A5 l.length c5] _ _ H9.out.2.1
    have hlow:Below q w (w9.setRow q #[X Y V,X Y nx,G A5 l.length c5]):=below_setRow H9.out.2.2.1 (nR _) _
    simp only[Exit.inBlock,Exit.then]
    go_wp2_with fail
    refine bodyPost_ret (results_row_tmp rfl _ _ q 259 #[X Y V,X Y nx,G A5 l.length c5] (0,0) _ rfl hres underlying259 rfl infoMan) rfl ?_
    exact⟨A5,c5,rfl,HE.out▸own_setRow H9.out.2.2.2 H9.out.2.1 (by decide) _,HE.out▸hlow⟩
end
section
open Go.RowKit Go.Maps
theorem peek_ok (base d mn ms f V nx:Nat)(l:List Nat)(D:PDisk)(p:PFile)(w:World)(hD:DiskAt w base d mn ms D)(hm:mget D.now (⟨#[109]⟩:ByteArray)=some f)(hp:mget D.fs f=some p)(hpb:p.b=manB V nx l)(ho:MOk V nx l):
  Calls Pg 97 #[PT (some ⟨d,0,none⟩)] w fun e w'=>e=rT (tU #[X Y V,X Y 0])∧Below w.heap.size w w':=by
 have CR:=jH (read_disk base d mn ms D ⟨#[109]⟩ w hD (by show (⟨#[109]⟩:ByteArray).size≤4096;decide))
 have hr:readP D ⟨#[109]⟩=some (manB V nx l):=by unfold readP;rw[hm,Option.map_some,fileOf_some hp,hpb]
 rw[hr] at CR
 clear hD
 go_enter func97,ntmps97
 go_wp2_with fail
 refine CR.out.mono ?_
 rintro e w1 ⟨⟨A,c,rfl,hown,-,-⟩,hb⟩
 have HX:=jH (aI hown hb)
 clear hown hb CR
 go_wp2_with fail
 refine(mdec_ok V nx l A _ c w1.heap.size w1 ho (Reads.of_own HX.out.1) (nR _) (own_capp HX.out.1).1).mono ?_
 rintro e w2 ⟨A4,c4,rfl,hown2,hb2⟩
 obtain⟨q,hq⟩:∃q,q=w2.heap.size:=⟨_,rfl⟩
 have hk:Blk (w2.alloc (cL #[X Y V,X Y nx,G A4 l.length c4] 259)) q 259 #[X Y V,X Y nx,G A4 l.length c4]:=hq▸Blk.new w2 _ _
 have x0:=hk.c1
 have HY:Hid (Below w.heap.size w (w2.alloc (cL #[X Y V,X Y nx,G A4 l.length c4] 259))):=by
  have s1:=HX.out.2.size
  have s2:=hb2.size
  exact(HX.out.2.trans (hb2.mono s1)).alloc (by omega) _
 clear hk hown2 hb2 HX
 rw[hq] at x0
 clear hq
 go_wp2_with fail
 go_ret2
 exact⟨rfl,HY.out⟩
theorem number_m (w:World):Calls Pg 200 #[.string ⟨#[109]⟩] w fun e w'=>e=rT (tU #[X Y 0,bL false])∧w=w':=by
 go_enter func200,ntmps200
 go_wp2_with fail
 go_ret2
 exact⟨rfl,rfl⟩
theorem number_1 (w:World):Calls Pg 200 #[.string ⟨#[115,48,48,48,48,48,49]⟩] w fun e w'=>e=rT (tU #[X Y 1,bL true])∧w=w':=by
 go_enter func200,ntmps200
 go_wp2_with fail
 refine wp_loop_rounds 7 ?_
 rw[rounds_succ]
 go_wp2_with fail
 rw[rounds_succ]
 go_wp2_with fail
 rw[rounds_succ]
 go_wp2_with fail
 rw[rounds_succ]
 go_wp2_with fail
 rw[rounds_succ]
 go_wp2_with fail
 rw[rounds_succ]
 go_wp2_with fail
 rw[rounds_succ]
 go_wp2_with fail
 go_ret2
 exact⟨rfl,rfl⟩
theorem contains1 (A:Option Addr)(c B:Nat)(w:World)(hr:Reads w B 1 A 1 (nv [1])):Calls Pg 201 #[G A 1 c,X Y 1] w fun e w'=>e=rT (bL true)∧w=w':=by
 obtain⟨b,off,rfl,hb,hc⟩:=hr.plain (by omega) (by omega)
 have c0:=hc 0 (X Y 1) rfl
 rw[Nat.add_zero] at c0
 have CI:Hid (Calls Pg 313 #[G (some ⟨b,off,none⟩) 1 c,X Y 1] w fun e w'=>e=rT (X Y 0)∧w=w'):=by
  show Calls _ _ _ _ _
  clear hc hr
  go_enter func313,ntmps313
  go_wp2_with fail
  refine wp_loop_rounds 2 ?_
  rw[rounds_succ]
  go_wp2_with fail
  go_ret
  exact⟨rfl,rfl⟩
 clear hc c0 hr
 go_enter func201,ntmps201
 go_wp2_with fail
 refine CI.out.mono ?_
 rintro e w' ⟨rfl,rfl⟩
 go_wp2_with fail
 go_ret
 exact⟨rfl,rfl⟩
structure It where
 p:Nat
 key:ByteArray
 tm:Nat
def itC (x:It)(j:Nat):Array Value:=#[.string x.key,X Y x.tm,X Y j]
def ips (l:List It):List Value:=l.map fun x=>encP x.p
theorem ips_length (l:List It):(ips l).length=l.length:=by simp[ips]
theorem ips_get {l:List It}{j:Nat}{x:It}(h:l[j]? =some x):(ips l)[j]? =some (encP x.p):=by unfold ips;rw[List.getElem?_map,h];rfl
def lessIt (a b:It):Bool:=decide (a.tm < b.tm)||(decide (a.tm=b.tm)&&Op.bytesLess a.key.toList b.key.toList)
def lessAt (l:List It)(i j:Nat):Bool:=match l[i]?,l[j]? with
 |some a,some b=>lessIt a b
 |_,_=>false
def swapL (l:List It)(i j:Nat):List It:=match l[i]?,l[j]? with
 |some a,some b=>(l.set i b).set j a
 |_,_=>l
theorem lessAt_of {l:List It}{i j:Nat}{a b:It}(h1:l[i]? =some a)(h2:l[j]? =some b):lessAt l i j=lessIt a b:=by unfold lessAt;rw[h1,h2]
theorem swapL_of {l:List It}{i j:Nat}{a b:It}(h1:l[i]? =some a)(h2:l[j]? =some b):swapL l i j=(l.set i b).set j a:=by unfold swapL;rw[h1,h2]
theorem swapL_get {l:List It}{i j k:Nat}(h1:k≠i)(h2:k≠j):(swapL l i j)[k]? =l[k]?:=by
 unfold swapL
 split
 ·rw[List.getElem?_set_ne (Ne.symm h2),List.getElem?_set_ne (Ne.symm h1)]
 ·rfl
theorem set_set_perm {α:Type}:∀(l:List α) (i j:Nat) (a b:α),l[i]? =some a→l[j]? =some b→((l.set i b).set j a).Perm l:=by
 intro l i j a b h1 h2
 obtain⟨hi,rfl⟩:=List.getElem?_eq_some_iff.1 h1
 obtain⟨hj,rfl⟩:=List.getElem?_eq_some_iff.1 h2
 exact List.set_set_perm hi hj
theorem swapL_perm (l:List It)(i j:Nat):(swapL l i j).Perm l:=by
 unfold swapL
 split
 ·rename_i a b h1 h2
  exact set_set_perm l i j a b h1 h2
 ·exact List.Perm.refl _
inductive UpR:List It→Nat→List It→Prop
 |zero (l:List It):UpR l 0 l
 |stop (l:List It) (j:Nat):0 < j→lessAt l j ((j - 1) / 2)=false→UpR l j l
 |step (l:List It) (j:Nat) (l':List It):0 < j→lessAt l j ((j - 1) / 2)=true→UpR (swapL l ((j - 1) / 2) j) ((j - 1) / 2) l'→UpR l j l'
theorem UpR.perm {l l':List It}{j:Nat}(h:UpR l j l'):l'.Perm l:=by
 induction h with
 |zero l=>exact List.Perm.refl _
 |stop l j _ _=>exact List.Perm.refl _
 |step l j l' _ _ _ ih=>exact ih.trans (swapL_perm _ _ _)
theorem UpR.get {l l':List It}{j k:Nat}(h:UpR l j l')(hk:j < k):l'[k]? =l[k]?:=by
 induction h with
 |zero l=>rfl
 |stop l j _ _=>rfl
 |step l j l' _ _ _ ih=>rw[ih (by omega),swapL_get (by omega) (by omega)]
def kid (l:List It)(i n:Nat):Nat:=if 2 * i + 2 < n∧lessAt l (2 * i + 2) (2 * i + 1)=true then 2 * i + 2 else 2 * i + 1
theorem kid_lt {l:List It}{i n:Nat}(h:2 * i + 1 < n):kid l i n < n∧i < kid l i n:=by unfold kid;split<;>omega
inductive DownR (n:Nat):List It→Nat→List It→Nat→Prop
 |out (l:List It) (i:Nat):n≤2 * i + 1→DownR n l i l i
 |stop (l:List It) (i:Nat):2 * i + 1 < n→lessAt l (kid l i n) i=false→DownR n l i l i
 |step (l:List It) (i:Nat) (l':List It) (i':Nat):2 * i + 1 < n→lessAt l (kid l i n) i=true→DownR n (swapL l i (kid l i n)) (kid l i n) l' i'→DownR n l i l' i'
theorem DownR.perm {n:Nat}{l l':List It}{i i':Nat}(h:DownR n l i l' i'):l'.Perm l:=by
 induction h with
 |out l i _=>exact List.Perm.refl _
 |stop l i _ _=>exact List.Perm.refl _
 |step l i l' i' _ _ _ ih=>exact ih.trans (swapL_perm _ _ _)
theorem DownR.get {n:Nat}{l l':List It}{i i' k:Nat}(h:DownR n l i l' i')(hi:i < n)(hk:n≤k):l'[k]? =l[k]?:=by
 induction h with
 |out l i _=>rfl
 |stop l i _ _=>rfl
 |step l i l' i' h1 _ _ ih=>
  have:=kid_lt (l:=l) h1
  rw[ih this.1,swapL_get (by omega) (by omega)]
def FixR (n:Nat)(l:List It)(i:Nat)(l':List It):Prop:=∃l1 i1,DownR n l i l1 i1∧if i < i1 then l'=l1 else UpR l1 i l'
theorem FixR.perm {n:Nat}{l l':List It}{i:Nat}(h:FixR n l i l'):l'.Perm l:=by
 obtain⟨l1,i1,h1,h2⟩:=h
 split at h2
 ·rw[h2];exact h1.perm
 ·exact h2.perm.trans h1.perm
theorem FixR.get {n:Nat}{l l':List It}{i k:Nat}(h:FixR n l i l')(hi:i < n)(hk:n≤k):l'[k]? =l[k]?:=by
 obtain⟨l1,i1,h1,h2⟩:=h
 split at h2
 ·rw[h2];exact h1.get hi hk
 ·rw[h2.get (by omega)];exact h1.get hi hk
def RemR (l:List It)(i:Nat)(l':List It):Prop:=if l.length=i + 1 then l'=l else FixR (l.length - 1) (swapL l i (l.length - 1)) i l'
theorem RemR.perm {l l':List It}{i:Nat}(h:RemR l i l'):l'.Perm l:=by
 unfold RemR at h
 split at h
 ·rw[h]
 ·exact h.perm.trans (swapL_perm _ _ _)
theorem RemR.length {l l':List It}{i:Nat}(h:RemR l i l'):l'.length=l.length:=h.perm.length_eq
theorem RemR.last {l l':List It}{i:Nat}{x:It}(h:RemR l i l')(hx:l[i]? =some x):l'[l.length - 1]? =some x:=by
 obtain⟨hi,-⟩:=List.getElem?_eq_some_iff.1 hx
 unfold RemR at h
 split at h
 ·rename_i he
  rw[h,he];exact hx
 ·rename_i hne
  rw[h.get (by omega) (nR _)]
  have hl:l[l.length - 1]? =some (l[l.length - 1]'(by omega)):=List.getElem?_eq_getElem _
  rw[swapL_of hx hl,List.getElem?_set_self (by simp;omega)]
theorem take_perm {α:Type}:∀(l' l:List α) (x:α) (i:Nat),l'.Perm l→l[i]? =some x→l'[l.length - 1]? =some x→(l'.take (l.length - 1)).Perm (l.eraseIdx i):=by
 intro l' l x i hp hx hl
 have hlen:=hp.length_eq
 obtain⟨hi,hxi⟩:=List.getElem?_eq_some_iff.1 hx
 obtain⟨hj,hxj⟩:=List.getElem?_eq_some_iff.1 hl
 have e1:l'=l'.take (l.length - 1)++[x]:=by
  have:=List.take_append_drop (l.length - 1) l'
  rw[List.drop_eq_getElem_cons hj,hxj,List.drop_of_length_le (by omega)] at this
  exact this.symm
 have e2:=perm_erase l i hi
 rw[hxi] at e2
 have e3:(x::l'.take (l.length - 1)).Perm l':=by
  conv=>rhs;rw[e1]
  exact(List.perm_append_singleton _ _).symm
 exact(List.perm_cons x).1 (e3.trans (hp.trans e2))
structure HpAt (w:World)(base qp qm:Nat)(A:Option Addr)(n c:Nat)(l:List It):Prop where
 loq:base≤qp
 hi:base≤w.heap.size
 blk:Blk w qp 369 #[G A n c,.map (some qm)]
 row:w.ownsRow base 376 1 (G A n c) n (ips l)
 its:∀(j:Nat) (x:It),l[j]? =some x→base≤x.p∧x.tm≤1099511627776∧Blk w x.p 378 (itC x j)
theorem HpAt.len {w:World}{base qp qm:Nat}{A:Option Addr}{n c:Nat}{l:List It}(h:HpAt w base qp qm A n c l):l.length=n:=by have:=h.row.1;rw[ips_length] at this;omega
theorem HpAt.inj {w:World}{base qp qm:Nat}{A:Option Addr}{n c:Nat}{l:List It}(h:HpAt w base qp qm A n c l){i j:Nat}{a b:It}(h1:l[i]? =some a)(h2:l[j]? =some b)(hne:i≠j):a.p≠b.p:=by
 intro e
 have ha:=(h.its i a h1).2.2
 have hb:=(h.its j b h2).2.2
 unfold Blk at ha hb
 rw[e,hb] at ha
 injection ha with ha
 injection ha with ha
 injection ha with ha
 injection ha with _ ha
 injection ha with _ ha
 injection ha with ha
 injection ha with _ ha
 omega
end
section
open Go.Shelf
def sfl6_ren:Go.Shelf.Ren:=⟨fun|6=>137|15=>188|14=>247|28=>301|29=>302|20=>366|21=>367|22=>368|23=>369|24=>370|25=>371|26=>372|27=>373|46=>429|47=>400|48=>401|49=>430|50=>431|57=>447|n=>n,fun|22=>42|24=>47|25=>152|3=>3|39=>224|0=>0|53=>32|55=>53|4=>4|46=>386|45=>385|50=>49|5=>5|9=>9|66=>459|70=>463|76=>494|77=>371|n=>n,fun|n=>n⟩
theorem sfl6:Go.Proofs.SlLaysF0.n6 Pg sfl6_ren:={
 mixed:=by kernel_rfl
 f6:=⟨Tryz.f137.name,by decide,func137.trans (congrArg some (by kernel_rfl))⟩
 f14:=⟨Tryz.f247.name,by decide,func247.trans (congrArg some (by kernel_rfl))⟩
 f15:=func188.trans (congrArg some (by kernel_rfl))
 f20:=⟨Tryz.f366.name,by decide,func366.trans (congrArg some (by kernel_rfl))⟩
 f21:=⟨Tryz.f367.name,by decide,func367.trans (congrArg some (by kernel_rfl))⟩
 f22:=⟨Tryz.f368.name,by decide,func368.trans (congrArg some (by kernel_rfl))⟩
 f23:=⟨Tryz.f369.name,by decide,func369.trans (congrArg some (by kernel_rfl))⟩
 f24:=⟨Tryz.f370.name,by decide,func370.trans (congrArg some (by kernel_rfl))⟩
 f25:=⟨Tryz.f371.name,by decide,func371.trans (congrArg some (by kernel_rfl))⟩
 f26:=⟨Tryz.f372.name,by decide,func372.trans (congrArg some (by kernel_rfl))⟩
 f27:=⟨Tryz.f373.name,by decide,func373.trans (congrArg some (by kernel_rfl))⟩
 f28:=func301.trans (congrArg some (by kernel_rfl))
 f29:=func302.trans (congrArg some (by kernel_rfl))
 f46:=⟨Tryz.f429.name,by decide,func429.trans (congrArg some (by kernel_rfl))⟩
 f47:=func400.trans (congrArg some (by kernel_rfl))
 f48:=func401.trans (congrArg some (by kernel_rfl))
 f49:=⟨Tryz.f430.name,by decide,func430.trans (congrArg some (by kernel_rfl))⟩
 f50:=⟨Tryz.f431.name,by decide,func431.trans (congrArg some (by kernel_rfl))⟩
 f57:=⟨Tryz.f447.name,by decide,func447.trans (congrArg some (by kernel_rfl))⟩
 t0:=underlying0
 a0:=Tryz.isAgg0
 z0:=Tryz.sizeOf0
 v0:=Tryz.zeroValue0
 t3:=underlying3
 a3:=Tryz.isAgg3
 z3:=Tryz.sizeOf3
 v3:=Tryz.zeroValue3
 t4:=underlying4
 a4:=Tryz.isAgg4
 z4:=Tryz.sizeOf4
 v4:=Tryz.zeroValue4
 t5:=underlying5
 a5:=Tryz.isAgg5
 z5:=Tryz.sizeOf5
 v5:=Tryz.zeroValue5
 t9:=underlying9
 a9:=Tryz.isAgg9
 z9:=Tryz.sizeOf9
 v9:=Tryz.zeroValue9
 t22:=underlying42
 a22:=Tryz.isAgg42
 z22:=Tryz.sizeOf42
 v22:=Tryz.zeroValue42
 t25:=underlying152
 a25:=Tryz.isAgg152
 z25:=Tryz.sizeOf152
 v25:=Tryz.zeroValue152
 t39:=underlying224
 a39:=Tryz.isAgg224
 z39:=Tryz.sizeOf224
 v39:=Tryz.zeroValue224
 t45:=underlying385
 a45:=Tryz.isAgg385
 z45:=Tryz.sizeOf385
 v45:=Tryz.zeroValue385
 t46:=underlying386
 a46:=Tryz.isAgg386
 z46:=Tryz.sizeOf386
 v46:=Tryz.zeroValue386
 t50:=underlying49
 a50:=Tryz.isAgg49
 z50:=Tryz.sizeOf49
 v50:=Tryz.zeroValue49
 t53:=underlying32
 a53:=Tryz.isAgg32
 z53:=Tryz.sizeOf32
 v53:=Tryz.zeroValue32
 t55:=underlying53
 a55:=Tryz.isAgg53
 z55:=Tryz.sizeOf53
 v55:=Tryz.zeroValue53
 t66:=underlying459
 a66:=Tryz.isAgg459
 z66:=Tryz.sizeOf459
 v66:=Tryz.zeroValue459
 t70:=underlying463
 a70:=Tryz.isAgg463
 z70:=Tryz.sizeOf463
 v70:=Tryz.zeroValue463
 t76:=underlying494
 a76:=Tryz.isAgg494
 z76:=Tryz.sizeOf494
 v76:=Tryz.zeroValue494
 t77:=underlying371
 a77:=Tryz.isAgg371
 z77:=Tryz.sizeOf371
 v77:=Tryz.zeroValue371}
end
end Go.Proofs.YtgjnoccflmjheaaGreatDoor
