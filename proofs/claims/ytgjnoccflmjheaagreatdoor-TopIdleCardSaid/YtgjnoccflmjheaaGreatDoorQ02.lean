import Derived.StillTailTactics
import Derived.Sort.Grow
import Derived.Shelf.SlSortCmp.NoneTotal
import Derived.RangeFuncNested
import Derived.RangeFuncBound
import Derived.RangeFuncCalls
import Derived.RangeFuncLeaves
import Derived.Shelf.AbstractIn
import Derived.Shelf.RegionOpen
import Derived.OwnWalkIn
import Derived.TacticsInMore
import Derived.RegionIn
import Derived.LoopNIn
import Derived.LoopIn
import Derived.Sort.LoopGhostIn
import Derived.Shelf.SlIter.Sorted
import Derived.Shelf.SortM.Plain
import Derived.Shelf.SortM.SortNone
import Derived.Test.YtgjnoccflmjheaaGreatDoorQ01
namespace Go.Proofs.YtgjnoccflmjheaaGreatDoor
set_option linter.unusedVariables false
set_option linter.unusedSimpArgs false
set_option maxHeartbeats 8000000
set_option maxRecDepth 100000
open Value renaming int→X,slice→G,pointer→PT,bool→bL,agg→aG,tuple→tU
open Obj renaming cells→cL
open Ending renaming returned→rT
open Go.Proofs.Tryz
open Go.Proofs.Tryz renaming prog→Pg
open RowKit.Below renaming refl→bR
open IntKind renaming i64→Y,u32→Z
open List renaming getElem?_toArray→ga,getElem?_cons_zero→gz,getElem?_cons_succ→gN
open Lib renaming hid→jH
open Nat renaming le_refl→nR,le_trans→nT,le_succ→nS
open And renaming intro→aI
section
open Go.RowKit
def cmpZ (a b:Int):Int:=if a < b then -1 else if b < a then 1 else 0
def orZ:List Int→Int
 |[]=>0
 |x::r=>if x≠0 then x else orZ r
def lessT (a b:Tu):Bool:=decide (orZ [cmpZ a.src b.src,cmpZ a.dst b.dst,cmpZ a.proto b.proto,cmpZ a.sport b.sport,cmpZ a.dport b.dport] < 0)
theorem cmpu_any (a b:Nat)(w:World):Calls Pg 140 #[X Z a,X Z b] w fun e w'=>e=rT (X Y (cmpZ a b))∧w=w':=by
 rcases Nat.lt_trichotomy a b with h|h|h
 ·have HC:Hid (cmpZ a b=-1):=by show _=_;unfold cmpZ;rw[if_pos (by omega)]
  have d1:decide (a < b)=true:=decide_eq_true h
  clear h
  go_enter func140,ntmps140
  go_wp2
  go_ret
  exact⟨by rw[HC.out];rfl,rfl⟩
 ·subst h
  have HC:Hid (cmpZ a a=0):=by show _=_;unfold cmpZ;rw[if_neg (by omega),if_neg (by omega)]
  have d1:decide (a < a)=false:=decide_eq_false (by omega)
  go_enter func140,ntmps140
  go_wp2
  go_ret
  exact⟨by rw[HC.out];rfl,rfl⟩
 ·have HC:Hid (cmpZ a b=1):=by show _=_;unfold cmpZ;rw[if_neg (by omega),if_pos (by omega)]
  have d1:decide (a < b)=false:=decide_eq_false (by omega)
  have d2:decide (b < a)=true:=decide_eq_true h
  clear h
  go_enter func140,ntmps140
  go_wp2
  go_ret
  exact⟨by rw[HC.out];rfl,rfl⟩
theorem cmpi_any (a b:Int)(w:World):Calls Pg 141 #[X Y a,X Y b] w fun e w'=>e=rT (X Y (cmpZ a b))∧w=w':=by
 rcases Int.lt_trichotomy a b with h|h|h
 ·have HC:Hid (cmpZ a b=-1):=by show _=_;unfold cmpZ;rw[if_pos (by omega)]
  have d1:decide (a < b)=true:=decide_eq_true h
  clear h
  go_enter func141,ntmps141
  go_wp2
  go_ret
  exact⟨by rw[HC.out];rfl,rfl⟩
 ·subst h
  have HC:Hid (cmpZ a a=0):=by show _=_;unfold cmpZ;rw[if_neg (by omega),if_neg (by omega)]
  have d1:decide (a < a)=false:=decide_eq_false (by omega)
  go_enter func141,ntmps141
  go_wp2
  go_ret
  exact⟨by rw[HC.out];rfl,rfl⟩
 ·have HC:Hid (cmpZ a b=1):=by show _=_;unfold cmpZ;rw[if_neg (by omega),if_pos (by omega)]
  have d1:decide (a < b)=false:=decide_eq_false (by omega)
  have d2:decide (b < a)=true:=decide_eq_true h
  clear h
  go_enter func141,ntmps141
  go_wp2
  go_ret
  exact⟨by rw[HC.out];rfl,rfl⟩
theorem cmpu_s (a b:Nat)(w:World):Calls Pg 140 #[X Z a,X Z b] w fun e w'=>e=rT (X Y (cmpZ a b))∧w'=w:=(cmpu_any a b w).mono fun _ _ ⟨h,k⟩=>⟨h,k.symm⟩
theorem cmpi_s (a b:Int)(w:World):Calls Pg 141 #[X Y a,X Y b] w fun e w'=>e=rT (X Y (cmpZ a b))∧w'=w:=(cmpi_any a b w).mono fun _ _ ⟨h,k⟩=>⟨h,k.symm⟩
theorem orZ_drop (l:List Int):∀(k:Nat),(∀j x,j < k→l[j]? =some x→x=0)→orZ l=orZ (l.drop k):=by
 induction l with
 |nil=>intro k _;simp
 |cons x r ih=>
  intro k h
  cases k with
  |zero=>rfl
  |succ k=>
   have h0:x=0:=h 0 x (by omega) rfl
   show (if x≠0 then x else orZ r)=orZ (r.drop k)
   rw[if_neg (by simpa using h0)]
   exact ih k (fun j y hj hy=>h (j + 1) y (by omega) (by simpa using hy))
theorem cmpor_any (b off n c:Nat)(l:List Int)(w:World)(hl:l.length=n)(hn:n≤1000)(hc:∀j x,l[j]? =some x→w.cell? ⟨b,off + j,none⟩=some (X Y x)):
  Calls Pg 139 #[G (some ⟨b,off,none⟩) n c] w fun e w'=>e=rT (X Y (orZ l))∧w=w':=by
 have HL:=jH (aI hl (aI hn hc))
 clear hl hc
 go_enter func139,ntmps139
 go_wp2
 go_loopw [8] (fun i wr=>∃k:Nat,k≤n∧i=X Y k∧Hid (∀j x,j < k→l[j]? =some x→x=0)∧wr=w) (fun i _=>n - (intOf i).toNat)
 case atStart=>exact⟨0,by omega,rfl,(fun j x hj=>absurd hj (by omega)),rfl⟩
 case round=>
  obtain⟨k,hk,rfl,hz,rfl⟩:=hrel
  by_cases hlt:k < n
  ·obtain⟨x,hx⟩:∃x,l[k]? =some x:=⟨l[k]'(by rw[HL.out.1];exact hlt),List.getElem?_eq_getElem _⟩
   have g0:=HL.out.2.2 k x hx
   have HX:=jH hx
   clear hx
   by_cases hx0:x=0
   ·subst hx0
    go_wp2
    go_roundw
    case rel=>exact⟨k + 1,by omega,by go_num,(fun j y hj hy=>by
     by_cases hjk:j < k
     ·exact hz.out j y hjk hy
     ·have:j=k:=by omega
      subst this
      rw[HX.out] at hy
      injection hy with hy
      exact hy.symm),trivial⟩
    case measure=>simp[intOf];omega
   ·have d1:(x==0)=false:=by rw[beq_eq_false_iff_ne];exact hx0
    have d2:(x !=0)=true:=by rw[bne_iff_ne];exact hx0
    have HO:Hid (orZ l=x):=by
     show _=_
     rw[orZ_drop l k hz.out]
     obtain⟨h1,h2⟩:=List.getElem?_eq_some_iff.1 HX.out
     rw[List.drop_eq_getElem_cons h1,h2]
     show (if x≠0 then x else _)=x
     rw[if_pos hx0]
    clear hx0
    go_wp2
    go_ret
    exact⟨by rw[HO.out];rfl,rfl⟩
  ·have HO:Hid (orZ l=0):=by
    show _=_
    rw[orZ_drop l k hz.out,List.drop_of_length_le (by have:=HL.out.1;omega)]
    rfl
   go_wp2
   go_ret
   exact⟨by rw[HO.out];rfl,rfl⟩
theorem below_grow {w w':World}(h:Below w.heap.size w w')(hd:w.drawn≤w'.drawn):∃q os,w'=Go.Sort.grow (w.drewN q) os:=by
 refine⟨w'.drawn - w.drawn,w'.heap.extract w.heap.size w'.heap.size,?_⟩
 have hh:w'.heap=w.heap++w'.heap.extract w.heap.size w'.heap.size:=by
  apply Array.ext_getElem?
  intro i
  rw[Array.getElem?_append]
  split
  ·rename_i hi
   exact h.block i hi
  ·rename_i hi
   rw[Array.getElem?_extract]
   have:=h.size
   split
   ·congr 1;omega
   ·rw[Array.getElem?_eq_none (by omega)]
 obtain⟨h1,h2,h3,h4,h5⟩:=w'
 have:=h.os
 have:=h.tape
 have:=h.output
 unfold Go.Sort.grow World.drewN
 dsimp only at *
 rw[World.mk.injEq]
 refine⟨hh,‹_›,by omega,‹_›,‹_›⟩
theorem tless_any (a b:Tu)(w:World):Calls Pg 60 #[.agg a.vals,.agg b.vals] w fun e w'=>e=rT (bL (lessT a b))∧Below w.heap.size w w'∧w.drawn≤w'.drawn:=by
 have hb2:=((bR w.heap.size w).alloc (nR _) (.cells a.vals 39)).alloc (by simp) (.cells b.vals 39)
 have hx:=(Blk.new w 39 a.vals).alloc (.cells b.vals 39)
 have hy:Blk ((w.alloc (.cells a.vals 39)).alloc (.cells b.vals 39)) (w.heap.size + 1) 39 b.vals:=Blk.new_ (by simp)
 have hd2:w.drawn≤((w.alloc (.cells a.vals 39)).alloc (.cells b.vals 39)).drawn:=nR _
 have HL:Hid (lessT a b=decide (orZ [cmpZ a.src b.src,cmpZ a.dst b.dst,cmpZ a.proto b.proto,cmpZ a.sport b.sport,cmpZ a.dport b.dport] < 0)):=rfl
 obtain⟨s1,d1,p1,sp1,dp1⟩:=a
 obtain⟨s2,d2,p2,sp2,dp2⟩:=b
 unfold Tu.vals at *
 dsimp only at *
 have hs:((w.alloc (cL #[X Z s1,X Z d1,X Y p1,X Y sp1,X Y dp1] 39)).alloc (cL #[X Z s2,X Z d2,X Y p2,X Y sp2,X Y dp2] 39)).heap.size=w.heap.size + 2:=by simp
 go_enter func60,ntmps60
 go_wp2_with fail
 generalize (w.alloc (cL #[X Z s1,X Z d1,X Y p1,X Y sp1,X Y dp1] 39)).alloc (cL #[X Z s2,X Z d2,X Y p2,X Y sp2,X Y dp2] 39)=w2 at *
 refine wp_region_still_tail 25 (by kernel_rfl) (by kernel_rfl) ?_
 change wpStill _ _ (World.drew w2) (fun a'=>wpList _ _ _ _ a' (World.drew w2)) _ _
 have hx3:=hx.drew
 have hy3:=hy.drew
 have hb3:Below w.heap.size w w2.drew:=hb2.drew
 have hd3:w.drawn≤w2.drew.drawn:=nT hd2 (nS _)
 have hs3:w2.drew.heap.size=w.heap.size + 2:=hs
 generalize World.drew w2=w3 at *
 obtain⟨x0,x1,x2,x3,x4⟩:=hx3.c5
 obtain⟨y0,y1,y2,y3,y4⟩:=hy3.c5
 simp only[List.take_succ_cons,List.take_zero,List.drop_succ_cons,List.drop_zero]
 have HB:=jH (aI hb3 (aI hd3 hs3))
 clear hb2 hx hy hd2 hs hx3 hy3 hb3 hd3 hs3
 still_step
 still_step
 still_step
 still_step
 still_call (cmpu_s s1 s2 w3)
 still_step
 still_step
 still_step
 still_step
 still_call (cmpu_s d1 d2 w3)
 still_step
 still_step
 still_step
 still_step
 still_call (cmpi_s p1 p2 w3)
 still_step
 still_step
 still_step
 still_step
 still_call (cmpi_s sp1 sp2 w3)
 still_step
 still_step
 still_step
 still_step
 still_call (cmpi_s dp1 dp2 w3)
 refine wpStill_nil ?_
 clear x0 x1 x2 x3 x4 y0 y1 y2 y3 y4
 obtain⟨c1,h1⟩:∃c,c=cmpZ s1 s2:=⟨_,rfl⟩
 obtain⟨c2,h2⟩:∃c,c=cmpZ d1 d2:=⟨_,rfl⟩
 obtain⟨c3,h3⟩:∃c,c=cmpZ p1 p2:=⟨_,rfl⟩
 obtain⟨c4,h4⟩:∃c,c=cmpZ sp1 sp2:=⟨_,rfl⟩
 obtain⟨c5,h5⟩:∃c,c=cmpZ dp1 dp2:=⟨_,rfl⟩
 have HL2:Hid (lessT ⟨s1,d1,p1,sp1,dp1⟩ ⟨s2,d2,p2,sp2,dp2⟩=decide (orZ [c1,c2,c3,c4,c5] < 0)):=by rw[h1,h2,h3,h4,h5];exact HL.out
 rw[←h1,←h2,←h3,←h4,←h5]
 clear h1 h2 h3 h4 h5 HL
 have hx5:=Blk.new w3 3 #[X Y c1,X Y c2,X Y c3,X Y c4,X Y c5]
 have CO:=jH (cmpor_any w3.heap.size 0 5 5 [c1,c2,c3,c4,c5] (w3.alloc (cL #[X Y c1,X Y c2,X Y c3,X Y c4,X Y c5] 3)) rfl (by omega) (fun j x hj=>by
  rw[Nat.zero_add,hx5.cell j]
  match j,hj with
  |0,hj=>injection hj with hj;subst hj;rfl
  |1,hj=>injection hj with hj;subst hj;rfl
  |2,hj=>injection hj with hj;subst hj;rfl
  |3,hj=>injection hj with hj;subst hj;rfl
  |4,hj=>injection hj with hj;subst hj;rfl))
 have HB5:(fun Vv:World=>Hid (Below w.heap.size w Vv∧w.drawn≤Vv.drawn)) (w3.alloc (cL #[X Y c1,X Y c2,X Y c3,X Y c4,X Y c5] 3)):=⟨HB.out.1.alloc (by have:=HB.out.2.2;omega) _,HB.out.2.1⟩
 clear hx5
 generalize orZ [c1,c2,c3,c4,c5]=oz at *
 go_wp2_with fail
 refine CO.out.mono ?_
 rintro e w5 ⟨rfl,rfl⟩
 go_wp2_with fail
 go_ret
 exact⟨by rw[HL2.out];rfl,HB5.out.1,HB5.out.2⟩
end
section
open Go.RowKit Go.Maps
structure Q0 (w:World)(base qp qm:Nat):Prop where
 loq:base≤qp
 lom:base≤qm
 blk:Blk w qp 369 #[G none 0 0,.map (some qm)]
 mp:MapIs w Value.string okS encP qm ([]:List (ByteArray×Nat))
theorem Q0.fr {w w':World}{base base' qp qm:Nat}{K:List TypeId}{M:List Nat}(h:Q0 w base qp qm)(hf:Fr K M base' w w')(h1:369∉K)(h2:qm∉M):Q0 w' base qp qm:=⟨h.loq,h.lom,hf.blk _ _ _ h.blk h1,hf.mapIs h.mp h2⟩
theorem Q0.made {w w':World}{base qp qm:Nat}(h:Q0 w base qp qm)(hb:Below w.heap.size w w'):Q0 w' base qp qm:=⟨h.loq,h.lom,h.blk.below hb h.blk.lt,h.mp.below hb h.mp.lt⟩
theorem dunew_ok (w:World):Calls Pg 177 #[] w fun e w'=>e=rT (PT (some ⟨w.heap.size + 1,0,none⟩))∧Q0 w' w.heap.size (w.heap.size + 1) w.heap.size∧Below w.heap.size w w'∧w'.heap.size=w.heap.size + 2:=by
 have hmk:∀W:World,(Instr.makeMap 365 none).run Pg W=.ok (.map (some W.heap.size)) (W.alloc (.map #[] 0)):=fun _=>rfl
 go_enter func177,ntmps177
 go_wp2_with fail
 go_ret
 have m1:MapIs (w.alloc (.map #[] 0)) Value.string okS encP w.heap.size []:=MapIs.made w
 refine⟨rfl,⟨by omega,by omega,Blk.new_ (by simp),m1.alloc _⟩,((bR w.heap.size w).alloc (nR _) (.map #[] 0)).alloc (by simp) _,by simp⟩
theorem dufind0 (base qp qm:Nat)(k:ByteArray)(hk:okS k)(w:World)(h:Q0 w base qp qm):Calls Pg 338 #[PT (some ⟨qp,0,none⟩),.string k] w fun e w'=>e=rT (PT none)∧w=w':=by
 have hlk:=h.mp.lookup (P:=Pg) encS (t:=365) underlying365 (z:=PT none) (by kernel_rfl) k hk false
 rw[show mget ([]:List (ByteArray×Nat)) k=none from rfl] at hlk
 simp only[Bool.false_eq_true,if_false] at hlk
 obtain⟨-,c1⟩:=h.blk.c2
 clear h
 go_enter func338,ntmps338
 go_wp2_with fail
 go_ret
 exact⟨rfl,rfl⟩
theorem duat0 (base qp qm:Nat)(k:ByteArray)(hk:okS k)(w:World)(h:Q0 w base qp qm):Calls Pg 398 #[PT (some ⟨qp,0,none⟩),.string k] w fun e w'=>e=rT (tU #[X Y 0,bL false])∧w=w':=by
 have CF:=jH (dufind0 base qp qm k hk w h)
 clear h
 go_enter func398,ntmps398
 go_wp2_with fail
 refine CF.out.mono ?_
 rintro e w1 ⟨rfl,rfl⟩
 go_wp2_with fail
 go_ret2
 exact⟨rfl,rfl⟩
theorem dulen0 (base qp qm:Nat)(w:World)(h:Q0 w base qp qm):Calls Pg 336 #[PT (some ⟨qp,0,none⟩)] w fun e w'=>e=rT (X Y 0)∧w=w':=by
 have c0:=h.blk.c1
 clear h
 go_enter func336,ntmps336
 go_wp2_with fail
 go_ret
 exact⟨rfl,rfl⟩
structure Dr0 (w:World)(base dp dm qp qm:Nat):Prop where
 lod:base≤dp
 lom:base≤dm
 ne:dm≠qm
 blk:Blk w dp 140 #[PT (some ⟨qp,0,none⟩),.map (some dm)]
 q:Q0 w base qp qm
 mp:MapIs w intV anyI intV dm ([]:List (Int×Int))
theorem Dr0.fr {w w':World}{base base' dp dm qp qm:Nat}{K:List TypeId}{M:List Nat}(h:Dr0 w base dp dm qp qm)(hf:Fr K M base' w w')(h1:369∉K)(h2:140∉K)(h3:qm∉M)(h4:dm∉M):Dr0 w' base dp dm qp qm:=⟨h.lod,h.lom,h.ne,hf.blk _ _ _ h.blk h2,h.q.fr hf h1 h3,hf.mapIs h.mp h4⟩
theorem Dr0.made {w w':World}{base dp dm qp qm:Nat}(h:Dr0 w base dp dm qp qm)(hb:Below w.heap.size w w'):Dr0 w' base dp dm qp qm:=⟨h.lod,h.lom,h.ne,h.blk.below hb h.blk.lt,h.q.made hb,h.mp.below hb h.mp.lt⟩
theorem drnew_ok (w:World):Calls Pg 89 #[] w fun e w'=>∃dp dm qp qm,e=rT (PT (some ⟨dp,0,none⟩))∧Dr0 w' w.heap.size dp dm qp qm∧Below w.heap.size w w':=by
 have CD:=jH (dunew_ok w)
 have hmk:∀W:World,(Instr.makeMap 137 none).run Pg W=.ok (.map (some W.heap.size)) (W.alloc (.map #[] 0)):=fun _=>rfl
 go_enter func89,ntmps89
 go_wp2_with fail
 refine CD.out.mono ?_
 rintro e w1 ⟨rfl,hq,hb,hz⟩
 have HZ:=jH hz
 clear hz
 go_wp2_with fail
 go_ret
 have m1:MapIs (w1.alloc (.map #[] 0)) intV anyI intV w1.heap.size []:=MapIs.made w1
 have hz:=HZ.out
 have hb2:=((bR w1.heap.size w1).alloc (nR _) (.map #[] 0)).alloc (by simp) (cL #[PT (some ⟨w.heap.size + 1,0,none⟩),.map (some w1.heap.size)] 140)
 exact⟨w1.heap.size + 1,w1.heap.size,w.heap.size + 1,w.heap.size,rfl,⟨by omega,by omega,by omega,Blk.new_ (by simp),hq.made hb2,m1.alloc _⟩,hb.trans (hb2.mono (by omega))⟩
def dkey (n:Nat):ByteArray:=strB [n / 256 % 256,n % 256]
theorem dkey_ok (n:Nat):okS (dkey n):=by
 unfold okS
 have:(dkey n).size=2:=by simp[dkey,strB,ByteArray.size]
 omega
theorem drkey_any (n:Nat)(hn:n≤65535)(w:World):Calls Pg 181 #[X Y n] w fun e w'=>e=rT (.string (dkey n))∧Below w.heap.size w w':=by
 have hsh:Op.shift BinOp.shr .i64 (n:Int) .u64 8=pure (X Y (n / 256:Nat)):=by
  rw[shift_shr_any _ _ _ _ (by omega)]
  have e:min (8:Int).toNat IntKind.i64.bits=8:=by decide
  rw[e]
  rfl
 have e1:IntKind.u8.wrap ((n / 256:Nat):Int)=((n / 256 % 256:Nat):Int):=by rw[IntKind.wrap_u8'];omega
 have e2:IntKind.u8.wrap (n:Int)=((n % 256:Nat):Int):=by rw[IntKind.wrap_u8'];omega
 have hb:=(bR w.heap.size w).alloc (nR _) (cL #[X .u8 (n / 256 % 256:Nat),X .u8 (n % 256:Nat)] 5)
 have hcv:=run_string_back (P:=Pg) (c:=2) 23 9 5 underlying23 underlying5 underlying9
  (reads_new w 5 (0,0) #[X .u8 (n / 256 % 256:Nat),X .u8 (n % 256:Nat)] 2 (w.heap.size + 1) w.heap.size rfl rfl rfl (bv [n / 256 % 256,n % 256]) rfl) (by
   intro x hx
   simp at hx
   omega)
 rw[show strB [n / 256 % 256,n % 256]=dkey n from rfl] at hcv
 obtain⟨a,ha⟩:∃a,n / 256=a:=⟨_,rfl⟩
 rw[ha] at hsh e1 hb hcv
 clear ha
 generalize a % 256=x at *
 generalize n % 256=y at *
 go_enter func181,ntmps181
 go_wp2_with fail
 go_ret
 exact⟨rfl,hb⟩
theorem drmay_any (z:Int)(w:World):Calls Pg 179 #[X Y z] w fun e w'=>e=rT (bL (recinZ z 65535))∧w=w':=by
 by_cases h0:0≤z
 ·have d1:decide ((0:Int)≤z)=true:=decide_eq_true h0
  have HR:Hid (recinZ z 65535=decide (z≤65535)):=by show _=_;unfold recinZ;simp[h0]
  go_enter func179,ntmps179
  go_wp2_with fail
  go_ret
  exact⟨by rw[HR.out];rfl,rfl⟩
 ·have d1:decide ((0:Int)≤z)=false:=decide_eq_false h0
  have HR:Hid (recinZ z 65535=false):=by show _=_;unfold recinZ;simp[h0]
  go_enter func179,ntmps179
  go_wp2_with fail
  go_ret
  exact⟨by rw[HR.out];rfl,rfl⟩
theorem druntil0 (base dp dm qp qm:Nat)(z:Int)(w:World)(h:Dr0 w base dp dm qp qm):Calls Pg 291 #[PT (some ⟨dp,0,none⟩),X Y z] w fun e w'=>e=rT (tU #[X Y 0,bL false])∧Below w.heap.size w w':=by
 have CM:=jH (drmay_any z)
 by_cases hz:0≤z∧z≤65535
 ·obtain⟨n,rfl⟩:=Int.eq_ofNat_of_zero_le hz.1
  rw[show recinZ (n:Int) 65535=true from decide_eq_true hz] at CM
  have hn:n≤65535:=by omega
  have CK:=jH (drkey_any n hn w.drew)
  have c0:w.drew.cell? ⟨dp,0,none⟩=some (PT (some ⟨qp,0,none⟩)):=by have:=h.blk.cell 0;simpa using this
  have H:=jH h
  clear h hz
  go_enter func291,ntmps291
  go_wp2_with fail
  refine(CM.out _).mono ?_
  rintro e w1 ⟨rfl,rfl⟩
  go_wp2_with fail
  go_region_held3 (fun wS=>wS.cell? ⟨dp,0,none⟩=some (PT (some ⟨qp,0,none⟩))) (first|with_reducible exact c0|with_reducible exact e0|fail)
   (first
    |(go_at_call 181;(with_reducible refine CK.out.mono ?_);rintro e w1 ⟨rfl,hb1⟩;have k1:=H.out.blk.drew.below hb1 H.out.blk.lt;have e0:w1.cell? ⟨dp,0,none⟩=some (PT (some ⟨qp,0,none⟩)):=by {have:=k1.cell 0;simpa using this};have CA:=duat0 base qp qm (dkey n) (dkey_ok n) w1 (H.out.q.made ((bR _ _).drew.trans hb1)))
    |(go_at_call 398;(with_reducible refine CA.mono ?_);rintro e w2 ⟨rfl,rfl⟩))
  all_goals
   have hbE:=jH ((bR w.heap.size w).drew.trans hb1)
   clear hb1 CA
   go_wp2_with fail
   go_ret2
   exact⟨rfl,hbE.out⟩
 ·rw[show recinZ z 65535=false from decide_eq_false hz] at CM
  clear h hz
  go_enter func291,ntmps291
  go_wp2_with fail
  refine(CM.out _).mono ?_
  rintro e w1 ⟨rfl,rfl⟩
  go_wp2_with fail
  go_ret2
  exact⟨rfl,bR _ _⟩
theorem dris0 (base dp dm qp qm:Nat)(z:Int)(w:World)(h:Dr0 w base dp dm qp qm):Calls Pg 185 #[PT (some ⟨dp,0,none⟩),X Y z] w fun e w'=>e=rT (bL false)∧Below w.heap.size w w':=by
 have CU:=jH (druntil0 base dp dm qp qm z w h)
 clear h
 go_enter func185,ntmps185
 go_wp2_with fail
 refine CU.out.mono ?_
 rintro e w1 ⟨rfl,hb⟩
 go_wp2_with fail
 go_ret
 exact⟨rfl,hb⟩
theorem dudue0 (base qp qm:Nat)(z:Int)(w:World)(h:Q0 w base qp qm):Calls Pg 215 #[PT (some ⟨qp,0,none⟩),X Y z] w fun e w'=>e=rT (G none 0 0)∧w=w':=by
 have CL:=jH (dulen0 base qp qm w h)
 clear h
 go_enter func215,ntmps215
 go_wp2_with fail
 go_loopw [5] (fun i wr=>i=G none 0 0∧wr=w) (fun _ _=>0)
 case atStart=>exact⟨rfl,rfl⟩
 case round=>
  obtain⟨rfl,rfl⟩:=hrel
  go_wp2_with fail
  refine CL.out.mono ?_
  rintro e w1 ⟨rfl,rfl⟩
  go_wp2_with fail
  go_ret
  exact⟨rfl,rfl⟩
theorem drdue0 (base dp dm qp qm:Nat)(z:Int)(w:World)(h:Dr0 w base dp dm qp qm):Calls Pg 113 #[PT (some ⟨dp,0,none⟩),X Y z] w fun e w'=>e=rT (G none 0 0)∧w=w':=by
 have CD:=jH (dudue0 base qp qm z w h.q)
 have c0:=h.blk.c1
 clear h
 go_enter func113,ntmps113
 go_wp2_with fail
 refine CD.out.mono ?_
 rintro e w1 ⟨rfl,rfl⟩
 go_wp2_with fail
 go_loopw [5,17] (fun x i wr=>x=G none 0 0∧i=X Y 0∧wr=w) (fun _ _ _=>0)
 case atStart=>exact⟨rfl,rfl,rfl⟩
 case round=>
  obtain⟨rfl,rfl,rfl⟩:=hrel
  go_wp2_with fail
  go_ret
  exact⟨rfl,rfl⟩
def keyT (k:Tu):ByteArray:=strB (tupB k)
theorem keyT_ok (k:Tu):okS (keyT k):=by
 unfold okS
 have:(keyT k).size=13:=by simp[keyT,strB,ByteArray.size,tupB_length]
 omega
theorem flkey_any (k:Tu)(hk:TuOk k)(w:World):Calls Pg 290 #[tupV k] w fun e w'=>e=rT (.string (keyT k))∧Below w.heap.size w w':=by
 obtain⟨q,hq⟩:∃q,q=w.heap.size:=⟨_,rfl⟩
 have HQ:=jH hq
 have hb:=((bR w.heap.size w).alloc (nR _) (.cells k.vals 39)).alloc (by simp) (cL #[G none 0 0] 251)
 have hsz:((w.alloc (.cells k.vals 39)).alloc (cL #[G none 0 0] 251)).heap.size=q + 2:=by rw[hq];simp
 have hwb:WBuf ((w.alloc (.cells k.vals 39)).alloc (cL #[G none 0 0] 251)) (q + 1) (q + 1) []:=⟨nR _,none,0,Blk.new_ (by rw[hq];simp),rfl,.inl ⟨rfl,rfl⟩⟩
 have CW:=jH (write_any (q + 1) (q + 1) k hk _ hwb (by rw[hsz];omega))
 have hlen:=tupB_length k
 have hall:=tupB_all k
 have HK:Hid (keyT k=strB (tupB k)):=rfl
 obtain⟨K,hK⟩:∃K,keyT k=K:=⟨_,rfl⟩
 rw[hK] at HK⊢
 generalize tupB k=T at *
 obtain⟨src,dst,proto,sport,dport⟩:=k
 unfold tupV
 unfold Tu.vals at *
 dsimp only at *
 rw[←hq] at hb
 clear hK hwb
 go_enter func290,ntmps290
 go_wp2_with fail
 rw[←hq]
 clear hq
 generalize (w.alloc (cL #[X Z src,X Z dst,X Y proto,X Y sport,X Y dport] 39)).alloc (cL #[G none 0 0] 251)=w0 at *
 refine CW.out.mono ?_
 rintro e w1 ⟨rfl,hw1,hb1⟩
 have hs1:=hb1.size
 have CB:=jH (bytes_any (q + 1) (q + 1) T w1 hw1 (by omega))
 rw[hlen] at CB
 have hb01:=hb.trans (hb1.mono (by omega))
 clear CW hw1 hb1 hb
 go_wp2_with fail
 refine CB.out.mono ?_
 rintro e w2 ⟨A2,c2,rfl,hown2,hb2⟩
 have hcv:=run_string_back (P:=Pg) (c:=c2) 23 9 5 underlying23 underlying5 underlying9 (Reads.of_own hown2) hall
 rw[←HK.out] at hcv
 have HB:=jH (hb01.trans (hb2.mono (by omega)))
 clear hown2 hb2 hb01 CB
 go_wp2_with fail
 go_ret
 exact⟨rfl,HQ.out▸HB.out⟩
theorem fltime_any (n:Nat)(h:n≤1099511627776)(w:World):Calls Pg 289 #[X Y n] w fun e w'=>e=rT (bL true)∧w=w':=by
 have d1:decide ((0:Int)≤(n:Int))=true:=decide_eq_true (by omega)
 have d2:decide ((n:Int)≤1099511627776)=true:=decide_eq_true (by omega)
 go_enter func289,ntmps289
 go_wp2_with fail
 go_ret
 exact⟨rfl,rfl⟩
theorem flmay_ok (f:Fl)(hf:FlOk f)(w:World):Calls Pg 182 #[flV f] w fun e w'=>e=rT (bL true)∧Below w.heap.size w w':=by
 obtain⟨hk,hmay,hb,hg,hs⟩:=hf
 have CT:=jH (tupmay_any f.k)
 rw[hmay] at CT
 have CS:=jH (fltime_any f.seen hs)
 have hx:=Blk.new w 47 f.vals
 have hb0:=(bR w.heap.size w).alloc (nR _) (.cells f.vals 47)
 obtain⟨⟨src,dst,proto,sport,dport⟩,be0,g0,seen⟩:=f
 unfold flV
 unfold Fl.vals Tu.vals at *
 dsimp only at *
 have d1:decide ((0:Int)≤(be0:Int))=true:=decide_eq_true (by omega)
 have d2:decide ((be0:Int)≤65535)=true:=decide_eq_true (by omega)
 have d3:decide ((0:Int)≤(g0:Int))=true:=decide_eq_true (by omega)
 have d4:decide ((g0:Int)≤1000000)=true:=decide_eq_true (by omega)
 obtain⟨q,hq⟩:∃q,q=w.heap.size:=⟨_,rfl⟩
 have HQ:=jH hq
 rw[←hq] at hx hb0
 clear hmay hk
 go_enter func182,ntmps182
 go_wp2_with fail
 rw[←hq]
 clear hq
 generalize w.alloc (cL #[X Z src,X Z dst,X Y proto,X Y sport,X Y dport,X Y be0,X Y g0,X Y seen] 47)=w0 at *
 refine(CT.out _).mono ?_
 rintro e w1 ⟨rfl,hb1⟩
 have hx1:=hx.below hb1 hx.lt
 obtain⟨-,-,-,-,-,c5,c6,c7⟩:=hx1.c8
 have HB:=jH (hb0.trans (hb1.mono (Nat.le_of_lt hx.lt)))
 clear hx hx1 hb0 hb1
 go_wp2_with fail
 refine(CS.out _).mono ?_
 rintro e w2 ⟨rfl,rfl⟩
 go_wp2_with fail
 go_ret
 exact⟨rfl,HQ.out▸HB.out⟩
def keysOf (fm:List (Tu×Fl)):List (ByteArray×Tu):=fm.map fun p=>(keyT p.1,p.1)
structure TabAt (w:World)(base tp tm tk qp most idle:Nat)(fm:List (Tu×Fl)):Prop where
 lot:base≤tp
 lom:base≤tm
 lok:base≤tk
 ne:tm≠tk
 blk:Blk w tp 150 #[X Y most,X Y idle,.map (some tm),.map (some tk),PT (some ⟨qp,0,none⟩)]
 mf:MapIs w tupV TuOk flV tm fm
 ks:MapIs w Value.string okS tupV tk (keysOf fm)
theorem TabAt.fr {w w':World}{base base' tp tm tk qp most idle:Nat}{fm:List (Tu×Fl)}{K:List TypeId}{M:List Nat}(h:TabAt w base tp tm tk qp most idle fm)(hf:Fr K M base' w w')(h1:150∉K)(h2:tm∉M)(h3:tk∉M):TabAt w' base tp tm tk qp most idle fm:=⟨h.lot,h.lom,h.lok,h.ne,hf.blk _ _ _ h.blk h1,hf.mapIs h.mf h2,hf.mapIs h.ks h3⟩
theorem TabAt.made {w w':World}{base tp tm tk qp most idle:Nat}{fm:List (Tu×Fl)}(h:TabAt w base tp tm tk qp most idle fm)(hb:Below w.heap.size w w'):TabAt w' base tp tm tk qp most idle fm:=⟨h.lot,h.lom,h.lok,h.ne,h.blk.below hb h.blk.lt,h.mf.below hb h.mf.lt,h.ks.below hb h.ks.lt⟩
def fl0:Value:=aG #[X Z 0,X Z 0,X Y 0,X Y 0,X Y 0,X Y 0,X Y 0,X Y 0]
def getRet (o:Option Fl):Value:=match o with|some f=>tU #[flV f,bL true]|none=>tU #[fl0,bL false]
theorem infoFlow:(Pg.info? 47).map (·.size)=some 8:=by kernel_rfl
theorem flget_any (base tp tm tk qp most idle:Nat)(fm:List (Tu×Fl))(k:Tu)(hk:TuOk k)(w:World)(h:TabAt w base tp tm tk qp most idle fm):
  Calls Pg 104 #[PT (some ⟨tp,0,none⟩),tupV k] w fun e w'=>e=rT (getRet (mget fm k))∧Below w.heap.size w w':=by
 have hm:=(h.mf.alloc (.cells k.vals 39)).alloc (cL #[X Z 0,X Z 0,X Y 0,X Y 0,X Y 0,X Y 0,X Y 0,X Y 0] 47)
 have hb:=(h.blk.alloc (.cells k.vals 39)).alloc (cL #[X Z 0,X Z 0,X Y 0,X Y 0,X Y 0,X Y 0,X Y 0,X Y 0] 47)
 have hx:=(Blk.new w 39 k.vals).alloc (cL #[X Z 0,X Z 0,X Y 0,X Y 0,X Y 0,X Y 0,X Y 0,X Y 0] 47)
 have hlk:=hm.drew.lookup (P:=Pg) encT (t:=147) underlying147 (z:=fl0) (by kernel_rfl) k hk true
 have hlkA:=fun o=>(hm.alloc o).drew.lookup (P:=Pg) encT (t:=147) underlying147 (z:=fl0) (by kernel_rfl) k hk true
 obtain⟨-,-,c2⟩:=hb.c3
 have c2A:=fun o=>(hb.alloc o).cell 2
 simp only[ga,gz,gN] at c2A
 clear h hm hb
 generalize hg:mget fm k=o at *
 clear hg
 obtain⟨src,dst,proto,sport,dport⟩:=k
 unfold tupV at *
 unfold Tu.vals fl0 at *
 dsimp only at *
 simp only[if_true] at hlk hlkA
 cases o with
 |none=>
  dsimp only at hlk hlkA
  unfold getRet fl0
  dsimp only
  go_enter func104,ntmps104
  go_wp2_with fail
  go_region
  all_goals
   go_wp2_with fail
   refine bodyPost_ret (results_row_tmp rfl _ _ (w.heap.size + 1) 47 _ (0,0) _ rfl (blk_mid w _ _ _ _) underlying47 rfl infoFlow) rfl ?_
   exact⟨rfl,(below_three w _ _ _).drew⟩
 |some f=>
  dsimp only at hlk hlkA
  unfold getRet
  obtain⟨⟨s2,d2,p2,sp2,dp2⟩,b2,g2,n2⟩:=f
  unfold flV Fl.vals at *
  dsimp only at *
  go_enter func104,ntmps104
  go_wp2_with fail
  go_region
  all_goals
   go_wp2_with fail
   refine bodyPost_ret (results_row_tmp rfl _ _ (w.heap.size + 1) 47 _ (0,0) _ rfl (blk_mid w _ _ _ _) underlying47 rfl infoFlow) rfl ?_
   exact⟨rfl,(below_three w _ _ _).drew⟩
end
section
open Go.RowKit Go.Maps
theorem own_row {w:World}{base n c g:Nat}{e:TypeId}{size:Nat}{xs:List Value}(h:w.ownsRow base e size (G (some ⟨g,0,none⟩) n c) n xs):∃cur,Blk w g e cur:=by
 rcases h.2 with⟨h1,_⟩|⟨g',cap,cur,h1,_,h2,_⟩
 ·cases h1
 ·injection h1 with h1
  injection h1 with h1
  injection h1 with h1
  subst h1
  exact⟨cur,h2⟩
theorem own_cut {w:World}{base n m c g:Nat}{e:TypeId}{xs:List Value}(h:w.ownsRow base e 1 (G (some ⟨g,0,none⟩) n c) n xs)(hm:m≤n):w.ownsRow base e 1 (G (some ⟨g,0,none⟩) m c) m (xs.take m):=by
 have hl:=h.1
 rcases h.2 with⟨h1,_⟩|⟨g',cap,cur,h1,h2,h3,h4,h5,h6,h7⟩
 ·cases h1
 ·injection h1 with h1 _ h1c
  injection h1 with h1
  injection h1 with h1
  subst h1
  subst h1c
  refine⟨by rw[List.length_take];omega,.inr ⟨g,c,cur,rfl,h2,h3,by omega,h5,h6,?_⟩⟩
  rw[←h7,List.take_take]
  congr 1
  omega
theorem own_cell1 {w:World}{base n c g j:Nat}{e:TypeId}{xs:List Value}{u:Value}(h:w.ownsRow base e 1 (G (some ⟨g,0,none⟩) n c) n xs)(hu:xs[j]? =some u):w.cell? ⟨g,j,none⟩=some u:=by
 rcases h.2 with⟨h1,_⟩|⟨g',cap,cur,h1,h2,h3,h4,h5,h6,h7⟩
 ·cases h1
 ·injection h1 with h1 _ h1c
  injection h1 with h1
  injection h1 with h1
  subst h1
  have hb:Blk w g e cur:=h3
  rw[hb.cell j]
  rw[←h7,List.getElem?_take] at hu
  split at hu
  ·simpa using hu
  ·cases hu
structure FrQ (qp:Nat)(K:List TypeId)(M:List Nat)(base:Nat)(w w':World):Prop where
 toFr:Fr K M base w w'
 que:∀g cs,Blk w g 369 cs→g≠qp→Blk w' g 369 cs
section
variable {K K':List TypeId}{M M':List Nat}{base qp:Nat}{a b c w w':World}
theorem Fr.q (qp:Nat)(h:Fr K M base w w')(hq:369∉K):FrQ qp K M base w w':=⟨h,fun g cs h0 _=>h.blk g _ cs h0 hq⟩
theorem FrQ.refl (qp:Nat)(K:List TypeId)(M:List Nat)(base:Nat)(w:World):FrQ qp K M base w w:=⟨Fr.refl _ _ _ _,fun _ _ h _=>h⟩
theorem FrQ.trans (h:FrQ qp K M base a b)(k:FrQ qp K M base b c):FrQ qp K M base a c:=⟨h.toFr.trans k.toFr,fun g cs h0 hn=>k.que g cs (h.que g cs h0 hn) hn⟩
theorem FrQ.mono (h:FrQ qp K M base w w')(hK:∀t∈K,t∈K')(hM:∀b∈M,b∈M'):FrQ qp K' M' base w w':=⟨h.toFr.mono hK hM,h.que⟩
theorem FrQ.made (h:FrQ qp K M base a w)(k:Below w.heap.size w w')(hb:base≤w.heap.size):FrQ qp K M base a w':=⟨h.toFr.made k hb,fun g cs h0 hn=>(h.que g cs h0 hn).below k (h.que g cs h0 hn).lt⟩
theorem FrQ.drew (h:FrQ qp K M base a w):FrQ qp K M base a w.drew:=⟨h.toFr.drew,h.que⟩
theorem FrQ.size (h:FrQ qp K M base w w'):w.heap.size≤w'.heap.size:=h.toFr.size
theorem FrQ.blk (h:FrQ qp K M base w w'):∀g t cs,Blk w g t cs→t∉K→Blk w' g t cs:=h.toFr.blk
theorem FrQ.own {base0 n size:Nat}{e:TypeId}{v:Value}{xs:List Value}(h:FrQ qp K M base w w')(ho:w.ownsRow base0 e size v n xs)(he:e∉K):w'.ownsRow base0 e size v n xs:=h.toFr.own ho he
theorem FrQ.mapIs {κ ν:Type}{ek:κ→Value}{ok:κ→Prop}{ev:ν→Value}{p:Nat}{m:List (κ×ν)}(h:FrQ qp K M base w w')(hm:MapIs w ek ok ev p m)(hp:p∉M):MapIs w' ek ok ev p m:=h.toFr.mapIs hm hp
end
section
variable {w w':World}{base qp qm g n c i j:Nat}{A:Option Addr}{l:List It}{a b:It}
theorem HpAt.fr {base':Nat}{K:List TypeId}{M:List Nat}(h:HpAt w base qp qm A n c l)(hf:Fr K M base' w w')(h1:369∉K)(h2:376∉K)(h3:378∉K):HpAt w' base qp qm A n c l:=
 ⟨h.loq,nT h.hi hf.size,hf.blk _ _ _ h.blk h1,hf.own h.row h2,fun j x hx=>⟨(h.its j x hx).1,(h.its j x hx).2.1,hf.blk _ _ _ (h.its j x hx).2.2 h3⟩⟩
theorem HpAt.made (h:HpAt w base qp qm A n c l)(hb:Below w.heap.size w w'):HpAt w' base qp qm A n c l:=
 h.fr (K:=[]) (M:=[]) (Fr.of_below [] [] hb h.hi) (by simp) (by simp) (by simp)
theorem HpAt.cell (h:HpAt w base qp qm (some ⟨g,0,none⟩) n c l)(ha:l[i]? =some a):w.cell? ⟨g,i,none⟩=some (encP a.p):=own_cell1 h.row (ips_get ha)
theorem HpAt.at_ (h:HpAt w base qp qm A n c l)(hi:i < n):∃a,l[i]? =some a:=⟨l[i]'(by rw[h.len];exact hi),List.getElem?_eq_getElem _⟩
theorem HpAt.swap (h:HpAt w base qp qm (some ⟨g,0,none⟩) n c l)(ha:l[i]? =some a)(hb:l[j]? =some b)(hne:i≠j):
  HpAt ((((w.setCell ⟨g,i,none⟩ (encP b.p)).setCell ⟨g,j,none⟩ (encP a.p)).setCell ⟨b.p,2,none⟩ (X Y i)).setCell ⟨a.p,2,none⟩ (X Y j)) base qp qm (some ⟨g,0,none⟩) n c (swapL l i j)∧
  Fr [376,378] [] base w ((((w.setCell ⟨g,i,none⟩ (encP b.p)).setCell ⟨g,j,none⟩ (encP a.p)).setCell ⟨b.p,2,none⟩ (X Y i)).setCell ⟨a.p,2,none⟩ (X Y j)):=by
 obtain⟨cur,hg⟩:=own_row h.row
 obtain⟨hap,hat,hab⟩:=h.its i a ha
 obtain⟨hbp,hbt,hbb⟩:=h.its j b hb
 have hgb:base≤g:=by
  rcases h.row.2 with⟨h1,_⟩|⟨g',cap,cur,h1,h2,_⟩
  ·cases h1
  ·injection h1 with h1
   injection h1 with h1
   injection h1 with h1
   omega
 have hab':a.p≠b.p:=h.inj ha hb hne
 have hga:=hg.ne_ hab (by decide)
 have hgbne:=hg.ne_ hbb (by decide)
 have hqg:=h.blk.ne_ hg (by decide)
 have hqa:=h.blk.ne_ hab (by decide)
 have hqb:=h.blk.ne_ hbb (by decide)
 have far4:∀{k:Nat} {t:TypeId} {cs:Array Value},Blk w k t cs→k≠g→k≠a.p→k≠b.p→Blk ((((w.setCell ⟨g,i,none⟩ (encP b.p)).setCell ⟨g,j,none⟩ (encP a.p)).setCell ⟨b.p,2,none⟩ (X Y i)).setCell ⟨a.p,2,none⟩ (X Y j)) k t cs:=
  fun hk h1 h2 h3=>(((hk.far (p:=⟨g,i,none⟩) h1 _).far (p:=⟨g,j,none⟩) h1 _).far (p:=⟨b.p,2,none⟩) h3 _).far (p:=⟨a.p,2,none⟩) h2 _
 have hb2:Blk ((w.setCell ⟨g,i,none⟩ (encP b.p)).setCell ⟨g,j,none⟩ (encP a.p)) b.p 378 (itC b j):=(hbb.far (p:=⟨g,i,none⟩) (Ne.symm hgbne) _).far (p:=⟨g,j,none⟩) (Ne.symm hgbne) _
 have ha2:Blk ((w.setCell ⟨g,i,none⟩ (encP b.p)).setCell ⟨g,j,none⟩ (encP a.p)) a.p 378 (itC a i):=(hab.far (p:=⟨g,i,none⟩) (Ne.symm hga) _).far (p:=⟨g,j,none⟩) (Ne.symm hga) _
 have hb3:Blk (((w.setCell ⟨g,i,none⟩ (encP b.p)).setCell ⟨g,j,none⟩ (encP a.p)).setCell ⟨b.p,2,none⟩ (X Y i)) b.p 378 (itC b i):=hb2.set_ 2 _
 have ha3:Blk (((w.setCell ⟨g,i,none⟩ (encP b.p)).setCell ⟨g,j,none⟩ (encP a.p)).setCell ⟨b.p,2,none⟩ (X Y i)) a.p 378 (itC a i):=ha2.far (p:=⟨b.p,2,none⟩) hab' _
 have hb4:Blk ((((w.setCell ⟨g,i,none⟩ (encP b.p)).setCell ⟨g,j,none⟩ (encP a.p)).setCell ⟨b.p,2,none⟩ (X Y i)).setCell ⟨a.p,2,none⟩ (X Y j)) b.p 378 (itC b i):=hb3.far (p:=⟨a.p,2,none⟩) (Ne.symm hab') _
 have ha4:Blk ((((w.setCell ⟨g,i,none⟩ (encP b.p)).setCell ⟨g,j,none⟩ (encP a.p)).setCell ⟨b.p,2,none⟩ (X Y i)).setCell ⟨a.p,2,none⟩ (X Y j)) a.p 378 (itC a j):=ha3.set_ 2 _
 have hF:Fr [376,378] [] base w ((((w.setCell ⟨g,i,none⟩ (encP b.p)).setCell ⟨g,j,none⟩ (encP a.p)).setCell ⟨b.p,2,none⟩ (X Y i)).setCell ⟨a.p,2,none⟩ (X Y j)):=
  ((((Fr.refl _ _ base w).set_ hg (by simp) hgb i _).set_ (hg.set_ i _) (by simp) hgb j _).set_ hb2 (by simp) hbp 2 _).set_ ha3 (by simp) hap 2 _
 refine⟨⟨h.loq,nT h.hi hF.size,far4 h.blk hqg hqa hqb,?_,?_⟩,hF⟩
 ·have r2:=((h.row.stored i (encP b.p)).1.stored j (encP a.p)).1
  have r4:=own_set_far (own_set_far r2 hb2 (by decide) 2 (X Y i)) ha3 (by decide) 2 (X Y j)
  rw[swapL_of ha hb]
  rwa [show ((ips l).set i (encP b.p)).set j (encP a.p)=ips ((l.set i b).set j a) from by simp[ips,List.map_set]] at r4
 ·intro k x hx
  rw[swapL_of ha hb] at hx
  obtain⟨hil,-⟩:=List.getElem?_eq_some_iff.1 ha
  obtain⟨hjl,-⟩:=List.getElem?_eq_some_iff.1 hb
  by_cases hkj:k=j
  ·subst hkj
   rw[List.getElem?_set_self (by simpa using hjl)] at hx
   injection hx with hx
   subst hx
   exact⟨hap,hat,ha4⟩
  ·rw[List.getElem?_set_ne (Ne.symm hkj)] at hx
   by_cases hki:k=i
   ·subst hki
    rw[List.getElem?_set_self hil] at hx
    injection hx with hx
    subst hx
    exact⟨hbp,hbt,hb4⟩
   ·rw[List.getElem?_set_ne (Ne.symm hki)] at hx
    obtain⟨h1,h2,h3⟩:=h.its k x hx
    exact⟨h1,h2,far4 h3 (hg.ne_ h3 (by decide)).symm (h.inj hx ha hki) (h.inj hx hb hkj)⟩
theorem HpAt.pop {m:Nat}(h:HpAt w base qp qm (some ⟨g,0,none⟩) n c l)(hm:m≤n):
  HpAt (w.setCell ⟨qp,0,none⟩ (G (some ⟨g,0,none⟩) m c)) base qp qm (some ⟨g,0,none⟩) m c (l.take m)∧FrQ qp [369] [] base w (w.setCell ⟨qp,0,none⟩ (G (some ⟨g,0,none⟩) m c)):=by
 have hF:Fr [369] [] base w (w.setCell ⟨qp,0,none⟩ (G (some ⟨g,0,none⟩) m c)):=(Fr.refl _ _ base w).set_ h.blk (by simp) h.loq 0 _
 refine⟨⟨h.loq,nT h.hi hF.size,h.blk.set_ 0 _,?_,?_⟩,⟨hF,fun k cs hk hne=>hk.far (p:=⟨qp,0,none⟩) hne _⟩⟩
 ·have:=own_set_far (own_cut h.row hm) h.blk (by decide) 0 (G (some ⟨g,0,none⟩) m c)
  rwa [show (ips l).take m=ips (l.take m) from by simp[ips,List.map_take]] at this
 ·intro k x hx
  rw[List.getElem?_take] at hx
  split at hx
  ·obtain⟨h1,h2,h3⟩:=h.its k x hx
   exact⟨h1,h2,h3.far (p:=⟨qp,0,none⟩) (h3.ne_ h.blk (by decide)) _⟩
  ·cases hx
end
theorem itlen_any (A:Option Addr)(n c:Nat)(w:World):Calls Pg 474 #[G A n c] w fun e w'=>e=rT (X Y n)∧w=w':=by
 go_enter func474,ntmps474
 go_wp2_with fail
 go_ret
 exact⟨rfl,rfl⟩
theorem itless_any (base qp qm g n c i j:Nat)(l:List It)(w:World)(h:HpAt w base qp qm (some ⟨g,0,none⟩) n c l)(hi:i < n)(hj:j < n):
  Calls Pg 475 #[G (some ⟨g,0,none⟩) n c,X Y i,X Y j] w fun e w'=>e=rT (bL (lessAt l i j))∧Below w.heap.size w w':=by
 obtain⟨a,ha⟩:=h.at_ hi
 obtain⟨b,hb⟩:=h.at_ hj
 have ca:=h.cell ha
 have cb:=h.cell hb
 have ka:=(h.its i a ha).2.2
 have kb:=(h.its j b hb).2.2
 have a0:=ka.cell 0
 have a1:=ka.cell 1
 have b0:=kb.cell 0
 have b1:=kb.cell 1
 unfold itC at a0 a1 b0 b1
 unfold encP at ca cb
 simp only[ga,gz,gN] at a0 a1 b0 b1
 have HE:Hid (lessAt l i j=(decide (a.tm < b.tm)||(decide (a.tm=b.tm)&&Op.bytesLess a.key.toList b.key.toList))):=lessAt_of ha hb
 obtain⟨ap,ak,at_⟩:=a
 obtain⟨bp,bk,bt⟩:=b
 dsimp only at *
 clear h ka kb ha hb
 have HB:∀q,Below w.heap.size w (w.drewN q):=fun q=>⟨rfl,rfl,rfl,nR _,fun _ _=>rfl⟩
 rcases Nat.lt_trichotomy at_ bt with hlt|heq|hgt
 ·have d1:decide (at_ < bt)=true:=decide_eq_true (by omega)
  have HL:Hid (lessAt l i j=true):=by show _=_;rw[HE.out,decide_eq_true hlt];rfl
  clear HE hlt
  go_enter func475,ntmps475
  go_wp2_with fail
  go_quiet (fail)
  go_wp2_with fail
  go_ret
  exact⟨by rw[HL.out];rfl,HB _⟩
 ·subst heq
  have d1:decide (at_ < at_)=false:=decide_eq_false (by omega)
  have HL:Hid (lessAt l i j=Op.bytesLess ak.toList bk.toList):=by show _=_;rw[HE.out,decide_eq_false (Nat.lt_irrefl _),decide_eq_true rfl];simp
  clear HE
  go_enter func475,ntmps475
  go_wp2_with fail
  go_quiet (fail)
  go_wp2_with fail
  go_ret
  exact⟨by rw[HL.out];rfl,HB _⟩
 ·have d1:decide (at_ < bt)=false:=decide_eq_false (by omega)
  have d2:((at_:Int)==(bt:Int))=false:=by rw[beq_eq_false_iff_ne];omega
  have HL:Hid (lessAt l i j=false):=by show _=_;rw[HE.out,decide_eq_false (by omega),decide_eq_false (by omega)];rfl
  clear HE hgt
  go_enter func475,ntmps475
  go_wp2_with fail
  go_quiet (fail)
  go_wp2_with fail
  go_ret
  exact⟨by rw[HL.out];rfl,HB _⟩
end
section
open Go.RowKit Go.Maps
theorem infoItP:(Pg.info? 376).map (fun i=>(i.zero,i.size,i.bytes))=some (some (PT none),1,8):=by kernel_rfl
theorem itswap_any (base qp qm g n c i j:Nat)(l:List It)(w:World)(h:HpAt w base qp qm (some ⟨g,0,none⟩) n c l)(hi:i < n)(hj:j < n)(hne:i≠j):
  Calls Pg 476 #[G (some ⟨g,0,none⟩) n c,X Y i,X Y j] w fun e w'=>e=rT (tU #[])∧HpAt w' base qp qm (some ⟨g,0,none⟩) n c (swapL l i j)∧Fr [376,378] [] base w w':=by
 obtain⟨a,ha⟩:=h.at_ hi
 obtain⟨b,hb⟩:=h.at_ hj
 have HS:=jH (h.swap ha hb hne)
 have ca:=h.cell ha
 have cb:=h.cell hb
 obtain⟨cur,hg⟩:=own_row h.row
 have fi:w.frozen? ⟨g,i,none⟩=false:=hg.frozen i
 have fj:w.frozen? ⟨g,j,none⟩=false:=hg.frozen j
 have ka:=(h.its i a ha).2.2
 have kb:=(h.its j b hb).2.2
 have hga:g≠a.p:=hg.ne_ ka (by decide)
 have hgb:g≠b.p:=hg.ne_ kb (by decide)
 have hab:=h.inj ha hb hne
 have fa:=ka.frozen 2
 have fb:=kb.frozen 2
 have ca2:=ka.cell 2
 have cb2:=kb.cell 2
 unfold itC at ca2 cb2
 simp only[ga,gz,gN] at ca2 cb2
 have hga':=hga.symm
 have hgb':=hgb.symm
 have hab':=hab.symm
 have hne':=hne.symm
 generalize swapL l i j=l' at *
 obtain⟨ap,ak,at_⟩:=a
 obtain⟨bp,bk,bt⟩:=b
 dsimp only at *
 unfold encP at *
 clear h hg ka kb ha hb
 go_enter func476,ntmps476
 go_wp2_with fail
 go_region
 all_goals
  go_wp2_with fail
  go_region
  all_goals
   go_wp2_with fail
   go_end0
   exact⟨rfl,HS.out.1.made ((bR _ _).drew.drew),HS.out.2.drew.drew⟩
theorem itpop_any (base qp qm g m c:Nat)(l:List It)(x:It)(w:World)(h:HpAt w base qp qm (some ⟨g,0,none⟩) (m + 1) c l)(hx:l[m]? =some x)(hm:m≤100000):
  Calls Pg 477 #[PT (some ⟨qp,0,none⟩)] w fun e w'=>e=rT (.iface 376 (encP x.p))∧HpAt w' base qp qm (some ⟨g,0,none⟩) m c (l.take m)∧FrQ qp [369] [] base w w':=by
 have HS:=jH (h.pop (m:=m) (by omega))
 have cx:=h.cell hx
 have c0:=h.blk.c1
 have f0:=h.blk.frozen 0
 have hmc:m≤c:=by
  rcases h.row.2 with⟨h1,_⟩|⟨g',cap,cur,h1,h2,h3,h4,_⟩
  ·cases h1
  ·injection h1 with _ _ h1;omega
 obtain⟨n,hn⟩:∃n,n=m + 1:=⟨_,rfl⟩
 have e1:IntKind.i64.wrap ((n:Int) - 1)=(m:Int):=by rw[IntWalk.i64_in _ (by omega)];omega
 have hmn:m < n:=by omega
 rw[←hn] at c0
 unfold encP at cx
 clear h hx hn
 go_enter func477,ntmps477
 go_wp2_with fail
 go_ret
 exact⟨rfl,HS.out.1,HS.out.2⟩
theorem HpAt.push {w:World}{base qp qm n c k:Nat}{A:Option Addr}{l:List It}{x:It}{v0:Value}(h:HpAt w base qp qm A n c l)(hx:Blk w x.p 378 #[.string x.key,X Y x.tm,v0])(hxb:base≤x.p)(hxt:x.tm≤1099511627776)(hnew:∀(j:Nat) (y:It),l[j]? =some y→y.p≠x.p)(hk:n + 1=k)
  (A':Option Addr)(c':Nat)(w':World)(o:Obj)(hown:w'.ownsRow base 376 1 (G A' k c') k (ips l++[encP x.p]))(hg:((w.setCell ⟨x.p,2,none⟩ (X Y n)).alloc o).grownBy w' (Value.slice A n c).ownBlock):
  HpAt (w'.setCell ⟨qp,0,none⟩ (G A' k c')) base qp qm A' k c' (l++[x])∧FrQ qp [369,376,378] [] base w (w'.setCell ⟨qp,0,none⟩ (G A' k c')):=by
 have f1:Fr [369,376,378] [] base w (w.setCell ⟨x.p,2,none⟩ (X Y n)):=(Fr.refl _ _ base w).set_ hx (by simp) hxb 2 _
 have row1:=own_set_far h.row hx (by decide) 2 (X Y n)
 have hqx:=h.blk.ne_ hx (by decide)
 have q1:=h.blk.far (p:=⟨x.p,2,none⟩) hqx (X Y n)
 have x1:Blk (w.setCell ⟨x.p,2,none⟩ (X Y n)) x.p 378 (itC x n):=hx.set_ 2 _
 have hs1:base≤(w.setCell ⟨x.p,2,none⟩ (X Y n)).heap.size:=nT h.hi f1.size
 have f2:Fr [369,376,378] [] base w ((w.setCell ⟨x.p,2,none⟩ (X Y n)).alloc o):=f1.made ((bR _ _).alloc (nR _) _) hs1
 have hs2:base≤((w.setCell ⟨x.p,2,none⟩ (X Y n)).alloc o).heap.size:=nT h.hi f2.size
 have f3:=f2.grown (row1.alloc o) hg (by simp) (nR _) hs2
 have q3:Blk w' qp 369 #[G A n c,.map (some qm)]:=(q1.alloc o).grown hg (fun e=>own_blk_ne (row1.alloc o) (q1.alloc o) (by decide) e.symm)
 have x3:Blk w' x.p 378 (itC x n):=(x1.alloc o).grown hg (fun e=>own_blk_ne (row1.alloc o) (x1.alloc o) (by decide) e.symm)
 refine⟨⟨h.loq,nT h.hi (f3.set_ q3 (by simp) h.loq 0 (G A' k c')).size,q3.set_ 0 _,?_,?_⟩,⟨f3.set_ q3 (by simp) h.loq 0 _,fun k cs hk hne=>?_⟩⟩
 ·have:=own_set_far hown q3 (by decide) 0 (G A' k c')
  rwa [show ips l++[encP x.p]=ips (l++[x]) from by simp[ips]] at this
 ·intro j y hy
  have hlen:=h.len
  by_cases hj:j < l.length
  ·rw[List.getElem?_append_left hj] at hy
   obtain⟨h1,h2,h3⟩:=h.its j y hy
   have h4:=h3.far (p:=⟨x.p,2,none⟩) (hnew j y hy) (X Y n)
   have h5:Blk w' y.p 378 (itC y j):=(h4.alloc o).grown hg (fun e=>own_blk_ne (row1.alloc o) (h4.alloc o) (by decide) e.symm)
   exact⟨h1,h2,h5.far (p:=⟨qp,0,none⟩) (h5.ne_ q3 (by decide)) _⟩
  ·have hjl:=(List.getElem?_eq_some_iff.1 hy).1
   have hj2:j=l.length:=by simp at hjl;omega
   subst hj2
   rw[List.getElem?_append_right (nR _)] at hy
   simp at hy
   subst hy
   rw[hlen]
   exact⟨hxb,hxt,x3.far (p:=⟨qp,0,none⟩) (x3.ne_ q3 (by decide)) _⟩
 ·have k1:=hk.far (p:=⟨x.p,2,none⟩) (hk.ne_ hx (by decide)) (X Y n)
  have k3:Blk w' k 369 cs:=(k1.alloc o).grown hg (fun e=>own_blk_ne (row1.alloc o) (k1.alloc o) (by decide) e.symm)
  exact k3.far (p:=⟨qp,0,none⟩) hne _
theorem itpush_any (base qp qm n c p:Nat)(A:Option Addr)(key:ByteArray)(tm:Nat)(l:List It)(v0:Value)(w:World)(h:HpAt w base qp qm A n c l)(hx:Blk w p 378 #[.string key,X Y tm,v0])(hxb:base≤p)(hxt:tm≤1099511627776)(hnew:∀(j:Nat) (y:It),l[j]? =some y→y.p≠p)(hn:n≤100000):
  Calls Pg 478 #[PT (some ⟨qp,0,none⟩),.iface 376 (PT (some ⟨p,0,none⟩))] w fun e w'=>e=rT (tU #[])∧(∃A' c',HpAt w' base qp qm A' (n + 1) c' (l++[⟨p,key,tm⟩]))∧FrQ qp [369,376,378] [] base w w':=by
 have H:=jH h
 have HX:=jH (aI hx hnew)
 have c0:=h.blk.c1
 obtain⟨-,-,cx⟩:=hx.c3
 have fx:=hx.frozen 2
 have hqx:=h.blk.ne_ hx (by decide)
 have q1:=h.blk.far (p:=⟨p,2,none⟩) hqx (X Y n)
 have c1:=q1.c1
 have f1:=q1.frozen 0
 have row1:=own_set_far h.row hx (by decide) 2 (X Y n)
 have hlt:=hx.lt
 have hq:=h.blk.lt
 have hhi:=h.hi
 have hta:∀W:World,(Instr.typeAssert (.iface 376 (PT (some ⟨p,0,none⟩))) 20 376 true).run Pg W=.ok (tU #[PT (some ⟨p,0,none⟩),bL true]) W:=fun W=>by kernel_rfl
 clear h hx hnew
 go_enter func478,ntmps478
 go_wp2_with (at_builtin;refine stop_ ?_)
 refine on_ ?_
 refine wpList_append_1 rfl (.tmp 22) (.tmp 24) _ rfl 376 _ infoItP rfl underlying367 base (G A n c) n _ rfl (row1.alloc _) (w.heap.size + 1) _ 1 1 [PT (some ⟨p,0,none⟩)] rfl
  (reads_new _ _ _ _ 1 _ _ (by rfl) (by simp) (by simp) _ (by rfl)) (by intro u hu;rw[List.mem_singleton.1 hu];rfl) (n + 1) rfl (by omega) (by simp;omega) ?_
 intro A9 c9 w9 hown9 hb9 hg9 _
 have HP:=jH (H.out.push (x:=⟨p,key,tm⟩) HX.out.1 hxb hxt HX.out.2 rfl A9 c9 w9 _ hown9 hg9)
 have qA:=q1.alloc (cL #[PT (some ⟨p,0,none⟩)] 376)
 have rA:=row1.alloc (cL #[PT (some ⟨p,0,none⟩)] 376)
 have q9:=qA.grown hg9 (fun e=>own_blk_ne rA qA (by decide) e.symm)
 have d0:=q9.c1
 have d1:=q9.frozen 0
 clear hown9 hb9 hg9 q9 q1 row1 c0 cx fx c1 f1 qA rA
 go_wp2_with fail
 go_end0
 exact⟨rfl,⟨A9,c9,HP.out.1⟩,HP.out.2⟩
end
section
open Go.RowKit Go.Maps Go.Shelf
theorem run_wrapchk {P:Program}(ty ty2:TypeId)(a:Addr)(x y:String)(w:World):(Builtin.ssaWrapNilChk_ #[ty] ty2 #[PT (some a),strVal x,strVal y]).run P w=.ok (PT (some a)) w:=rfl
theorem run_method_ptr {P:Program}{T E:TypeId}{f:FuncId}{name:String}{b fuel:Nat}{u:Value}{w:World}(hm:((P.info? T).bind fun i=>(i.methods.find? (·.name==name)).map fun m=>(m.path.size,m.func))=some (0,some (f,false)))
  (ht:P.underlying T=some (.pointer E))(hl:(loadVar E ⟨b,0,none⟩).run P w=.ok u w):(method (fuel + 1) T (PT (some ⟨b,0,none⟩)) name).run P w=.ok (f,u) w:=by
 obtain⟨i,hi,h1⟩:=Option.bind_eq_some_iff.1 hm
 obtain⟨m,hm1,h2⟩:=Option.map_eq_some_iff.1 h1
 injection h2 with hp hf
 have hp':m.path=#[]:=Array.eq_empty_of_size_eq_zero hp
 simp[method,typeInfo,hi,hm1,hp',hf,follow,receiverAt,run_underlying ht,Place.get,run_wrapchk,asAddr,hl,Result.andThen]
theorem meth_its (W:World)(qp n c:Nat)(A:Option Addr)(hc:W.cell? ⟨qp,0,none⟩=some (G A n c)):
  (method 621 380 (PT (some ⟨qp,0,none⟩)) "Len").run Pg W=.ok (474,G A n c) W∧
  (method 621 380 (PT (some ⟨qp,0,none⟩)) "Less").run Pg W=.ok (475,G A n c) W∧
  (method 621 380 (PT (some ⟨qp,0,none⟩)) "Swap").run Pg W=.ok (476,G A n c) W:=by
 have hl:(loadVar 367 ⟨qp,0,none⟩).run Pg W=.ok (G A n c) W:=by
  simp[loadVar,run_isAgg_plain underlying367 rfl,hc,Result.andThen]
 exact⟨run_method_ptr (by kernel_rfl) underlying380 hl,run_method_ptr (by kernel_rfl) underlying380 hl,run_method_ptr (by kernel_rfl) underlying380 hl⟩
theorem meth_its2 (W:World)(qp:Nat):
  (method 621 380 (PT (some ⟨qp,0,none⟩)) "Push").run Pg W=.ok (478,PT (some ⟨qp,0,none⟩)) W∧
  (method 621 380 (PT (some ⟨qp,0,none⟩)) "Pop").run Pg W=.ok (477,PT (some ⟨qp,0,none⟩)) W:=by
 exact⟨by kernel_rfl,by kernel_rfl⟩
end
section
open Go.RowKit Go.Maps
theorem heapup_any (base qp qm g n c j:Nat)(l:List It)(w:World)(h:HpAt w base qp qm (some ⟨g,0,none⟩) n c l)(hj:j < n)(hn:n≤100000):
  Calls Pg 397 #[.iface 380 (PT (some ⟨qp,0,none⟩)),X Y j] w fun e w'=>e=rT (tU #[])∧(∃l',UpR l j l'∧HpAt w' base qp qm (some ⟨g,0,none⟩) n c l')∧Fr [376,378] [] base w w':=by
 have HN:=jH hn
 have HR0:Hid (∀l',UpR l j l'→UpR l j l'):=fun _ h=>h
 have H:=jH h
 clear h hn
 go_enter func397,ntmps397
 go_wp2_with fail
 go_loopw [1] (fun x wr=>∃(k:Nat) (lc:List It),x=X Y k∧k < n∧Hid (∀l',UpR lc k l'→UpR l j l')∧HpAt wr base qp qm (some ⟨g,0,none⟩) n c lc∧Fr [376,378] [] base w wr) (fun x _=>(intOf x).toNat)
 case atStart=>exact⟨j,l,rfl,hj,HR0,H.out,Fr.refl _ _ _ _⟩
 case round=>
  obtain⟨k,lc,rfl,hk,hR,hW,hfr⟩:=hrel
  have HF:=jH (aI hW hfr)
  by_cases hk0:k=0
  ·subst hk0
   clear hW hfr
   go_wp2_with fail
   go_end0
   exact⟨rfl,⟨lc,hR.out _ (UpR.zero _),HF.out.1⟩,HF.out.2⟩
  ·have hn:=HN.out
   obtain⟨i,hi⟩:∃i,(k - 1) / 2=i:=⟨_,rfl⟩
   have e1:IntKind.i64.wrap ((k:Int) - 1)=(k:Int) - 1:=IntWalk.i64_in _ (by omega)
   have e2:((k:Int) - 1) / 2=(i:Int):=by omega
   have e3:((k:Int) - 1).tdiv 2=(i:Int):=by rw[Int.tdiv_eq_ediv_of_nonneg (by omega)];exact e2
   have e4:((i:Int)==(k:Int))=false:=by rw[beq_eq_false_iff_ne];omega
   have hin:i < n:=by omega
   have hik:i≠k:=by omega
   have c0:=hW.blk.c1
   have mL:=(meth_its wr qp n c _ c0).2.1
   have CL:=jH (itless_any base qp qm g n c k i lc wr hW hk hin)
   have HI:=jH hi
   have HK:=jH hk0
   clear hW hfr hi hk0
   cases hle:lessAt lc k i with
   |false=>
    rw[hle] at CL
    have HL:=jH hle
    clear hle
    go_wp2_with fail
    refine CL.out.mono ?_
    rintro e w1 ⟨rfl,hb1⟩
    have HE:=jH (aI (HF.out.1.made hb1) (HF.out.2.made hb1 HF.out.1.hi))
    clear hb1 mL c0 e1 e2 e3 e4
    go_wp2_with fail
    go_end0
    exact⟨rfl,⟨lc,hR.out _ (UpR.stop _ _ (by have:=HK.out;omega) (by rw[HI.out];exact HL.out)),HE.out.1⟩,HE.out.2⟩
   |true=>
    rw[hle] at CL
    have HL:=jH hle
    clear hle
    go_wp2_with fail
    refine CL.out.mono ?_
    rintro e w1 ⟨rfl,hb1⟩
    have HE:=jH (aI (HF.out.1.made hb1) (HF.out.2.made hb1 HF.out.1.hi))
    have c1:=HE.out.1.blk.c1
    have mS:=(meth_its w1 qp n c _ c1).2.2
    have CS:=jH (itswap_any base qp qm g n c i k lc w1 HE.out.1 hin hk hik)
    clear hb1 mL c0
    go_wp2_with fail
    refine CS.out.mono ?_
    rintro e w2 ⟨rfl,hW2,hf2⟩
    have HG:=jH (aI hW2 (HE.out.2.trans hf2))
    clear hW2 hf2 c1 mS
    go_wp2_with fail
    go_roundw
    case rel=>exact⟨i,swapL lc i k,rfl,hin,fun l' hl'=>hR.out _ (UpR.step _ _ _ (by have:=HK.out;omega) (by rw[HI.out];exact HL.out) (by rw[HI.out];exact hl')),HG.out.1,HG.out.2⟩
    case measure=>have:=HI.out;have:=HK.out;simp[intOf];omega
theorem heapdown_any (base qp qm g n c i m:Nat)(l:List It)(w:World)(h:HpAt w base qp qm (some ⟨g,0,none⟩) n c l)(hi:i < m)(hm:m≤n)(hn:n≤100000):
  Calls Pg 396 #[.iface 380 (PT (some ⟨qp,0,none⟩)),X Y i,X Y m] w fun e w'=>(∃l' i',e=rT (bL (decide (i < i')))∧DownR m l i l' i'∧HpAt w' base qp qm (some ⟨g,0,none⟩) n c l')∧Fr [376,378] [] base w w':=by
 have HN:=jH (aI hm hn)
 have HR0:Hid (∀l' i',DownR m l i l' i'→DownR m l i l' i'):=fun _ _ h=>h
 have H:=jH h
 clear h hn hm
 go_enter func396,ntmps396
 go_wp2_with fail
 go_loopw [7] (fun x wr=>∃(k:Nat) (lc:List It),x=X Y k∧k < m∧i≤k∧Hid (∀l' i',DownR m lc k l' i'→DownR m l i l' i')∧HpAt wr base qp qm (some ⟨g,0,none⟩) n c lc∧Fr [376,378] [] base w wr) (fun x _=>m - (intOf x).toNat)
 case atStart=>exact⟨i,l,rfl,hi,nR _,HR0,H.out,Fr.refl _ _ _ _⟩
 case round=>
  obtain⟨k,lc,rfl,hk,hik,hR,hW,hfr⟩:=hrel
  have HF:=jH (aI hW hfr)
  obtain⟨hm,hn⟩:=HN.out
  obtain⟨j1,hj1⟩:∃j1,2 * k + 1=j1:=⟨_,rfl⟩
  have e2:2 * (k:Int) + 1=(j1:Int):=by omega
  obtain⟨j2,hj2⟩:∃j2,j1 + 1=j2:=⟨_,rfl⟩
  have e3:(j1:Int) + 1=(j2:Int):=by omega
  have hkn:k < n:=by omega
  have c0:=hW.blk.c1
  have mL:=(meth_its wr qp n c _ c0).2.1
  by_cases hout:m≤j1
  ·have d1:decide (m≤j1)=true:=decide_eq_true hout
   have HL:Hid (DownR m lc k lc k):=by subst hj1;exact DownR.out _ _ hout
   clear hW hfr hj1 hj2 hout
   go_wp2_with fail
   go_ret
   exact⟨⟨lc,k,rfl,hR.out _ _ HL.out,HF.out.1⟩,HF.out.2⟩
  ·have d1:decide (m≤j1)=false:=decide_eq_false hout
   have hj1n:j1 < n:=by omega
   have HKD0:Hid (kid lc k m=if j2 < m∧lessAt lc j2 j1=true then j2 else j1):=by
    show _=_
    subst hj2
    subst hj1
    rfl
   have HJ:=jH (aI hj1 hj2)
   have hjj:=jH hout
   by_cases hj2m:j2 < m
   ·have d2:decide (j2 < m)=true:=decide_eq_true hj2m
    have CL:=jH (itless_any base qp qm g n c j2 j1 lc wr hW (by omega) hj1n)
    have hjj:=jH (aI hout hj2m)
    clear hW hfr hj1 hj2 hout
    cases hle:lessAt lc j2 j1 with
    |true=>
     have HKD:Hid (kid lc k m=j2):=by show _=_;rw[HKD0.out,if_pos ⟨hj2m,hle⟩]
     rw[hle] at CL
     clear hle hj2m
     go_wp2_with fail
     refine CL.out.mono ?_
     rintro e w1 ⟨rfl,hb1⟩
     have HE:=jH (aI (HF.out.1.made hb1) (HF.out.2.made hb1 HF.out.1.hi))
     clear hb1 mL c0
     have c1:=HE.out.1.blk.c1
     have mL1:=(meth_its w1 qp n c _ c1).2.1
     have hkdn:j2 < n:=by have:=HJ.out;have:=HN.out;have:=hjj.out;omega
     have CL1:=jH (itless_any base qp qm g n c j2 k lc w1 HE.out.1 hkdn hkn)
     have hne:k≠j2:=by have:=HJ.out;omega
     cases hl2:lessAt lc j2 k with
     |false=>
      rw[hl2] at CL1
      have HL2:=jH hl2
      clear hl2 hkdn hne
      go_wp2_with fail
      refine CL1.out.mono ?_
      rintro e w2 ⟨rfl,hb2⟩
      have HG:=jH (aI (HE.out.1.made hb2) (HE.out.2.made hb2 HE.out.1.hi))
      clear hb2 mL1 c1 CL1
      go_wp2_with fail
      go_ret
      exact⟨⟨lc,k,rfl,hR.out _ _ (DownR.stop _ _ (by have:=HJ.out;have:=hjj.out;omega) (by rw[HKD.out];exact HL2.out)),HG.out.1⟩,HG.out.2⟩
     |true=>
      rw[hl2] at CL1
      have HL2:=jH hl2
      clear hl2
      go_wp2_with fail
      refine CL1.out.mono ?_
      rintro e w2 ⟨rfl,hb2⟩
      have HG:=jH (aI (HE.out.1.made hb2) (HE.out.2.made hb2 HE.out.1.hi))
      have c2:=HG.out.1.blk.c1
      have mS:=(meth_its w2 qp n c _ c2).2.2
      have CS:=jH (itswap_any base qp qm g n c k j2 lc w2 HG.out.1 hkn hkdn hne)
      clear hb2 mL1 c1 CL1
      go_wp2_with fail
      refine CS.out.mono ?_
      rintro e w3 ⟨rfl,hW3,hf3⟩
      have HS:=jH (aI hW3 (HG.out.2.trans hf3))
      clear hW3 hf3 c2 mS CS
      go_wp2_with fail
      go_roundw
      case rel=>exact⟨j2,swapL lc k j2,rfl,by have:=HJ.out;have:=hjj.out;omega,by have:=HJ.out;omega,fun l' i' hl'=>hR.out _ _ (DownR.step _ _ _ _ (by have:=HJ.out;have:=hjj.out;omega) (by rw[HKD.out];exact HL2.out) (by rw[HKD.out];exact hl')),HS.out.1,HS.out.2⟩
      case measure=>have:=HJ.out;have:=hjj.out;simp[intOf];omega
    |false=>
     have HKD:Hid (kid lc k m=j1):=by show _=_;rw[HKD0.out,if_neg (fun h=>by rw[hle] at h;exact absurd h.2 (by decide))]
     rw[hle] at CL
     clear hle hj2m
     go_wp2_with fail
     refine CL.out.mono ?_
     rintro e w1 ⟨rfl,hb1⟩
     have HE:=jH (aI (HF.out.1.made hb1) (HF.out.2.made hb1 HF.out.1.hi))
     clear hb1 mL c0
     have c1:=HE.out.1.blk.c1
     have mL1:=(meth_its w1 qp n c _ c1).2.1
     have hkdn:j1 < n:=by have:=HJ.out;have:=HN.out;have:=hjj.out;omega
     have CL1:=jH (itless_any base qp qm g n c j1 k lc w1 HE.out.1 hkdn hkn)
     have hne:k≠j1:=by have:=HJ.out;omega
     cases hl2:lessAt lc j1 k with
     |false=>
      rw[hl2] at CL1
      have HL2:=jH hl2
      clear hl2 hkdn hne
      go_wp2_with fail
      refine CL1.out.mono ?_
      rintro e w2 ⟨rfl,hb2⟩
      have HG:=jH (aI (HE.out.1.made hb2) (HE.out.2.made hb2 HE.out.1.hi))
      clear hb2 mL1 c1 CL1
      go_wp2_with fail
      go_ret
      exact⟨⟨lc,k,rfl,hR.out _ _ (DownR.stop _ _ (by have:=HJ.out;have:=hjj.out;omega) (by rw[HKD.out];exact HL2.out)),HG.out.1⟩,HG.out.2⟩
     |true=>
      rw[hl2] at CL1
      have HL2:=jH hl2
      clear hl2
      go_wp2_with fail
      refine CL1.out.mono ?_
      rintro e w2 ⟨rfl,hb2⟩
      have HG:=jH (aI (HE.out.1.made hb2) (HE.out.2.made hb2 HE.out.1.hi))
      have c2:=HG.out.1.blk.c1
      have mS:=(meth_its w2 qp n c _ c2).2.2
      have CS:=jH (itswap_any base qp qm g n c k j1 lc w2 HG.out.1 hkn hkdn hne)
      clear hb2 mL1 c1 CL1
      go_wp2_with fail
      refine CS.out.mono ?_
      rintro e w3 ⟨rfl,hW3,hf3⟩
      have HS:=jH (aI hW3 (HG.out.2.trans hf3))
      clear hW3 hf3 c2 mS CS
      go_wp2_with fail
      go_roundw
      case rel=>exact⟨j1,swapL lc k j1,rfl,by have:=HJ.out;have:=hjj.out;omega,by have:=HJ.out;omega,fun l' i' hl'=>hR.out _ _ (DownR.step _ _ _ _ (by have:=HJ.out;have:=hjj.out;omega) (by rw[HKD.out];exact HL2.out) (by rw[HKD.out];exact hl')),HS.out.1,HS.out.2⟩
      case measure=>have:=HJ.out;have:=hjj.out;simp[intOf];omega
   ·have d2:decide (j2 < m)=false:=decide_eq_false hj2m
    have HKD:Hid (kid lc k m=j1):=by show _=_;rw[HKD0.out,if_neg (fun h=>hj2m h.1)]
    have HE:=jH (aI hW hfr)
    clear hW hfr hj1 hj2 hout hj2m mL c0
    have c1:=HE.out.1.blk.c1
    have mL1:=(meth_its wr qp n c _ c1).2.1
    have hkdn:j1 < n:=by have:=HJ.out;have:=HN.out;have:=hjj.out;omega
    have CL1:=jH (itless_any base qp qm g n c j1 k lc wr HE.out.1 hkdn hkn)
    have hne:k≠j1:=by have:=HJ.out;omega
    cases hl2:lessAt lc j1 k with
    |false=>
     rw[hl2] at CL1
     have HL2:=jH hl2
     clear hl2 hkdn hne
     go_wp2_with fail
     refine CL1.out.mono ?_
     rintro e w2 ⟨rfl,hb2⟩
     have HG:=jH (aI (HE.out.1.made hb2) (HE.out.2.made hb2 HE.out.1.hi))
     clear hb2 mL1 c1 CL1
     go_wp2_with fail
     go_ret
     exact⟨⟨lc,k,rfl,hR.out _ _ (DownR.stop _ _ (by have:=HJ.out;have:=hjj.out;omega) (by rw[HKD.out];exact HL2.out)),HG.out.1⟩,HG.out.2⟩
    |true=>
     rw[hl2] at CL1
     have HL2:=jH hl2
     clear hl2
     go_wp2_with fail
     refine CL1.out.mono ?_
     rintro e w2 ⟨rfl,hb2⟩
     have HG:=jH (aI (HE.out.1.made hb2) (HE.out.2.made hb2 HE.out.1.hi))
     have c2:=HG.out.1.blk.c1
     have mS:=(meth_its w2 qp n c _ c2).2.2
     have CS:=jH (itswap_any base qp qm g n c k j1 lc w2 HG.out.1 hkn hkdn hne)
     clear hb2 mL1 c1 CL1
     go_wp2_with fail
     refine CS.out.mono ?_
     rintro e w3 ⟨rfl,hW3,hf3⟩
     have HS:=jH (aI hW3 (HG.out.2.trans hf3))
     clear hW3 hf3 c2 mS CS
     go_wp2_with fail
     go_roundw
     case rel=>exact⟨j1,swapL lc k j1,rfl,by have:=HJ.out;have:=hjj.out;omega,by have:=HJ.out;omega,fun l' i' hl'=>hR.out _ _ (DownR.step _ _ _ _ (by have:=HJ.out;have:=hjj.out;omega) (by rw[HKD.out];exact HL2.out) (by rw[HKD.out];exact hl')),HS.out.1,HS.out.2⟩
     case measure=>have:=HJ.out;have:=hjj.out;simp[intOf];omega
theorem heapfix_any (base qp qm g n c i:Nat)(l:List It)(w:World)(h:HpAt w base qp qm (some ⟨g,0,none⟩) n c l)(hi:i < n)(hn:n≤100000):
  Calls Pg 287 #[.iface 380 (PT (some ⟨qp,0,none⟩)),X Y i] w fun e w'=>e=rT (tU #[])∧(∃l',FixR n l i l'∧HpAt w' base qp qm (some ⟨g,0,none⟩) n c l')∧Fr [376,378] [] base w w':=by
 have H:=jH (aI h hn)
 have CD:=jH (heapdown_any base qp qm g n c i n l w h hi (nR _) hn)
 have c0:=h.blk.c1
 have mN:=(meth_its w qp n c _ c0).1
 have HI:=jH hi
 clear h hi hn
 go_enter func287,ntmps287
 go_wp2_with fail
 refine(itlen_any _ _ _ _).mono ?_
 rintro e w1 ⟨rfl,rfl⟩
 go_wp2_with fail
 refine CD.out.mono ?_
 rintro e w2 ⟨⟨l1,i1,rfl,hD,hW⟩,hf⟩
 have HE:=jH (aI hW hf)
 have HD:=jH hD
 clear hW hf hD mN c0
 by_cases hlt:i < i1
 ·have d1:decide (i < i1)=true:=decide_eq_true hlt
  have HL:=jH hlt
  clear hlt
  go_wp2_with fail
  go_end0
  exact⟨rfl,⟨l1,⟨l1,i1,HD.out,by rw[if_pos HL.out]⟩,HE.out.1⟩,HE.out.2⟩
 ·have d1:decide (i < i1)=false:=decide_eq_false hlt
  have HL:=jH hlt
  have CU:=jH (heapup_any base qp qm g n c i l1 w2 HE.out.1 HI.out H.out.2)
  clear hlt
  go_wp2_with fail
  refine CU.out.mono ?_
  rintro e w3 ⟨rfl,⟨l3,hU,hW3⟩,hf3⟩
  have HG:=jH (aI hU (aI hW3 (HE.out.2.trans hf3)))
  clear hU hW3 hf3
  go_wp2_with fail
  go_end0
  exact⟨rfl,⟨l3,⟨l1,i1,HD.out,by rw[if_neg HL.out];exact HG.out.1⟩,HG.out.2.1⟩,HG.out.2.2⟩
theorem heapremove_any (base qp qm g m c i:Nat)(l:List It)(x:It)(w:World)(h:HpAt w base qp qm (some ⟨g,0,none⟩) (m + 1) c l)(hx:l[i]? =some x)(hn:m≤90000):
  Calls Pg 339 #[.iface 380 (PT (some ⟨qp,0,none⟩)),X Y i] w fun e w'=>(∃v,e=rT v)∧(∃l',RemR l i l'∧HpAt w' base qp qm (some ⟨g,0,none⟩) m c (l'.take m))∧FrQ qp [369,376,378] [] base w w':=by
 have hlen:=h.len
 obtain⟨hil,-⟩:=List.getElem?_eq_some_iff.1 hx
 have H:=jH (aI h (aI hn (aI hlen (aI hil hx))))
 have c0:=h.blk.c1
 obtain⟨n,hnm⟩:∃n,n=m + 1:=⟨_,rfl⟩
 rw[←hnm] at c0
 have mN:=(meth_its w qp n c _ c0).1
 have mP:=fun W=>(meth_its2 W qp).2
 have e2:(n:Int) - 1=(m:Int):=by omega
 have hnb:n≤90001:=by omega
 have hmb:m≤90000:=hn
 have HN:=jH hnm
 by_cases him:i=m
 ·subst him
  have CP:=jH (itpop_any base qp qm g i c l x w h hx (by omega))
  have hR:Hid (RemR l i l):=by show RemR l i l;unfold RemR;rw[if_pos hlen]
  clear h hx hn hlen hil hnm
  go_enter func339,ntmps339
  go_wp2_with fail
  refine(itlen_any _ _ _ _).mono ?_
  rintro e w1 ⟨rfl,rfl⟩
  go_wp2_with fail
  refine CP.out.mono ?_
  rintro e w2 ⟨rfl,hW,hf⟩
  have HE:=jH (aI hW (hf.mono (K':=[369,376,378]) (M':=[]) (by simp) (by simp)))
  clear hW hf
  go_wp2_with fail
  go_ret
  exact⟨⟨_,rfl⟩,⟨l,hR.out,HE.out.1⟩,HE.out.2⟩
 ·have d0:((m:Int)==(i:Int))=false:=by rw[beq_eq_false_iff_ne];omega
  have him':i < m:=by omega
  have mS:=(meth_its w qp n c _ c0).2.2
  rw[←hnm] at h
  have CS:=jH (itswap_any base qp qm g n c i m l w h (by omega) (by omega) him)
  have HIM:=jH (aI him' him)
  clear h hx hn hlen hil hnm him him'
  go_enter func339,ntmps339
  go_wp2_with fail
  refine(itlen_any _ _ _ _).mono ?_
  rintro e w1 ⟨rfl,rfl⟩
  go_wp2_with fail
  refine CS.out.mono ?_
  rintro e w2 ⟨rfl,hW,hf⟩
  have HE:=jH (aI hW hf)
  have CD:=jH (heapdown_any base qp qm g n c i m (swapL l i m) w2 hW HIM.out.1 (by have:=HN.out;omega) (by have:=HN.out;have:=H.out.2.1;omega))
  clear hW hf mN mS c0 CS
  go_wp2_with fail
  refine CD.out.mono ?_
  rintro e w3 ⟨⟨l1,i1,rfl,hD,hW⟩,hf⟩
  have HG:=jH (aI hD (aI hW (HE.out.2.trans hf)))
  clear hD hW hf CD
  have hfin:∀l2,(if i < i1 then l2=l1 else UpR l1 i l2)→RemR l i l2:=fun l2 h2=>by
   unfold RemR
   rw[if_neg (by have:=H.out.2.2.1;have:=HIM.out.2;omega)]
   rw[show l.length - 1=m by have:=H.out.2.2.1;omega]
   exact⟨l1,i1,HG.out.1,h2⟩
  have HF:=jH hfin
  clear hfin
  by_cases hlt:i < i1
  ·have d1:decide (i < i1)=true:=decide_eq_true hlt
   have hR:Hid (RemR l i l1):=HF.out l1 (by rw[if_pos hlt])
   have CP:=jH (itpop_any base qp qm g m c l1 x w3 (by have:=HG.out.2.1;rwa [HN.out] at this) (by have:=hR.out.last H.out.2.2.2.2;rwa [show l.length - 1=m by have:=H.out.2.2.1;omega] at this) (by have:=H.out.2.1;omega))
   clear hlt
   go_wp2_with fail
   refine CP.out.mono ?_
   rintro e w4 ⟨rfl,hW,hf⟩
   have HK:=jH (aI hW (((HG.out.2.2.q qp (by decide)).mono (K':=[369,376,378]) (M':=[]) (by simp) (by simp)).trans (hf.mono (by simp) (by simp))))
   clear hW hf
   go_wp2_with fail
   go_ret
   exact⟨⟨_,rfl⟩,⟨l1,hR.out,HK.out.1⟩,HK.out.2⟩
  ·have d1:decide (i < i1)=false:=decide_eq_false hlt
   have HL:=jH hlt
   have CU:=jH (heapup_any base qp qm g n c i l1 w3 HG.out.2.1 (by have:=HN.out;have:=HIM.out.1;omega) (by have:=HN.out;have:=H.out.2.1;omega))
   clear hlt
   go_wp2_with fail
   refine CU.out.mono ?_
   rintro e w4 ⟨rfl,⟨l3,hU,hW3⟩,hf3⟩
   have hR:Hid (RemR l i l3):=HF.out l3 (by rw[if_neg HL.out];exact hU)
   have HK:=jH (aI hW3 (HG.out.2.2.trans hf3))
   have CP:=jH (itpop_any base qp qm g m c l3 x w4 (by rwa [HN.out] at hW3) (by have:=hR.out.last H.out.2.2.2.2;rwa [show l.length - 1=m by have:=H.out.2.2.1;omega] at this) (by have:=H.out.2.1;omega))
   clear hU hW3 hf3 CU
   go_wp2_with fail
   refine CP.out.mono ?_
   rintro e w5 ⟨rfl,hW,hf⟩
   have HZ:=jH (aI hW (((HK.out.2.q qp (by decide)).mono (K':=[369,376,378]) (M':=[]) (by simp) (by simp)).trans (hf.mono (by simp) (by simp))))
   clear hW hf
   go_wp2_with fail
   go_ret
   exact⟨⟨_,rfl⟩,⟨l3,hR.out,HZ.out.1⟩,HZ.out.2⟩
theorem heappush_any (base qp qm n c p:Nat)(A:Option Addr)(key:ByteArray)(tm:Nat)(l:List It)(v0:Value)(w:World)(h:HpAt w base qp qm A n c l)(hx:Blk w p 378 #[.string key,X Y tm,v0])(hxb:base≤p)(hxt:tm≤1099511627776)(hnew:∀(j:Nat) (y:It),l[j]? =some y→y.p≠p)(hn:n≤90000):
  Calls Pg 288 #[.iface 380 (PT (some ⟨qp,0,none⟩)),.iface 376 (PT (some ⟨p,0,none⟩))] w fun e w'=>e=rT (tU #[])∧(∃A' c' l',UpR (l++[⟨p,key,tm⟩]) n l'∧HpAt w' base qp qm A' (n + 1) c' l')∧FrQ qp [369,376,378] [] base w w':=by
 have mP:=(meth_its2 w qp).1
 have CP:=jH (itpush_any base qp qm n c p A key tm l v0 w h hx hxb hxt hnew (by omega))
 have HN:=jH hn
 clear h hx hxb hxt hnew hn
 go_enter func288,ntmps288
 go_wp2_with fail
 refine CP.out.mono ?_
 rintro e w1 ⟨rfl,⟨A',c',hW⟩,hf⟩
 obtain⟨g,rfl,-,-⟩:=own_head hW.row (by omega)
 have HE:=jH (aI hW hf)
 have c0:=hW.blk.c1
 have CU:=jH (heapup_any base qp qm g (n + 1) c' n (l++[⟨p,key,tm⟩]) w1 hW (by omega) (by have:=HN.out;omega))
 obtain⟨k,hk⟩:∃k,k=n + 1:=⟨_,rfl⟩
 rw[←hk] at c0
 have mN:=(meth_its w1 qp k c' _ c0).1
 have e1:(k:Int) - 1=(n:Int):=by omega
 have hn:=HN.out
 have hkb:k≤90001:=by omega
 have HK:=jH hk
 clear hW hf hk mP
 go_wp2_with fail
 refine(itlen_any _ _ _ _).mono ?_
 rintro e w2 ⟨rfl,rfl⟩
 go_wp2_with fail
 refine CU.out.mono ?_
 rintro e w3 ⟨rfl,⟨l',hU,hW3⟩,hf3⟩
 have HZ:=jH (aI hU (aI hW3 (HE.out.2.trans ((hf3.q qp (by decide)).mono (by simp) (by simp)))))
 clear hU hW3 hf3 mN c0
 go_wp2_with fail
 go_end0
 exact⟨rfl,⟨_,_,l',HZ.out.1,HZ.out.2.1⟩,HZ.out.2.2⟩
end
section
open Go.RowKit Go.Maps
def kps (l:List It):List (ByteArray×Nat):=l.map fun x=>(x.key,x.p)
structure DuAt (w:World)(base qp qm:Nat)(l:List It):Prop where
 hp:∃A c,HpAt w base qp qm A l.length c l
 mp:∃m,MapIs w Value.string okS encP qm m∧m.Perm (kps l)
 lom:base≤qm
 few:l.length≤1024
section
variable {w w':World}{base qp qm n c:Nat}{A:Option Addr}{l:List It}
theorem DuAt.fr {base':Nat}{K:List TypeId}{M:List Nat}(h:DuAt w base qp qm l)(hf:Fr K M base' w w')(h1:369∉K)(h2:376∉K)(h3:378∉K)(h4:qm∉M):DuAt w' base qp qm l:=by
 obtain⟨A,c,hp⟩:=h.hp
 obtain⟨m,hm,hpm⟩:=h.mp
 exact⟨⟨A,c,hp.fr hf h1 h2 h3⟩,⟨m,hf.mapIs hm h4,hpm⟩,h.lom,h.few⟩
theorem DuAt.hi (h:DuAt w base qp qm l):base≤w.heap.size:=by
 obtain⟨A,c,hp⟩:=h.hp
 exact hp.hi
theorem DuAt.made (h:DuAt w base qp qm l)(hb:Below w.heap.size w w'):DuAt w' base qp qm l:=
 h.fr (K:=[]) (M:=[]) (Fr.of_below [] [] hb h.hi) (by simp) (by simp) (by simp) (by simp)
theorem DuAt.of_q0 (h:Q0 w base qp qm)(hb:base≤w.heap.size):DuAt w base qp qm []:=
 ⟨⟨none,0,h.loq,hb,h.blk,⟨rfl,.inl ⟨rfl,rfl⟩⟩,fun j x hx=>by simp at hx⟩,⟨[],h.mp,List.Perm.refl _⟩,h.lom,by simp⟩
theorem HpAt.retime {g i:Nat}{x:It}(h:HpAt w base qp qm A n c l)(hx:l[i]? =some x)(t:Nat)(ht:t≤1099511627776):
  HpAt (w.setCell ⟨x.p,1,none⟩ (X Y t)) base qp qm A n c (l.set i {x with tm:=t})∧Fr [378] [] base w (w.setCell ⟨x.p,1,none⟩ (X Y t)):=by
 obtain⟨hxb,hxt,hxk⟩:=h.its i x hx
 obtain⟨hil,-⟩:=List.getElem?_eq_some_iff.1 hx
 have hF:Fr [378] [] base w (w.setCell ⟨x.p,1,none⟩ (X Y t)):=(Fr.refl _ _ base w).set_ hxk (by simp) hxb 1 _
 refine⟨⟨h.loq,nT h.hi hF.size,h.blk.far (p:=⟨x.p,1,none⟩) (h.blk.ne_ hxk (by decide)) _,?_,?_⟩,hF⟩
 ·have:=own_set_far h.row hxk (by decide) 1 (X Y t)
  have e:ips (l.set i {x with tm:=t})=ips l:=by
   apply List.ext_getElem?
   intro j
   unfold ips
   rw[List.getElem?_map,List.getElem?_map,List.getElem?_set]
   split
   ·rename_i e
    subst e
    rw[hx]
    rfl
   ·rfl
  rw[e];exact this
 ·intro j y hy
  rw[List.getElem?_set] at hy
  split at hy
  ·rename_i e
   subst e
   injection hy with hy
   subst hy
   exact⟨hxb,ht,hxk.set_ 1 _⟩
  ·rename_i hne
   obtain⟨h1,h2,h3⟩:=h.its j y hy
   exact⟨h1,h2,h3.far (p:=⟨x.p,1,none⟩) (h.inj hy hx (fun e=>hne e.symm)) _⟩
theorem kps_retime {i:Nat}{x:It}(hx:l[i]? =some x)(t:Nat):kps (l.set i {x with tm:=t})=kps l:=by
 obtain⟨hil,-⟩:=List.getElem?_eq_some_iff.1 hx
 apply List.ext_getElem?
 intro j
 unfold kps
 rw[List.getElem?_map,List.getElem?_map,List.getElem?_set]
 split
 ·rename_i e
  subst e
  rw[hx]
  rfl
 ·rfl
theorem DuAt.get (h:DuAt w base qp qm l){m:List (ByteArray×Nat)}(hm:MapIs w Value.string okS encP qm m)(hpm:m.Perm (kps l)){i:Nat}{x:It}(hx:l[i]? =some x):mget m x.key=some x.p:=by
 refine mget_mem (hm.nodup encS) (hpm.mem_iff.2 ?_)
 exact List.mem_map.2 ⟨x,List.mem_of_getElem? hx,rfl⟩
theorem DuAt.keys (h:DuAt w base qp qm l):(l.map It.key).Nodup:=by
 obtain⟨m,hm,hpm⟩:=h.mp
 have h1:(m.map Prod.fst).Nodup:=hm.nodup encS
 have h2:=(hpm.map Prod.fst).nodup_iff.1 h1
 simpa [kps,List.map_map,Function.comp_def] using h2
theorem DuAt.none_ {m:List (ByteArray×Nat)}(hpm:m.Perm (kps l)){k:ByteArray}(hk:∀x∈l,x.key≠k):mget m k=none:=by
 refine mget_none (fun p hp=>?_)
 have:=hpm.mem_iff.1 hp
 obtain⟨x,hx,rfl⟩:=List.mem_map.1 this
 exact hk x hx
end
theorem dulen_any (base qp qm:Nat)(l:List It)(w:World)(h:DuAt w base qp qm l):Calls Pg 336 #[PT (some ⟨qp,0,none⟩)] w fun e w'=>e=rT (X Y l.length)∧w=w':=by
 obtain⟨A,c,hp⟩:=h.hp
 have c0:=hp.blk.c1
 clear h hp
 generalize l.length=n at *
 go_enter func336,ntmps336
 go_wp2_with fail
 go_ret
 exact⟨rfl,rfl⟩
def ptrO (o:Option Nat):Value:=match o with|some p=>encP p|none=>PT none
theorem dufind_any (base qp qm:Nat)(l:List It)(m:List (ByteArray×Nat))(k:ByteArray)(hk:okS k)(w:World)(h:DuAt w base qp qm l)(hm:MapIs w Value.string okS encP qm m):Calls Pg 338 #[PT (some ⟨qp,0,none⟩),.string k] w fun e w'=>e=rT (ptrO (mget m k))∧w=w':=by
 obtain⟨A,c,hp⟩:=h.hp
 obtain⟨-,c1⟩:=hp.blk.c2
 have hlk:=hm.lookup (P:=Pg) encS (t:=365) underlying365 (z:=PT none) (by kernel_rfl) k hk false
 have hlk':(Instr.lookup 365 (.map (some qm)) (.string k) false).run Pg w=.ok (ptrO (mget m k)) w:=by
  cases hg:mget m k with
  |none=>rw[hg] at hlk;exact hlk
  |some v=>rw[hg] at hlk;exact hlk
 clear hlk
 generalize ptrO (mget m k)=v at *
 clear h hp hm
 go_enter func338,ntmps338
 go_wp2_with fail
 go_ret
 exact⟨rfl,rfl⟩
def SetR (l:List It)(i:Nat)(x:It)(t:Nat)(l':List It):Prop:=FixR l.length (l.set i {x with tm:=t}) i l'
theorem duset_old (base qp qm i t:Nat)(l:List It)(x:It)(w:World)(h:DuAt w base qp qm l)(hx:l[i]? =some x)(hk:okS x.key)(ht:t≤1099511627776):
  Calls Pg 180 #[PT (some ⟨qp,0,none⟩),.string x.key,X Y t] w fun e w'=>e=rT (X Y 0)∧(∃l',SetR l i x t l'∧DuAt w' base qp qm l')∧Fr [376,378] [] base w w':=by
 obtain⟨A,c,hp⟩:=h.hp
 obtain⟨m,hm,hpm⟩:=h.mp
 have hget:=h.get hm hpm hx
 obtain⟨hil,-⟩:=List.getElem?_eq_some_iff.1 hx
 obtain⟨g,rfl,-,-⟩:=own_head hp.row (by omega)
 have hlk:=hm.lookup (P:=Pg) encS (t:=365) underlying365 (z:=PT none) (by kernel_rfl) x.key hk false
 rw[hget] at hlk
 simp only[if_false,Bool.false_eq_true] at hlk
 unfold encP at hlk
 obtain⟨-,c1⟩:=hp.blk.c2
 obtain⟨hW1,hf1⟩:=hp.retime (g:=g) hx t ht
 have hx1:(l.set i {x with tm:=t})[i]? =some {x with tm:=t}:=by rw[List.getElem?_set_self hil]
 have cx:=(hp.its i x hx).2.2.cell 1
 have fx:=(hp.its i x hx).2.2.frozen 1
 have c2:(w.setCell ⟨x.p,1,none⟩ (X Y t)).drew.cell? ⟨x.p,2,none⟩=some (X Y i):=(hW1.its i _ hx1).2.2.cell 2
 unfold itC at cx
 simp only[ga,gz,gN] at cx
 have CF:=jH (heapfix_any base qp qm g l.length c i (l.set i {x with tm:=t}) _ (hW1.made (bR _ _).drew) hil (by have:=h.few;omega))
 have HM:=jH (aI hm (aI hpm (aI hf1 h)))
 have HX:=jH (aI hx (kps_retime hx t))
 obtain⟨xp,xk,xt⟩:=x
 dsimp only at *
 clear h hp hm hpm hget hx hW1 hf1 hx1 hil
 go_enter func180,ntmps180
 go_wp2_with fail
 go_region_with (go_at_call 287;(with_reducible refine CF.out.mono ?_);rintro e w1 ⟨rfl,⟨l2,hF,hW2⟩,hf2⟩)
 all_goals
  have hfr:Fr [376,378] [] base w w1:=((HM.out.2.2.1.mono (by simp) (by simp)).drew).trans hf2
  have hlen:l2.length=l.length:=by
   have h1:=hF.perm.length_eq
   simpa using h1
  have HE:Hid (SetR l i ⟨xp,xk,xt⟩ t l2∧DuAt w1 base qp qm l2∧Fr [376,378] [] base w w1):=by
   refine⟨hF,⟨⟨_,_,hlen▸hW2⟩,⟨m,hfr.mapIs HM.out.1 (by simp),?_⟩,HM.out.2.2.2.lom,by have:=HM.out.2.2.2.few;omega⟩,hfr⟩
   exact HM.out.2.1.trans (HX.out.2▸(hF.perm.map _).symm)
  clear hfr hlen hF hW2 hf2
  go_wp2_with fail
  go_ret
  exact⟨rfl,⟨l2,HE.out.1,HE.out.2.1⟩,HE.out.2.2⟩
def NewR (l:List It)(x:It)(l':List It):Prop:=UpR (l++[x]) l.length l'
theorem duset_new (base qp qm t:Nat)(l:List It)(k:ByteArray)(w:World)(h:DuAt w base qp qm l)(hk:okS k)(hnew:∀x∈l,x.key≠k)(ht:t≤1099511627776)(hlt:l.length < 1024):
  Calls Pg 180 #[PT (some ⟨qp,0,none⟩),.string k,X Y t] w fun e w'=>e=rT (X Y 0)∧(∃p l',NewR l ⟨p,k,t⟩ l'∧DuAt w' base qp qm l')∧FrQ qp [369,376,378] [qm] base w w':=by
 obtain⟨A,c,hp⟩:=h.hp
 obtain⟨m,hm,hpm⟩:=h.mp
 have hget:mget m k=none:=DuAt.none_ hpm hnew
 have hlk:=hm.lookup (P:=Pg) encS (t:=365) underlying365 (z:=PT none) (by kernel_rfl) k hk false
 rw[hget] at hlk
 simp only[if_false,Bool.false_eq_true] at hlk
 obtain⟨-,c1⟩:=hp.blk.c2
 have c0:=hp.blk.c1
 have hb1:Below w.heap.size w (w.alloc (cL #[.string k,X Y t,X Y 0] 378)):=(bR _ _).alloc (nR _) _
 have hx1:=Blk.new w 378 #[.string k,X Y t,X Y 0]
 obtain⟨w2,hup,hm2,hbut,hs2⟩:=(hm.alloc (cL #[.string k,X Y t,X Y 0] 378)).update (P:=Pg) encS (t:=365) underlying365 k hk w.heap.size
 unfold encP at hup
 have hhi:=h.hi
 obtain⟨es,clk,hmb,-⟩:=id (hm.alloc (cL #[.string k,X Y t,X Y 0] 378))
 have hf2:Fr [] [qm] base w w2:=(Fr.of_below [] [qm] hb1 hhi).but hmb hbut (by simp) h.lom (nT hhi hb1.size)
 have hx2:Blk w2 w.heap.size 378 #[.string k,X Y t,X Y 0]:=hbut.blk hx1 (fun e=>by rw[e] at hx1;exact(hm.alloc _).ne_blk hx1 rfl)
 have hW2:=hp.fr hf2 (by simp) (by simp) (by simp)
 have hnp:∀(j:Nat) (y:It),l[j]? =some y→y.p≠w.heap.size:=fun j y hy=>Nat.ne_of_lt (hp.its j y hy).2.2.lt
 have CP:=jH (heappush_any base qp qm l.length c w.heap.size A k t l _ w2 hW2 hx2 hhi ht hnp (by omega))
 have HM:=jH (aI hm2 (aI hpm (aI hf2 (aI hget h))))
 have hq:=hp.blk.lt
 have d1:decide ((1024:Int)≤(l.length:Int))=false:=decide_eq_false (by omega)
 have HL:=jH hlt
 have e1:((l.length:Int)≥1024)=False:=by simp;omega
 clear e1
 clear h hp hm hpm hget hhi hf2 hx2 hW2 hnp hbut hm2 hx1 hb1 hmb hs2 hlt hnew
 go_enter func180,ntmps180
 go_wp2_with fail
 refine CP.out.mono ?_
 rintro e w3 ⟨rfl,⟨A3,c3,l3,hU,hW3⟩,hf3⟩
 have hfr:=((HM.out.2.2.1.q qp (by simp)).mono (K':=[369,376,378]) (M':=[qm]) (by simp) (by simp)).trans (hf3.mono (fun _ h=>h) (M':=[qm]) (by simp))
 have HE:Hid (NewR l ⟨w.heap.size,k,t⟩ l3∧DuAt w3 base qp qm l3∧FrQ qp [369,376,378] [qm] base w w3):=by
  have hlen:l3.length=l.length + 1:=by have:=hU.perm.length_eq;simpa using this
  refine⟨hU,⟨⟨_,_,hlen▸hW3⟩,⟨_,hf3.mapIs HM.out.1 (by simp),?_⟩,HM.out.2.2.2.2.lom,by have:=HL.out;omega⟩,hfr⟩
  have h1:mput m k w.heap.size=m++[(k,w.heap.size)]:=by
   unfold mput
   rw[if_neg]
   intro hany
   obtain⟨q,hq,he⟩:=List.any_eq_true.1 hany
   exact mget_eq_none.1 HM.out.2.2.2.1 q hq (by simpa using he)
  rw[h1]
  refine(HM.out.2.1.append_right _).trans ?_
  refine List.Perm.trans ?_ (hU.perm.map _).symm
  simp[kps]
 clear hfr hU hW3 hf3
 go_wp2_with fail
 go_ret
 exact⟨rfl,⟨_,l3,HE.out.1,HE.out.2.1⟩,HE.out.2.2⟩
end
section
open Go.RowKit Go.Maps
theorem dudrop_none (base qp qm:Nat)(l:List It)(k:ByteArray)(hk:okS k)(hno:∀x∈l,x.key≠k)(w:World)(h:DuAt w base qp qm l):Calls Pg 227 #[PT (some ⟨qp,0,none⟩),.string k] w fun e w'=>e=rT (bL false)∧w=w':=by
 obtain⟨m,hm,hpm⟩:=h.mp
 have CF:=jH (dufind_any base qp qm l m k hk w h hm)
 rw[DuAt.none_ hpm hno] at CF
 unfold ptrO at CF
 clear h hm hpm hno
 go_enter func227,ntmps227
 go_wp2_with fail
 refine CF.out.mono ?_
 rintro e w1 ⟨rfl,rfl⟩
 go_wp2_with fail
 go_ret
 exact⟨rfl,rfl⟩
theorem dudrop_some (base qp qm i:Nat)(l:List It)(x:It)(w:World)(h:DuAt w base qp qm l)(hx:l[i]? =some x)(hk:okS x.key):
  Calls Pg 227 #[PT (some ⟨qp,0,none⟩),.string x.key] w fun e w'=>e=rT (bL true)∧(∃l1,RemR l i l1∧DuAt w' base qp qm (l1.take (l.length - 1)))∧FrQ qp [369,376,378] [qm] base w w':=by
 obtain⟨m,hm,hpm⟩:=h.mp
 have CF:=jH (dufind_any base qp qm l m x.key hk w h hm)
 rw[h.get hm hpm hx] at CF
 obtain⟨A,c,hp⟩:=h.hp
 obtain⟨hil,-⟩:=List.getElem?_eq_some_iff.1 hx
 obtain⟨g,rfl,-,-⟩:=own_head hp.row (by omega)
 obtain⟨n,hn⟩:∃n,l.length=n + 1:=⟨l.length - 1,by omega⟩
 rw[hn] at hp
 have c2:w.drew.cell? ⟨x.p,2,none⟩=some (X Y i):=(hp.its i x hx).2.2.cell 2
 have CR:=jH (heapremove_any base qp qm g n c i l x w.drew (hp.made (bR _ _).drew) hx (by have:=h.few;omega))
 have H:=jH (aI h (aI hm (aI hpm (aI hx hn))))
 have HK:=jH hk
 obtain⟨xp,xk,xt⟩:=x
 dsimp only at *
 unfold ptrO encP at CF
 clear h hm hpm hp hx hil hn hk
 go_enter func227,ntmps227
 go_wp2_with fail
 refine CF.out.mono ?_
 rintro e w1 ⟨rfl,rfl⟩
 go_wp2_with fail
 go_region_with (go_at_call 339;(with_reducible refine CR.out.mono ?_);rintro e w1 ⟨⟨v,rfl⟩,⟨l1,hR,hW⟩,hf⟩)
 all_goals
  have hfr1:FrQ qp [369,376,378] [] base w w1:=((FrQ.refl _ _ _ base w).drew).trans hf
  obtain⟨-,c1⟩:=hW.blk.c2
  have hm1:=hfr1.mapIs H.out.2.1 (by simp)
  obtain⟨w2,hdel,hm2,hbut,hs2⟩:=hm1.delete (P:=Pg) (ty:=0) encS (t:=365) underlying365 xk HK.out
  have HE:Hid (RemR l i l1∧DuAt w2 base qp qm (l1.take (l.length - 1))∧FrQ qp [369,376,378] [qm] base w w2):=by
   obtain⟨es,clk,hmb,-⟩:=id hm1
   have hhi:=H.out.1.hi
   have hf2:Fr [] [qm] base w1 w2:=(Fr.refl _ _ base w1).but hmb hbut (by simp) H.out.1.lom hW.hi
   have hlen:=hR.length
   obtain⟨hil,-⟩:=List.getElem?_eq_some_iff.1 H.out.2.2.2.1
   have hl2:(l1.take (l.length - 1)).length=n:=by rw[List.length_take,hlen,H.out.2.2.2.2];omega
   have hn:=H.out.2.2.2.2
   refine⟨hR,⟨⟨some ⟨g,0,none⟩,c,?_⟩,⟨_,hm2,?_⟩,H.out.1.lom,by have:=H.out.1.few;omega⟩,(hfr1.mono (fun _ h=>h) (M':=[qm]) (by simp)).trans ((hf2.q qp (by simp)).mono (by simp) (fun _ h=>h))⟩
   ·rw[hl2,hn]
    exact hW.fr hf2 (by simp) (by simp) (by simp)
   ·have e1:mdel m xk=m.filter (fun p=>¬p.1=xk):=rfl
    rw[e1]
    refine(H.out.2.2.1.filter _).trans ?_
    have hnd:(mkeys (kps l)).Nodup:=by
     have:=H.out.1.keys
     simpa [mkeys,kps,List.map_map,Function.comp_def] using this
    rw[filter_eq_erase (kps l) xk i (xk,xp) (by unfold kps;rw[List.getElem?_map,H.out.2.2.2.1];rfl) rfl hnd]
    have e2:(kps l).eraseIdx i=kps (l.eraseIdx i):=by unfold kps;rw[Go.ChangeMaps.map_eraseIdx]
    rw[e2]
    exact(take_perm l1 l _ i hR.perm H.out.2.2.2.1 (hR.last H.out.2.2.2.1)).symm.map _
  clear hfr1 hm1 hm2 hbut hs2 hR hW hf
  go_wp2_with fail
  go_ret
  exact⟨rfl,⟨l1,HE.out.1,HE.out.2.1⟩,HE.out.2.2⟩
inductive DueR (now:Int):List It→List ByteArray→List It→Prop
 |done (l:List It):(∀x,l[0]? =some x→now < (x.tm:Int))→DueR now l [] l
 |step (l:List It) (x:It) (l1 l':List It) (ks:List ByteArray):l[0]? =some x→(x.tm:Int)≤now→RemR l 0 l1→DueR now (l1.take (l.length - 1)) ks l'→DueR now l (x.key::ks) l'
def sv (ks:List ByteArray):List Value:=ks.map Value.string
theorem infoStr:(Pg.info? 9).map (fun i=>(i.zero,i.size,i.bytes))=some (some (.string ByteArray.empty),1,16):=by kernel_rfl
theorem dudue_any (base qp qm:Nat)(l:List It)(now:Int)(hok:∀x∈l,okS x.key)(w:World)(h:DuAt w base qp qm l):
  Calls Pg 215 #[PT (some ⟨qp,0,none⟩),X Y now] w fun e w'=>(∃v n ks l',e=rT v∧n=ks.length∧w'.ownsRow base 9 1 v n (sv ks)∧DueR now l ks l'∧DuAt w' base qp qm l')∧FrQ qp [369,376,378,9] [qm] base w w':=by
 have H:=jH (aI h hok)
 have HR0:Hid (∀ks' l',DueR now l ks' l'→DueR now l ([]++ks') l'):=fun _ _ h=>h
 clear h hok
 go_enter func215,ntmps215
 go_wp2_with fail
 go_loopg [5] l.length (fun gk v wr=>∃(lc:List It) (ks:List ByteArray) (A:Option Addr) (n c:Nat),v=G A n c∧Hid (n=ks.length∧lc.length=gk∧n + gk=l.length)∧wr.ownsRow base 9 1 (G A n c) n (sv ks)∧Hid (∀ks' l',DueR now lc ks' l'→DueR now l (ks++ks') l')∧Hid (∀x∈lc,okS x.key)∧DuAt wr base qp qm lc∧FrQ qp [369,376,378,9] [qm] base w wr)
 case atStart=>exact⟨l,[],none,0,0,rfl,(by show _∧_;simp),⟨rfl,.inl ⟨rfl,rfl⟩⟩,HR0,H.out.2,H.out.1,FrQ.refl _ _ _ _ _⟩
 case round=>
  obtain⟨lc,ks,A,n,c,rfl,hnk,hown,hR,hokc,hW,hfr⟩:=hrel
  have CL:=jH (dulen_any base qp qm lc wr hW)
  obtain⟨A2,c2,hp⟩:=id hW.hp
  have q0:=hp.blk.c1
  have HF:=jH (aI hown (aI hW hfr))
  cases hlc:lc with
  |nil=>
   subst hlc
   have HD:Hid (DueR now [] [] []):=DueR.done _ (by simp)
   clear hown hW hfr hp
   go_wp2_with fail
   refine CL.out.mono ?_
   rintro e w1 ⟨rfl,rfl⟩
   go_wp2_with fail
   go_ret
   exact⟨⟨_,_,ks,[],rfl,hnk.out.1,HF.out.1,by have:=hR.out _ _ HD.out;rwa [List.append_nil] at this,HF.out.2.1⟩,HF.out.2.2⟩
  |cons x rest=>
   have hx:lc[0]? =some x:=by rw[hlc];rfl
   have hpos:0 < lc.length:=by rw[hlc];simp
   clear hlc
   obtain⟨g,rfl,-,-⟩:=own_head hp.row hpos
   have g0:=hp.cell hx
   have x0:=(hp.its 0 x hx).2.2.cell 0
   have x1:=(hp.its 0 x hx).2.2.cell 1
   unfold itC at x0 x1
   unfold encP at g0
   simp only[ga,gz,gN] at x0 x1
   have HX:=jH (aI hx hpos)
   by_cases hle:(x.tm:Int)≤now
   ·have hkx:=hokc.out x (List.mem_of_getElem? hx)
    have d1:decide ((x.tm:Int)≤now)=true:=decide_eq_true hle
    have HLE:=jH hle
    have CD:=jH (fun W hW=>dudrop_some base qp qm 0 lc x W hW hx hkx)
    obtain⟨xp,xk,xt⟩:=x
    dsimp only at *
    have hb0:=hW.hi
    have hlt:lc.length≤1024:=hW.few
    have hgk:=hnk.out.2.1
    have HB:=jH (aI hb0 (aI hlt hgk))
    obtain⟨nl,hnl⟩:∃nl,lc.length=nl:=⟨_,rfl⟩
    rw[hnl] at CL hpos q0
    have HNL:=jH hnl
    clear hW hfr hp hx hle hkx hgk hlt hnl
    go_wp2_with fail
    refine CL.out.mono ?_
    rintro e w1 ⟨rfl,rfl⟩
    go_wp2_with (at_builtin;refine stop_ ?_)
    refine on_ ?_
    refine wpList_append_s rfl (.tmp 32) (.tmp 34) _ rfl 9 _ infoStr rfl underlying82 base (G A n c) n _ rfl (hown.alloc _) (wr.heap.size + 1) _ 1 1 [.string xk] rfl
     (reads_new _ _ _ _ 1 _ _ (by rfl) (by rfl) (by rfl) _ (by rfl)) (by intro u hu;rw[List.mem_singleton.1 hu];rfl) (n + 1) rfl (by have:=hnk.out.2.2;have:=H.out.1.few;omega) (by simp;omega) ?_
    intro A9 c9 w9 hown9 hb9 hg9 _
    have hf9:FrQ qp [369,376,378,9] [qm] base w w9:=
     HF.out.2.2.trans ((((Fr.of_below [9] [] ((bR _ _).alloc (nR _) (cL #[.string xk] 9)) hb0).grown (hown.alloc (cL #[.string xk] 9)) hg9 (by simp) (nR _) (by simp;omega)).q qp (by decide)).mono (by simp) (by simp))
    have hfs:Fr [9] [] base wr w9:=
     (Fr.of_below [9] [] ((bR _ _).alloc (nR _) (cL #[.string xk] 9)) hb0).grown (hown.alloc (cL #[.string xk] 9)) hg9 (by simp) (nR _) (by simp;omega)
    have hW9:=HF.out.2.1.fr hfs (by decide) (by decide) (by decide) (by simp)
    have C9:=jH (CD.out w9 hW9)
    have HE:=jH (aI hown9 hf9)
    clear hf9 hfs hW9 hb9 hg9 hown9 hown g0 x0 x1 q0
    go_wp2_with fail
    refine C9.out.mono ?_
    rintro e w10 ⟨rfl,⟨l1,hRem,hW10⟩,hf10⟩
    have HG:Hid (RemR lc 0 l1∧DuAt w10 base qp qm (l1.take (lc.length - 1))∧w10.ownsRow base 9 1 (G A9 (n + 1) c9) (n + 1) (sv (ks++[xk]))∧FrQ qp [369,376,378,9] [qm] base w w10):=by
     refine⟨hRem,hW10,?_,HE.out.2.trans (hf10.mono (by simp) (fun _ h=>h))⟩
     have:=hf10.own HE.out.1 (by decide)
     rwa [show sv ks++[Value.string xk]=sv (ks++[xk]) from by simp[sv]] at this
    have hlen:(l1.take (lc.length - 1)).length=gk - 1:=by
     have h1:=hRem.length
     have h2:=HB.out.2.2
     have h3:=HX.out.2
     rw[List.length_take]
     omega
    have HLN:=jH hlen
    clear hRem hW10 hf10 hlen
    go_wp2_with fail
    go_roundg (gk - 1)
    case measure=>have:=HB.out.2.2;have:=HX.out.2;omega
    case rel=>
     refine⟨l1.take (lc.length - 1),ks++[xk],A9,n + 1,c9,rfl,?_,HG.out.2.2.1,fun ks' l' hd=>?_,fun y hy=>?_,HG.out.2.1,HG.out.2.2.2⟩
     ·show _∧_
      have h1:=hnk.out
      have h2:=HX.out.2
      refine⟨by simp;omega,HLN.out,by omega⟩
     ·rw[List.append_assoc]
      exact hR.out _ _ (DueR.step _ _ _ _ _ HX.out.1 HLE.out HG.out.1 hd)
     ·exact hokc.out y (HG.out.1.perm.mem_iff.1 (List.mem_of_mem_take hy))
   ·have d1:decide ((x.tm:Int)≤now)=false:=decide_eq_false hle
    have HD:Hid (DueR now lc [] lc):=DueR.done _ (fun y hy=>by rw[hx] at hy;injection hy with hy;subst hy;omega)
    obtain⟨xp,xk,xt⟩:=x
    dsimp only at *
    obtain⟨nl,hnl⟩:∃nl,lc.length=nl:=⟨_,rfl⟩
    rw[hnl] at CL hpos q0
    have HNL:=jH hnl
    clear hown hW hfr hp hx hle hnl
    go_wp2_with fail
    refine CL.out.mono ?_
    rintro e w1 ⟨rfl,rfl⟩
    go_wp2_with fail
    go_ret
    exact⟨⟨_,_,ks,lc,rfl,hnk.out.1,HF.out.1,by have:=hR.out _ _ HD.out;rwa [List.append_nil] at this,HF.out.2.1⟩,HF.out.2.2⟩
end
section
open Go.RowKit Go.Maps
section
variable {κ ν:Type}{P:Program}{kt t e:TypeId}{ek:κ→Value}{ok:κ→Prop}{ev:ν→Value}{w w':World}{b base:Nat}{m:List (κ×ν)}
theorem MapIs.updF [DecidableEq κ](h:MapIs w ek ok ev b m)(E:Enc P kt ek ok)(ht:P.underlying t=some (.map kt e))(x:κ)(hx:ok x)(v:ν)(hb:base≤b)(hs:base≤w.heap.size):
  ∃w',(Instr.mapUpdate t (.map (some b)) (ek x) (ev v)).run P w=.ok () w'∧MapIs w' ek ok ev b (mput m x v)∧Fr [] [b] base w w'∧w'.heap.size=w.heap.size:=by
 obtain⟨es,clk,hmb,-⟩:=id h
 obtain⟨w',h1,h2,h3,h4⟩:=h.update E ht x hx v
 exact⟨w',h1,h2,(Fr.refl _ _ base w).but hmb h3 (by simp) hb hs,h4⟩
theorem MapIs.delF [DecidableEq κ]{ty:TypeId}(h:MapIs w ek ok ev b m)(E:Enc P kt ek ok)(ht:P.underlying t=some (.map kt e))(x:κ)(hx:ok x)(hb:base≤b)(hs:base≤w.heap.size):
  ∃w',(Builtin.delete_ #[t,kt] ty #[.map (some b),ek x]).run P w=.ok (tU #[]) w'∧MapIs w' ek ok ev b (mdel m x)∧Fr [] [b] base w w'∧w'.heap.size=w.heap.size:=by
 obtain⟨es,clk,hmb,-⟩:=id h
 obtain⟨w',h1,h2,h3,h4⟩:=h.delete (ty:=ty) E ht x hx
 exact⟨w',h1,h2,(Fr.refl _ _ base w).but hmb h3 (by simp) hb hs,h4⟩
end
theorem be_inj:∀(width a b:Nat),a < 256 ^ width→b < 256 ^ width→be a width=be b width→a=b:=by
 intro width
 induction width with
 |zero=>intro a b ha hb _;simp at ha hb;omega
 |succ k ih=>
  intro a b ha hb h
  have split:∀n,be n (k + 1)=be (n / 256) k++[n % 256]:=by
   intro n
   unfold be
   rw[List.range_succ,List.map_append]
   congr 1
   ·apply List.map_congr_left
    intro i hi
    have hi':i < k:=List.mem_range.1 hi
    rw[Nat.div_div_eq_div_mul,←Nat.pow_succ']
    congr 2
    congr 1
    omega
   ·simp
  rw[split a,split b] at h
  obtain⟨h1,h2⟩:=List.append_inj' h rfl
  have h3:=ih (a / 256) (b / 256) (by rw[Nat.div_lt_iff_lt_mul (by omega)];rw[Nat.pow_succ] at ha;omega) (by rw[Nat.div_lt_iff_lt_mul (by omega)];rw[Nat.pow_succ] at hb;omega) h1
  simp at h2
  omega
theorem mayTu_bounds {k:Tu}(h:mayTu k=true):0≤k.proto∧k.proto≤17∧0≤k.sport∧k.sport≤65535∧0≤k.dport∧k.dport≤65535:=by
 unfold mayTu at h
 simp at h
 omega
theorem keyT_inj {a b:Tu}(ha:TuOk a)(hb:TuOk b)(ma:mayTu a=true)(mb:mayTu b=true)(h:keyT a=keyT b):a=b:=by
 have h1:tupB a=tupB b:=by
  have:=(strB_eq (tupB_all a) (tupB_all b)).symm
  have h2:((strB (tupB a)).toList==(strB (tupB b)).toList)=true:=by
   unfold keyT at h
   rw[h]
   simp
  rw[h2] at this
  exact of_decide_eq_true this
 have pa:=mayTu_bounds ma
 have pb:=mayTu_bounds mb
 unfold tupB at h1
 obtain⟨h1,e5⟩:=List.append_inj' h1 (by simp[be_length])
 obtain⟨h1,e4⟩:=List.append_inj' h1 (by simp[be_length])
 obtain⟨h1,e3⟩:=List.append_inj' h1 (by simp[be_length])
 obtain⟨e1,e2⟩:=List.append_inj' h1 (by simp[be_length])
 have un:∀z:Int,0≤z→z≤65535→u64n z=z.toNat:=fun z h0 h1=>by unfold u64n;omega
 rw[un _ pa.1 (by omega),un _ pb.1 (by omega)] at e3
 rw[un _ pa.2.2.1 (by omega),un _ pb.2.2.1 (by omega)] at e4
 rw[un _ pa.2.2.2.2.1 (by omega),un _ pb.2.2.2.2.1 (by omega)] at e5
 have f1:=be_inj 4 _ _ (by simpa using ha.src) (by simpa using hb.src) e1
 have f2:=be_inj 4 _ _ (by simpa using ha.dst) (by simpa using hb.dst) e2
 have f3:=be_inj 1 _ _ (by omega) (by omega) e3
 have f4:=be_inj 2 _ _ (by omega) (by omega) e4
 have f5:=be_inj 2 _ _ (by omega) (by omega) e5
 obtain⟨a1,a2,a3,a4,a5⟩:=a
 obtain⟨b1,b2,b3,b4,b5⟩:=b
 dsimp only at *
 have:a3=b3:=by omega
 have:a4=b4:=by omega
 have:a5=b5:=by omega
 subst f1 f2
 simp_all
structure FlowAt (w:World)(base tp tm tk qp qm most idle:Nat)(fm:List (Tu×Fl))(l:List It):Prop where
 tab:TabAt w base tp tm tk qp most idle fm
 q:DuAt w base qp qm l
 link:(l.map fun x=>(x.key,x.tm)).Perm (fm.map fun p=>(keyT p.1,p.2.seen))
 ok:∀p∈fm,p.2.k=p.1∧FlOk p.2
 nem:qm≠tm
 nek:qm≠tk
 most:most≤256
 few:fm.length≤256
section
variable {w w':World}{base tp tm tk qp qm most idle:Nat}{fm:List (Tu×Fl)}{l:List It}
theorem FlowAt.fr {base':Nat}{K:List TypeId}{M:List Nat}(h:FlowAt w base tp tm tk qp qm most idle fm l)(hf:Fr K M base' w w')(h0:150∉K)(h1:369∉K)(h2:376∉K)(h3:378∉K)(h4:qm∉M)(h5:tm∉M)(h6:tk∉M):FlowAt w' base tp tm tk qp qm most idle fm l:=
 {h with tab:=h.tab.fr hf h0 h5 h6,q:=h.q.fr hf h1 h2 h3 h4}
theorem FlowAt.made (h:FlowAt w base tp tm tk qp qm most idle fm l)(hb:Below w.heap.size w w'):FlowAt w' base tp tm tk qp qm most idle fm l:=
 {h with tab:=h.tab.made hb,q:=h.q.made hb}
theorem FlowAt.hi (h:FlowAt w base tp tm tk qp qm most idle fm l):base≤w.heap.size:=h.q.hi
theorem FlowAt.item (h:FlowAt w base tp tm tk qp qm most idle fm l){k:Tu}{f:Fl}(hf:mget fm k=some f):∃(i:Nat) (x:It),l[i]? =some x∧x.key=keyT k∧x.tm=f.seen:=by
 have h1:(keyT k,f.seen)∈fm.map fun p=>(keyT p.1,p.2.seen):=List.mem_map.2 ⟨(k,f),mget_some hf,rfl⟩
 have h2:=h.link.mem_iff.2 h1
 obtain⟨x,hx,he⟩:=List.mem_map.1 h2
 injection he with e1 e2
 obtain⟨i,hi⟩:=List.getElem?_of_mem hx
 exact⟨i,x,hi,e1,e2⟩
theorem FlowAt.noitem (h:FlowAt w base tp tm tk qp qm most idle fm l){k:Tu}(hk:TuOk k)(hmay:mayTu k=true)(hn:mget fm k=none):∀x∈l,x.key≠keyT k:=by
 intro x hx e
 have h1:=h.link.mem_iff.1 (List.mem_map.2 ⟨x,hx,rfl⟩)
 obtain⟨p,hp,he⟩:=List.mem_map.1 h1
 injection he with e1 e2
 obtain⟨o1,o2⟩:=h.ok p hp
 have:=keyT_inj (o1▸o2.k) hk (o1▸o2.may) hmay (e1.trans e)
 exact mget_eq_none.1 hn p hp this
theorem FlowAt.keyok (h:FlowAt w base tp tm tk qp qm most idle fm l):∀x∈l,okS x.key:=by
 intro x hx
 have h1:=h.link.mem_iff.1 (List.mem_map.2 ⟨x,hx,rfl⟩)
 obtain⟨p,hp,he⟩:=List.mem_map.1 h1
 injection he with e1 e2
 rw[←e1]
 exact keyT_ok _
theorem keysOf_mput {f:Fl}(hok:∀p∈fm,p.2.k=p.1∧FlOk p.2)(hf:FlOk f):mput (keysOf fm) (keyT f.k) f.k=keysOf (mput fm f.k f):=by
 unfold mput keysOf
 have hany:(fm.map fun p=>(keyT p.1,p.1)).any (fun p=>decide (p.1=keyT f.k))=fm.any (fun p=>decide (p.1=f.k)):=by
  rw[List.any_map,Bool.eq_iff_iff,List.any_eq_true,List.any_eq_true]
  constructor
  ·rintro⟨p,hp,he⟩
   obtain⟨o1,o2⟩:=hok p hp
   exact⟨p,hp,by simpa using keyT_inj (o1▸o2.k) hf.k (o1▸o2.may) hf.may (by simpa using he)⟩
  ·rintro⟨p,hp,he⟩
   exact⟨p,hp,by simp at he;simp[he]⟩
 rw[hany]
 by_cases ha:fm.any (fun p=>decide (p.1=f.k))=true
 ·rw[if_pos ha,if_pos ha,List.map_map,List.map_map]
  apply List.map_congr_left
  intro p hp
  obtain⟨o1,o2⟩:=hok p hp
  simp only[Function.comp]
  by_cases he:p.1=f.k
  ·rw[if_pos (by rw[he]),if_pos he]
  ·rw[if_neg (fun e=>he (keyT_inj (o1▸o2.k) hf.k (o1▸o2.may) hf.may e)),if_neg he]
 ·rw[if_neg ha,if_neg ha]
  simp
theorem keysOf_mdel {k:Tu}(hok:∀p∈fm,p.2.k=p.1∧FlOk p.2)(hk:TuOk k)(hmay:mayTu k=true):mdel (keysOf fm) (keyT k)=keysOf (mdel fm k):=by
 unfold mdel keysOf
 rw[List.filter_map]
 congr 1
 apply List.filter_congr
 intro p hp
 obtain⟨o1,o2⟩:=hok p hp
 simp only[Function.comp]
 by_cases he:p.1=k
 ·simp[he]
 ·have:¬keyT p.1=keyT k:=fun e=>he (keyT_inj (o1▸o2.k) hk (o1▸o2.may) hmay e)
  simp[he,this]
end
end
section
open Go.RowKit Go.Maps
def QSet (l:List It)(k:ByteArray)(t:Nat)(l':List It):Prop:=(∃(i:Nat) (x:It),l[i]? =some x∧x.key=k∧SetR l i x t l')∨(∃p,(∀x∈l,x.key≠k)∧NewR l ⟨p,k,t⟩ l')
def KF:List TypeId:=[369,376,378]
theorem duset_any (base qp qm t:Nat)(l:List It)(k:ByteArray)(w:World)(h:DuAt w base qp qm l)(hk:okS k)(ht:t≤1099511627776)(hc:(∃(i:Nat) (x:It),l[i]? =some x∧x.key=k)∨((∀x∈l,x.key≠k)∧l.length < 1024)):
  Calls Pg 180 #[PT (some ⟨qp,0,none⟩),.string k,X Y t] w fun e w'=>e=rT (X Y 0)∧(∃l',QSet l k t l'∧DuAt w' base qp qm l')∧FrQ qp KF [qm] base w w':=by
 rcases hc with⟨i,x,hx,rfl⟩|⟨hno,hlt⟩
 ·refine(duset_old base qp qm i t l x w h hx hk ht).mono ?_
  rintro e w' ⟨rfl,⟨l',hS,hW⟩,hf⟩
  exact⟨rfl,⟨l',.inl ⟨i,x,hx,rfl,hS⟩,hW⟩,(hf.q qp (by decide)).mono (by simp[KF]) (by simp)⟩
 ·refine(duset_new base qp qm t l k w h hk hno ht hlt).mono ?_
  rintro e w' ⟨rfl,⟨p,l',hS,hW⟩,hf⟩
  exact⟨rfl,⟨l',.inr ⟨p,hno,hS⟩,hW⟩,hf.mono (fun _ h=>h) (fun _ h=>h)⟩
theorem link_set {fm:List (Tu×Fl)}{l l':List It}{f:Fl}(hok:∀p∈fm,p.2.k=p.1∧FlOk p.2)(hf:FlOk f)(hkeys:(l.map It.key).Nodup)(hlink:(l.map fun x=>(x.key,x.tm)).Perm (fm.map fun p=>(keyT p.1,p.2.seen)))(hq:QSet l (keyT f.k) f.seen l'):
  (l'.map fun x=>(x.key,x.tm)).Perm ((mput fm f.k f).map fun p=>(keyT p.1,p.2.seen)):=by
 rcases hq with⟨i,x,hx,hxk,hS⟩|⟨p,hno,hN⟩
 ·have hany:fm.any (fun p=>decide (p.1=f.k))=true:=by
   have h1:=hlink.mem_iff.1 (List.mem_map.2 ⟨x,List.mem_of_getElem? hx,rfl⟩)
   obtain⟨p,hp,he⟩:=List.mem_map.1 h1
   injection he with e1 e2
   obtain⟨o1,o2⟩:=hok p hp
   exact List.any_eq_true.2 ⟨p,hp,by simpa using keyT_inj (o1▸o2.k) hf.k (o1▸o2.may) hf.may (e1.trans hxk)⟩
  have h1:=hS.perm.map fun x=>(x.key,x.tm)
  refine h1.trans ?_
  have h2:=hlink.map fun p=>if p.1=keyT f.k then (keyT f.k,f.seen) else p
  have e1:(l.set i {x with tm:=f.seen}).map (fun x=>(x.key,x.tm))=(l.map fun x=>(x.key,x.tm)).map fun p=>if p.1=keyT f.k then (keyT f.k,f.seen) else p:=by
   apply List.ext_getElem?
   intro j
   rw[List.getElem?_map,List.getElem?_map,List.getElem?_map,List.getElem?_set]
   obtain⟨hil,hxi⟩:=List.getElem?_eq_some_iff.1 hx
   split
   ·rename_i e
    subst e
    rw[hx]
    simp[hxk]
   ·rename_i hne
    cases hj:l[j]? with
    |none=>rfl
    |some y=>
     have hyk:y.key≠keyT f.k:=by
      intro e
      obtain⟨hjl,hyj⟩:=List.getElem?_eq_some_iff.1 hj
      have:=(List.getElem_inj (xs:=l.map It.key) (i:=i) (j:=j) (h₀:=by simpa using hil) (h₁:=by simpa using hjl) hkeys).1 (by simp[hxi,hyj,hxk,e])
      exact hne this
     simp[hyk]
  have e2:(mput fm f.k f).map (fun p=>(keyT p.1,p.2.seen))=(fm.map fun p=>(keyT p.1,p.2.seen)).map fun p=>if p.1=keyT f.k then (keyT f.k,f.seen) else p:=by
   unfold mput
   rw[if_pos hany,List.map_map,List.map_map]
   apply List.map_congr_left
   intro p hp
   obtain⟨o1,o2⟩:=hok p hp
   simp only[Function.comp]
   by_cases he:p.1=f.k
   ·rw[if_pos he,if_pos (by rw[he])]
   ·rw[if_neg he,if_neg (fun e=>he (keyT_inj (o1▸o2.k) hf.k (o1▸o2.may) hf.may e))]
  rw[e1,e2]
  exact h2
 ·have hany:¬fm.any (fun p=>decide (p.1=f.k))=true:=by
   intro h
   obtain⟨p,hp,he⟩:=List.any_eq_true.1 h
   have h1:=hlink.mem_iff.2 (List.mem_map.2 ⟨p,hp,rfl⟩)
   obtain⟨x,hx,he2⟩:=List.mem_map.1 h1
   injection he2 with e1 e2
   exact hno x hx (by rw[e1];simp at he;rw[he])
  unfold mput
  rw[if_neg hany]
  have h1:=hN.perm.map fun x=>(x.key,x.tm)
  refine h1.trans ?_
  rw[List.map_append,List.map_append]
  exact hlink.append_right _
theorem mput_few {κ ν:Type}[DecidableEq κ](m:List (κ×ν))(x:κ)(v:ν)(h:x∈mkeys m):(mput m x v).length=m.length:=by
 unfold mput
 rw[if_pos]
 ·simp
 ·obtain⟨p,hp,e⟩:=List.mem_map.1 h
  exact List.any_eq_true.2 ⟨p,hp,by simpa using e⟩
theorem setS_of {w:World}{q tp:Nat}{t1 t2:TypeId}{v0 v1 v2 v3 v4 v5 v6 v7 u0 u1 u2 u3 u4:Value}(hx:Blk w q t1 #[v0,v1,v2,v3,v4,v5,v6,v7])(ht:Blk w tp t2 #[u0,u1,u2,u3,u4]):
  w.cell? ⟨q,0,none⟩=some v0∧w.cell? ⟨q,1,none⟩=some v1∧w.cell? ⟨q,2,none⟩=some v2∧w.cell? ⟨q,3,none⟩=some v3∧w.cell? ⟨q,4,none⟩=some v4∧w.cell? ⟨q,7,none⟩=some v7∧w.cell? ⟨tp,3,none⟩=some u3∧w.cell? ⟨tp,4,none⟩=some u4:=
 ⟨hx.cell 0,hx.cell 1,hx.cell 2,hx.cell 3,hx.cell 4,hx.cell 7,ht.cell 3,ht.cell 4⟩
theorem flset_any (base tp tm tk qp qm most idle:Nat)(fm:List (Tu×Fl))(l:List It)(f:Fl)(hf:FlOk f)(w:World)(h:FlowAt w base tp tm tk qp qm most idle fm l)(hfew:(mput fm f.k f).length≤256):
  Calls Pg 183 #[PT (some ⟨tp,0,none⟩),flV f] w fun e w'=>e=rT (tU #[])∧(∃l',QSet l (keyT f.k) f.seen l'∧FlowAt w' base tp tm tk qp qm most idle (mput fm f.k f) l')∧FrQ qp KF [tm,tk,qm] base w w':=by
 have hcase:(∃(i:Nat) (x:It),l[i]? =some x∧x.key=keyT f.k)∨((∀x∈l,x.key≠keyT f.k)∧l.length < 1024):=by
  cases hg:mget fm f.k with
  |some f0=>
   obtain⟨i,x,h1,h2,_⟩:=h.item hg
   exact .inl ⟨i,x,h1,h2⟩
  |none=>
   refine .inr ⟨h.noitem hf.k hf.may hg,?_⟩
   have h1:=h.link.length_eq
   have h2:=h.few
   simp at h1
   omega
 have CS:=jH (fun W hW=>duset_any base qp qm f.seen l (keyT f.k) W hW (keyT_ok _) hf.seen hcase)
 have CK:=jH (fun W=>flkey_any f.k hf.k W)
 have HKO:Hid (okS (keyT f.k)):=keyT_ok f.k
 have hb0:=(bR w.heap.size w).alloc (nR _) (.cells f.vals 47)
 have hx0:=Blk.new w 47 f.vals
 have h0:=h.made hb0
 obtain⟨w1,hup1,hm1,hf1,hs1⟩:=(h0.tab.mf.drew).updF (P:=Pg) (base:=base) encT (t:=147) underlying147 f.k hf.k f h0.tab.lom h0.hi
 have hx1:=hf1.blk _ _ _ hx0.drew (by simp)
 have ht1:=hf1.blk _ _ _ h0.tab.blk.drew (by simp)
 have hk1:=hf1.mapIs h0.tab.ks.drew (by simpa using h.tab.ne.symm)
 have hq1:=(h0.q.made (bR _ _).drew).fr hf1 (by simp) (by simp) (by simp) (by simpa using h.nem)
 have HKM:=jH (keysOf_mput h.ok hf)
 have H:=jH (aI h (aI hf hfew))
 have HF1:Hid (FrQ qp KF [tm,tk,qm] base w w1):=(((FrQ.refl qp KF [tm,tk,qm] base w).made hb0 h.hi).drew).trans ((hf1.q qp (by simp)).mono (by simp) (by simp))
 obtain⟨-,-,b2⟩:=h0.tab.blk.c3
 have H1:=jH (aI hm1 (aI hk1 (aI hq1 (aI hx1 ht1))))
 obtain⟨⟨src,dst,proto,sport,dport⟩,be0,g0,seen⟩:=f
 unfold tupV flV at hup1
 unfold flV
 unfold tupV at CK
 unfold Tu.vals Fl.vals at *
 dsimp only at *
 clear h hf hfew h0 hb0 hm1 hf1 hs1 hx1 ht1 hk1 hq1 hcase hx0
 have htp:tp < w.heap.size:=H.out.1.tab.blk.lt
 go_enter func183,ntmps183
 go_wp2_with fail
 go_region
 all_goals
  obtain⟨q,hq⟩:∃q,q=w.heap.size:=⟨_,rfl⟩
  have HQ:=jH hq
  rw[←hq] at H1⊢
  clear hq hup1 b2 htp
  have d0:=setS_of H1.out.2.2.2.1.drew H1.out.2.2.2.2.drew
  have hb1:base≤w1.heap.size:=H1.out.2.2.1.hi
  go_wp2_with fail
  go_region_held3 (fun wS=>wS.cell? ⟨q,0,none⟩=some (X Z src)∧wS.cell? ⟨q,1,none⟩=some (X Z dst)∧wS.cell? ⟨q,2,none⟩=some (X Y proto)∧wS.cell? ⟨q,3,none⟩=some (X Y sport)∧wS.cell? ⟨q,4,none⟩=some (X Y dport)∧wS.cell? ⟨q,7,none⟩=some (X Y seen)∧wS.cell? ⟨tp,3,none⟩=some (.map (some tk))∧wS.cell? ⟨tp,4,none⟩=some (PT (some ⟨qp,0,none⟩))) (first|with_reducible exact d0|with_reducible exact d1|with_reducible exact d2|fail)
   (first|(go_at_call 290;(with_reducible refine(CK.out _).mono ?_);rintro e w2 ⟨rfl,hb2⟩;have hb12:=((bR w1.heap.size w1).drew).trans hb2;have y2:=H1.out.2.2.2.1.drew.below hb2 H1.out.2.2.2.1.lt;have z2:=H1.out.2.2.2.2.drew.below hb2 H1.out.2.2.2.2.lt;have d1:=setS_of y2 z2;obtain⟨w3,hup2,hm3,hf3,hs3⟩:=(H1.out.2.1.below hb12 H1.out.2.1.lt).updF (P:=Pg) (base:=base) encS (t:=148) underlying148 _ HKO.out ⟨src,dst,proto,sport,dport⟩ H.out.1.tab.lok (nT hb1 hb12.size);unfold tupV Tu.vals at hup2;dsimp only at hup2;have y3:=hf3.blk _ _ _ y2 (by simp);have z3:=hf3.blk _ _ _ z2 (by simp);have d2:=setS_of y3 z3))
  all_goals
   have hb12:=((bR w1.heap.size w1).drew).trans hb2
   have HG:Hid (MapIs w3 tupV TuOk flV tm (mput fm ⟨src,dst,proto,sport,dport⟩ ⟨⟨src,dst,proto,sport,dport⟩,be0,g0,seen⟩)∧MapIs w3 Value.string okS tupV tk (keysOf (mput fm ⟨src,dst,proto,sport,dport⟩ ⟨⟨src,dst,proto,sport,dport⟩,be0,g0,seen⟩))∧DuAt w3 base qp qm l∧FrQ qp KF [tm,tk,qm] base w w3):=
    ⟨hf3.mapIs (H1.out.1.below hb12 H1.out.1.lt) (by simpa using H.out.1.tab.ne),HKM.out▸hm3,(H1.out.2.2.1.made hb12).fr hf3 (by simp) (by simp) (by simp) (by simpa using H.out.1.nek),(HF1.out.made hb12 hb1).trans ((hf3.q qp (by simp)).mono (by simp) (by simp))⟩
   have HY:=jH (aI y3 z3)
   have hb3:base≤w3.heap.size:=HG.out.2.2.1.hi
   clear hb12 hb2 y2 z2 d0 d1 d2 hup2 hm3 hf3 hs3 y3 z3
   have e0:=setS_of HY.out.1.drew HY.out.2.drew
   go_wp2_with fail
   go_region_held3 (fun wS=>wS.cell? ⟨q,0,none⟩=some (X Z src)∧wS.cell? ⟨q,1,none⟩=some (X Z dst)∧wS.cell? ⟨q,2,none⟩=some (X Y proto)∧wS.cell? ⟨q,3,none⟩=some (X Y sport)∧wS.cell? ⟨q,4,none⟩=some (X Y dport)∧wS.cell? ⟨q,7,none⟩=some (X Y seen)∧wS.cell? ⟨tp,3,none⟩=some (.map (some tk))∧wS.cell? ⟨tp,4,none⟩=some (PT (some ⟨qp,0,none⟩))) (first|with_reducible exact e0|with_reducible exact e1|with_reducible exact e2|fail)
    (first
     |(go_at_call 290;(with_reducible refine(CK.out _).mono ?_);rintro e w4 ⟨rfl,hb4⟩;have hb34:=((bR w3.heap.size w3).drew).trans hb4;have y4:=HY.out.1.drew.below hb4 HY.out.1.lt;have z4:=HY.out.2.drew.below hb4 HY.out.2.lt;have e1:=setS_of y4 z4;have C4:=CS.out w4 (HG.out.2.2.1.made hb34))
     |(go_at_call 180;(with_reducible refine C4.mono ?_);rintro e w5 ⟨rfl,⟨l',hQ5,hD5⟩,hf5⟩;have y5:=hf5.blk _ _ _ y4 (by decide);have z5:=hf5.blk _ _ _ z4 (by decide);have e2:=setS_of y5 z5))
   all_goals
    have hf35:FrQ qp KF [tm,tk,qm] base w w5:=(HG.out.2.2.2.made hb34 hb3).trans (hf5.mono (fun _ h=>h) (by simp))
    have HE:Hid (QSet l (keyT ⟨src,dst,proto,sport,dport⟩) seen l'∧FlowAt w5 base tp tm tk qp qm most idle (mput fm ⟨src,dst,proto,sport,dport⟩ ⟨⟨src,dst,proto,sport,dport⟩,be0,g0,seen⟩) l'∧FrQ qp KF [tm,tk,qm] base w w5):=by
     refine⟨hQ5,{tab:=⟨H.out.1.tab.lot,H.out.1.tab.lom,H.out.1.tab.lok,H.out.1.tab.ne,z5,?_,?_⟩,q:=hD5,link:=?_,ok:=?_,nem:=H.out.1.nem,nek:=H.out.1.nek,most:=H.out.1.most,few:=H.out.2.2},hf35⟩
     ·exact hf5.mapIs (HG.out.1.below hb34 HG.out.1.lt) (by simpa using H.out.1.nem.symm)
     ·exact hf5.mapIs (HG.out.2.1.below hb34 HG.out.2.1.lt) (by simpa using H.out.1.nek.symm)
     ·exact link_set (f:=⟨⟨src,dst,proto,sport,dport⟩,be0,g0,seen⟩) H.out.1.ok H.out.2.1 H.out.1.q.keys H.out.1.link hQ5
     ·intro p hp
      rcases mput_mem hp with hp|rfl
      ·exact H.out.1.ok p hp
      ·exact⟨rfl,H.out.2.1⟩
    clear hf35 hQ5 hD5 hf5 y5 z5 e0 e1 e2 y4 z4 C4 hb34 hb4
    go_wp2_with fail
    go_end0
    exact⟨rfl,⟨l',HE.out.1,HE.out.2.1⟩,HE.out.2.2⟩
theorem flnew_ok (most idle:Nat)(h1:most≤256)(h2:1≤idle)(h3:idle≤1099511627776)(w:World):Calls Pg 87 #[X Y most,X Y idle] w fun e w'=>(∃tp tm tk qp qm,e=rT (PT (some ⟨tp,0,none⟩))∧FlowAt w' w.heap.size tp tm tk qp qm most idle [] [])∧Below w.heap.size w w':=by
 have hmk1:∀W:World,(Instr.makeMap 147 none).run Pg W=.ok (.map (some W.heap.size)) (W.alloc (.map #[] 0)):=fun _=>rfl
 have hmk2:∀W:World,(Instr.makeMap 148 none).run Pg W=.ok (.map (some W.heap.size)) (W.alloc (.map #[] 0)):=fun _=>rfl
 have d1:min (most:Int) 256=(most:Int):=by omega
 have d2:max 0 (most:Int)=(most:Int):=by omega
 have d3:min (idle:Int) 1099511627776=(idle:Int):=by omega
 have d4:max 1 (idle:Int)=(idle:Int):=by omega
 have HB:=jH (aI h1 (aI h2 h3))
 clear h1 h2 h3
 have CD:=jH (dunew_ok ((w.alloc (.map #[] 0)).alloc (.map #[] 0)))
 go_enter func87,ntmps87
 go_wp2_with fail
 refine CD.out.mono ?_
 rintro e w1 ⟨rfl,hq,hb,hz⟩
 have HZ:=jH (aI hz (aI hq hb))
 clear hz hq hb
 go_wp2_with fail
 go_ret
 obtain⟨hz,hq,hb⟩:=HZ.out
 have m1:MapIs (w.alloc (.map #[] 0)) tupV TuOk flV w.heap.size []:=MapIs.made w
 have m2:MapIs ((w.alloc (.map #[] 0)).alloc (.map #[] 0)) Value.string okS tupV (w.heap.size + 1) []:=by have:=MapIs.made (ek:=Value.string) (ok:=okS) (ev:=tupV) (w.alloc (.map #[] 0));simpa using this
 have hs:((w.alloc (.map #[] 0)).alloc (.map #[] 0)).heap.size=w.heap.size + 2:=by simp
 have m1':=(m1.alloc (.map #[] 0)).below hb (by rw[hs];omega)
 have m2':=m2.below hb (by rw[hs];omega)
 have hbA:=(((bR w.heap.size w).alloc (nR _) (.map #[] 0)).alloc (by simp) (.map #[] 0)).trans (hb.mono (by rw[hs];omega))
 have hbB:=(bR w1.heap.size w1).alloc (nR _) (cL #[X Y most,X Y idle,.map (some w.heap.size),.map (some (w.heap.size + 1)),PT (some ⟨w.heap.size + 2 + 1,0,none⟩)] 150)
 rw[hs] at hq hz
 refine⟨⟨w1.heap.size,w.heap.size,w.heap.size + 1,w.heap.size + 2 + 1,w.heap.size + 2,rfl,?_⟩,hbA.trans (hbB.mono (by omega))⟩
 have hq1:Q0 w1 w.heap.size (w.heap.size + 2 + 1) (w.heap.size + 2):=⟨by omega,by omega,hq.blk,hq.mp⟩
 exact{tab:=⟨by omega,by omega,by omega,by omega,Blk.new w1 _ _,m1'.alloc _,m2'.alloc _⟩,q:=(DuAt.of_q0 hq1 (by omega)).made hbB,link:=List.Perm.refl _,ok:=fun p hp=>(by cases hp),nem:=by omega,nek:=by omega,most:=HB.out.1,few:=by simp}
theorem fltouch_ok (base tp tm tk qp qm most idle now:Nat)(fm:List (Tu×Fl))(l:List It)(f:Fl)(hnow:now≤1099511627776)(hle:f.seen≤now)(w:World)(h:FlowAt w base tp tm tk qp qm most idle fm l)(hg:mget fm f.k=some f):
  Calls Pg 208 #[PT (some ⟨tp,0,none⟩),tupV f.k,X Y now] w fun e w'=>e=rT (bL true)∧(∃l',QSet l (keyT f.k) now l'∧FlowAt w' base tp tm tk qp qm most idle (mput fm f.k {f with seen:=now}) l')∧FrQ qp KF [tm,tk,qm] base w w':=by
 have hok:FlOk f:=(h.ok _ (mget_some hg)).2
 have hok2:FlOk {f with seen:=now}:=⟨hok.k,hok.may,hok.be,hok.gen,hnow⟩
 have hlen:(mput fm f.k {f with seen:=now}).length≤256:=by
  rw[mput_few]
  ·exact h.few
  ·exact List.mem_map.2 ⟨_,mget_some hg,rfl⟩
 have hb0:=(bR w.heap.size w).alloc (nR _) (.cells f.k.vals 39)
 have h0:=h.made hb0
 have CG:=jH (flget_any base tp tm tk qp most idle fm f.k hok.k _ h0.tab)
 rw[hg] at CG
 unfold getRet at CG
 have CT:=jH (fltime_any now hnow)
 have CS:=jH (fun W hW=>flset_any base tp tm tk qp qm most idle fm l {f with seen:=now} hok2 W hW hlen)
 have H:=jH (aI h (aI h0 hb0))
 have d1:decide (f.seen≤now)=true:=decide_eq_true hle
 obtain⟨⟨src,dst,proto,sport,dport⟩,be0,g0,seen⟩:=f
 unfold tupV flV at *
 unfold Tu.vals Fl.vals at *
 dsimp only at *
 clear h h0 hb0 hok hok2 hlen hle hnow hg
 go_enter func208,ntmps208
 go_wp2_with fail
 refine CG.out.mono ?_
 rintro e w1 ⟨rfl,hb1⟩
 have HB1:=jH hb1
 clear hb1
 go_wp2_with fail
 refine(CT.out _).mono ?_
 rintro e w2 ⟨rfl,rfl⟩
 go_wp2_with fail
 have hb2:=HB1.out.trans (((bR w1.heap.size w1).alloc (nR _) (cL #[X Z src,X Z dst,X Y proto,X Y sport,X Y dport,X Y be0,X Y g0,X Y now] 47)).mono HB1.out.size)
 have hbw:=H.out.2.2.trans (hb2.mono H.out.2.2.size)
 have CW:=jH (CS.out _ (H.out.2.1.made hb2))
 have HBW:=jH hbw
 clear hb2 hbw
 refine CW.out.mono ?_
 rintro e w3 ⟨rfl,⟨l',hq,hW⟩,hf⟩
 have HE:=jH (aI hq (aI hW (((FrQ.refl qp KF [tm,tk,qm] base w).made HBW.out H.out.1.hi).trans hf)))
 clear hq hW hf
 go_wp2_with fail
 go_ret
 exact⟨rfl,⟨l',HE.out.1,HE.out.2.1⟩,HE.out.2.2⟩
theorem flput_new (base tp tm tk qp qm most idle:Nat)(fm:List (Tu×Fl))(l:List It)(f:Fl)(hf:FlOk f)(w:World)(h:FlowAt w base tp tm tk qp qm most idle fm l)(hg:mget fm f.k=none)(hlt:fm.length < most):
  Calls Pg 91 #[PT (some ⟨tp,0,none⟩),flV f] w fun e w'=>e=rT (tU #[bL true,X Y 0])∧(∃l',QSet l (keyT f.k) f.seen l'∧FlowAt w' base tp tm tk qp qm most idle (mput fm f.k f) l')∧FrQ qp KF [tm,tk,qm] base w w':=by
 have hlen:(mput fm f.k f).length≤256:=by
  have:=mput_length_le fm f.k f
  have:=h.most
  omega
 have hb0:=(bR w.heap.size w).alloc (nR _) (.cells f.vals 47)
 have h0:=h.made hb0
 have CM:=jH (flmay_ok f hf)
 have CS:=jH (fun W hW=>flset_any base tp tm tk qp qm most idle fm l f hf W hW hlen)
 have hx0:=Blk.new w 47 f.vals
 have hk:=hf.k
 have H:=jH (aI h (aI h0 (aI hb0 hx0)))
 have HL:=jH hlt
 have hmost:=h.most
 have HG:=jH hg
 obtain⟨⟨src,dst,proto,sport,dport⟩,be0,g0,seen⟩:=f
 unfold flV at *
 unfold Fl.vals at *
 dsimp only at *
 obtain⟨q,hq⟩:∃q,q=w.heap.size:=⟨_,rfl⟩
 have HQ:=jH hq
 clear h h0 hb0 hx0 hf hlen hlt hg
 go_enter func91,ntmps91
 go_wp2_with fail
 rw[←hq]
 clear hq
 refine(CM.out _).mono ?_
 rintro e w1 ⟨rfl,hb1⟩
 have hx1:=H.out.2.2.2.below hb1 H.out.2.2.2.lt
 have h1:=H.out.2.1.made hb1
 have hb01:=H.out.2.2.1.trans (hb1.mono H.out.2.2.1.size)
 rw[←HQ.out] at hx1
 have hlk:=h1.tab.mf.drew.lookup (P:=Pg) encT (t:=147) underlying147 (z:=fl0) (by kernel_rfl) ⟨src,dst,proto,sport,dport⟩ hk true
 have hlkA:=fun o=>(h1.tab.mf.alloc o).drew.lookup (P:=Pg) encT (t:=147) underlying147 (z:=fl0) (by kernel_rfl) ⟨src,dst,proto,sport,dport⟩ hk true
 rw[HG.out] at hlk hlkA
 unfold tupV Tu.vals fl0 at hlk hlkA
 simp only[if_true] at hlk hlkA
 have hlen:=fun ty W (hW:MapIs W tupV TuOk flV tm fm)=>hW.len (P:=Pg) (ty:=ty) (t:=147) underlying147
 obtain⟨c0,c1,c2,c3,c4,c5,c6,c7⟩:=hx1.c8
 obtain⟨t0,-,t2⟩:=h1.tab.blk.c3
 have hql:=hx1.lt
 have htl:=h1.tab.blk.lt
 have H1:=jH (aI h1 (aI hb01 hx1))
 clear h1 hb01 hb1 hx1
 go_wp2_with fail
 go_region
 all_goals
  have hb12:Below w1.heap.size w1 (w1.alloc (cL #[X Z 0,X Z 0,X Y 0,X Y 0,X Y 0,X Y 0,X Y 0,X Y 0] 47)).drew:=((bR _ _).alloc (nR _) _).drew
  generalize (w1.alloc (cL #[X Z 0,X Z 0,X Y 0,X Y 0,X Y 0,X Y 0,X Y 0,X Y 0] 47)).drew=w2 at *
  have h2:=H1.out.1.made hb12
  have hx2:=H1.out.2.2.below hb12 H1.out.2.2.lt
  have hln:=fun ty=>hlen ty w2.drew h2.tab.mf
  have t0':w2.drew.cell? ⟨tp,0,none⟩=some (X Y most):=h2.tab.blk.cell 0
  have t2':w2.drew.cell? ⟨tp,2,none⟩=some (.map (some tm)):=h2.tab.blk.cell 2
  clear hlk hlkA hlen c0 c1 c2 c3 c4 c5 c6 c7 t0 t2 hql htl
  obtain⟨n,hn⟩:∃n,fm.length=n:=⟨_,rfl⟩
  rw[hn] at hln
  have d1:decide (most≤n)=false:=decide_eq_false (by have:=HL.out;omega)
  clear hn
  obtain⟨y0,y1,y2,y3,y4,y5,y6,y7⟩:=hx2.drew.c8
  have CW:=jH (CS.out w2.drew (h2.made (bR _ _).drew))
  have HBW:Hid (Below w.heap.size w w2.drew):=(H1.out.2.1.trans (hb12.mono H1.out.2.1.size)).drew
  clear h2 hx2 hb12
  go_wp2_with fail
  go_region
  all_goals
   go_wp2_with fail
   refine CW.out.mono ?_
   rintro e w3 ⟨rfl,⟨l',hq,hW⟩,hf⟩
   have HE:=jH (aI hq (aI hW (((FrQ.refl qp KF [tm,tk,qm] base w).made HBW.out H.out.1.hi).trans hf)))
   clear hq hW hf
   go_wp2_with fail
   go_ret2
   exact⟨rfl,⟨l',HE.out.1,HE.out.2.1⟩,HE.out.2.2⟩
theorem dropS_of {w:World}{q tp:Nat}{t1 t2:TypeId}{v0 v1 v2 v3 v4 u0 u1 u2 u3 u4:Value}(hx:Blk w q t1 #[v0,v1,v2,v3,v4])(ht:Blk w tp t2 #[u0,u1,u2,u3,u4]):
  w.cell? ⟨q,0,none⟩=some v0∧w.cell? ⟨q,1,none⟩=some v1∧w.cell? ⟨q,2,none⟩=some v2∧w.cell? ⟨q,3,none⟩=some v3∧w.cell? ⟨q,4,none⟩=some v4∧w.cell? ⟨tp,2,none⟩=some u2∧w.cell? ⟨tp,3,none⟩=some u3∧w.cell? ⟨tp,4,none⟩=some u4:=
 ⟨hx.cell 0,hx.cell 1,hx.cell 2,hx.cell 3,hx.cell 4,ht.cell 2,ht.cell 3,ht.cell 4⟩
theorem fldrop_gone (base tp tm tk qp qm most idle:Nat)(fm:List (Tu×Fl))(l:List It)(k:Tu)(f:Fl)(hk:TuOk k)(hmay:mayTu k=true)(w:World)(h:TabAt w base tp tm tk qp most idle fm)(hD:DuAt w base qp qm l)(hok:∀p∈fm,p.2.k=p.1∧FlOk p.2)(hg:mget fm k=some f)(hno:∀x∈l,x.key≠keyT k)(hn1:qm≠tm)(hn2:qm≠tk):
  Calls Pg 209 #[PT (some ⟨tp,0,none⟩),tupV k] w fun e w'=>e=rT (bL true)∧TabAt w' base tp tm tk qp most idle (mdel fm k)∧DuAt w' base qp qm l∧Fr [] [tm,tk] base w w':=by
 have hb0:=(bR w.heap.size w).alloc (nR _) (.cells k.vals 39)
 have hx0:=Blk.new w 39 k.vals
 have h0:=h.made hb0
 have CG:=jH (flget_any base tp tm tk qp most idle fm k hk _ h0)
 rw[hg] at CG
 unfold getRet at CG
 have CK:=jH (fun W=>flkey_any k hk W)
 have CD:=jH (fun W hW=>dudrop_none base qp qm l (keyT k) (keyT_ok k) hno W hW)
 have HKM:=jH (keysOf_mdel hok hk hmay)
 have H:=jH (aI h (aI hD (aI h0 (aI hb0 (aI hn1 hn2)))))
 have HX:=jH hx0
 have HKK:=jH hk
 have HKO:Hid (okS (keyT k)):=keyT_ok k
 obtain⟨⟨s2,d2,p2,sp2,dp2⟩,be0,g0,seen⟩:=f
 obtain⟨src,dst,proto,sport,dport⟩:=k
 unfold tupV flV at *
 unfold Tu.vals Fl.vals at *
 dsimp only at *
 obtain⟨q,hq⟩:∃q,q=w.heap.size:=⟨_,rfl⟩
 have HQ:=jH hq
 rw[←hq] at HX
 clear h h0 hb0 hx0 hD hok hno hn1 hn2 hg hk hmay
 go_enter func209,ntmps209
 go_wp2_with fail
 rw[←hq]
 clear hq
 refine CG.out.mono ?_
 rintro e w1 ⟨rfl,hb1⟩
 have HB1:Hid (Blk w1 q 39 #[X Z src,X Z dst,X Y proto,X Y sport,X Y dport]∧Below w.heap.size w w1):=⟨HX.out.below hb1 HX.out.lt,H.out.2.2.2.1.trans (hb1.mono H.out.2.2.2.1.size)⟩
 clear hb1
 obtain⟨w2,hw2⟩:∃w2,w2=w1.alloc (cL #[X Z s2,X Z d2,X Y p2,X Y sp2,X Y dp2,X Y be0,X Y g0,X Y seen] 47):=⟨_,rfl⟩
 have hb12:Below w1.heap.size w1 w2:=by rw[hw2];exact(bR _ _).alloc (nR _) _
 have hb2:Below w.heap.size w w2:=HB1.out.2.trans (hb12.mono HB1.out.2.size)
 have hx2:=HB1.out.1.below hb12 HB1.out.1.lt
 have h2:=H.out.1.made hb2
 have hD2:=H.out.2.1.made hb2
 have hhi:base≤w2.heap.size:=hD2.hi
 obtain⟨w3,hdel3,hm3,hf3,hs3⟩:=(h2.mf.drew).delF (P:=Pg) (base:=base) (ty:=0) encT (t:=147) underlying147 _ HKK.out h2.lom hhi
 unfold tupV Tu.vals at hdel3
 dsimp only at hdel3
 obtain⟨c0,c1,c2,c3,c4,u2,u3,u4⟩:=dropS_of hx2 h2.blk
 have hx3:=hf3.blk _ _ _ hx2.drew (by simp)
 have ht3:=hf3.blk _ _ _ h2.blk.drew (by simp)
 have hk3:=hf3.mapIs h2.ks.drew (by simpa using h2.ne.symm)
 have hD3:=(hD2.made (bR _ _).drew).fr hf3 (by simp) (by simp) (by simp) (by simpa using H.out.2.2.2.2.1)
 have hf03:Fr [] [tm,tk] base w w3:=((Fr.of_below [] [tm,tk] hb2 H.out.2.1.hi).drew).trans (hf3.mono (by simp) (by simp))
 have H3:=jH (aI hm3 (aI hk3 (aI hD3 (aI hf03 (aI hx3 ht3)))))
 have HW2:=jH hw2
 clear hw2 hb12 hb2 hx2 h2 hD2 hm3 hf3 hs3 hx3 ht3 hk3 hD3 hf03
 go_wp2_with fail
 rw[←HW2.out]
 go_region
 all_goals
  have d0:=dropS_of H3.out.2.2.2.2.1.drew H3.out.2.2.2.2.2.drew
  have hb3:base≤w3.heap.size:=H3.out.2.2.1.hi
  clear c0 c1 c2 c3 c4 u2 u3 u4 hdel3
  go_wp2_with fail
  go_region_held3 (fun wS=>wS.cell? ⟨q,0,none⟩=some (X Z src)∧wS.cell? ⟨q,1,none⟩=some (X Z dst)∧wS.cell? ⟨q,2,none⟩=some (X Y proto)∧wS.cell? ⟨q,3,none⟩=some (X Y sport)∧wS.cell? ⟨q,4,none⟩=some (X Y dport)∧wS.cell? ⟨tp,2,none⟩=some (.map (some tm))∧wS.cell? ⟨tp,3,none⟩=some (.map (some tk))∧wS.cell? ⟨tp,4,none⟩=some (PT (some ⟨qp,0,none⟩))) (first|with_reducible exact d0|with_reducible exact d1|with_reducible exact d2|fail)
   (first|(go_at_call 290;(with_reducible refine(CK.out _).mono ?_);rintro e w4 ⟨rfl,hb4⟩;have hb34:=((bR w3.heap.size w3).drew).trans hb4;have y4:=H3.out.2.2.2.2.1.drew.below hb4 H3.out.2.2.2.2.1.lt;have z4:=H3.out.2.2.2.2.2.drew.below hb4 H3.out.2.2.2.2.2.lt;have d1:=dropS_of y4 z4;obtain⟨w5,hdel5,hm5,hf5,hs5⟩:=(H3.out.2.1.below hb34 H3.out.2.1.lt).delF (P:=Pg) (base:=base) (ty:=0) encS (t:=148) underlying148 _ HKO.out H.out.1.lok (nT hb3 hb34.size);have y5:=hf5.blk _ _ _ y4 (by simp);have z5:=hf5.blk _ _ _ z4 (by simp);have d2:=dropS_of y5 z5))
  all_goals
   have hb34:=((bR w3.heap.size w3).drew).trans hb4
   have HG:Hid (MapIs w5 tupV TuOk flV tm (mdel fm ⟨src,dst,proto,sport,dport⟩)∧MapIs w5 Value.string okS tupV tk (keysOf (mdel fm ⟨src,dst,proto,sport,dport⟩))∧DuAt w5 base qp qm l∧Fr [] [tm,tk] base w w5):=
    ⟨hf5.mapIs (H3.out.1.below hb34 H3.out.1.lt) (by simpa using H.out.1.ne),HKM.out▸hm5,(H3.out.2.2.1.made hb34).fr hf5 (by simp) (by simp) (by simp) (by simpa using H.out.2.2.2.2.2),(H3.out.2.2.2.1.made hb34 hb3).trans (hf5.mono (by simp) (by simp))⟩
   have HY:=jH (aI y5 z5)
   have hb5:base≤w5.heap.size:=HG.out.2.2.1.hi
   clear hb34 hb4 y4 z4 d0 d1 d2 hdel5 hm5 hf5 hs5 y5 z5
   have e0:=dropS_of HY.out.1.drew HY.out.2.drew
   go_wp2_with fail
   go_region_held3 (fun wS=>wS.cell? ⟨q,0,none⟩=some (X Z src)∧wS.cell? ⟨q,1,none⟩=some (X Z dst)∧wS.cell? ⟨q,2,none⟩=some (X Y proto)∧wS.cell? ⟨q,3,none⟩=some (X Y sport)∧wS.cell? ⟨q,4,none⟩=some (X Y dport)∧wS.cell? ⟨tp,2,none⟩=some (.map (some tm))∧wS.cell? ⟨tp,3,none⟩=some (.map (some tk))∧wS.cell? ⟨tp,4,none⟩=some (PT (some ⟨qp,0,none⟩))) (first|with_reducible exact e0|with_reducible exact e1|fail)
    (first
     |(go_at_call 290;(with_reducible refine(CK.out _).mono ?_);rintro e w6 ⟨rfl,hb6⟩;have hb56:=((bR w5.heap.size w5).drew).trans hb6;have y6:=HY.out.1.drew.below hb6 HY.out.1.lt;have z6:=HY.out.2.drew.below hb6 HY.out.2.lt;have e1:=dropS_of y6 z6;have C6:=CD.out w6 (HG.out.2.2.1.made hb56))
     |(go_at_call 227;(with_reducible refine C6.mono ?_);rintro e w7 ⟨rfl,rfl⟩))
   all_goals
    have HE:Hid (TabAt w6 base tp tm tk qp most idle (mdel fm ⟨src,dst,proto,sport,dport⟩)∧DuAt w6 base qp qm l∧Fr [] [tm,tk] base w w6):=
     ⟨⟨H.out.1.lot,H.out.1.lom,H.out.1.lok,H.out.1.ne,z6,HG.out.1.below hb56 HG.out.1.lt,HG.out.2.1.below hb56 HG.out.2.1.lt⟩,HG.out.2.2.1.made hb56,HG.out.2.2.2.made hb56 hb5⟩
    clear hb56 hb6 y6 z6 e0 e1 C6
    go_wp2_with fail
    go_ret
    exact⟨rfl,HE.out.1,HE.out.2.1,HE.out.2.2⟩
def dels (fm:List (Tu×Fl))(ts:List Tu):List (Tu×Fl):=ts.foldl mdel fm
theorem dels_snoc (fm:List (Tu×Fl))(ts:List Tu)(k:Tu):dels fm (ts++[k])=mdel (dels fm ts) k:=by simp[dels]
theorem dels_cons (fm:List (Tu×Fl))(ts:List Tu)(k:Tu):dels fm (k::ts)=dels (mdel fm k) ts:=rfl
theorem dels_mem:∀(ts:List Tu) (fm:List (Tu×Fl)) (p:Tu×Fl),p∈dels fm ts→p∈fm∧p.1∉ts
 |[],fm,p,h=>⟨h,by simp⟩
 |k::ts,fm,p,h=>by
  obtain⟨h1,h2⟩:=dels_mem ts (mdel fm k) p h
  have h3:=(List.mem_filter.1 h1).2
  simp at h3
  exact⟨mdel_sub h1,by simp[h2,h3]⟩
theorem dels_get:∀(ts:List Tu) (fm:List (Tu×Fl)) (k:Tu),k∉ts→mget (dels fm ts) k=mget fm k
 |[],_,_,_=>rfl
 |x::ts,fm,k,h=>by
  rw[dels_cons,dels_get ts (mdel fm x) k (fun e=>h (List.mem_cons_of_mem _ e)),mget_mdel_other _ (fun e=>h (by rw[e];simp))]
abbrev itL (l:List It):List (ByteArray×Nat):=l.map fun x=>(x.key,x.tm)
abbrev flL (fm:List (Tu×Fl)):List (ByteArray×Nat):=fm.map fun p=>(keyT p.1,p.2.seen)
theorem link_del {fm:List (Tu×Fl)}{l:List It}{i:Nat}{x:It}{k:Tu}(hok:∀p∈fm,p.2.k=p.1∧FlOk p.2)(hk:TuOk k)(hmay:mayTu k=true)(hkeys:(l.map It.key).Nodup)(hlink:(itL l).Perm (flL fm))(hx:l[i]? =some x)(hxk:x.key=keyT k):
  (itL (l.eraseIdx i)).Perm (flL (mdel fm k)):=by
 have h1:=hlink.filter (fun p=>¬p.1=keyT k)
 have h2:(itL l).filter (fun p=>¬p.1=keyT k)=itL (l.eraseIdx i):=by
  rw[filter_eq_erase (itL l) (keyT k) i (x.key,x.tm) (by unfold itL;rw[List.getElem?_map,hx];rfl) hxk (by simpa [mkeys,itL,List.map_map,Function.comp_def] using hkeys)]
  unfold itL
  rw[Go.ChangeMaps.map_eraseIdx]
 have h3:(flL fm).filter (fun p=>¬p.1=keyT k)=flL (mdel fm k):=by
  unfold flL mdel
  rw[List.filter_map]
  congr 1
  apply List.filter_congr
  intro p hp
  obtain⟨o1,o2⟩:=hok p hp
  simp only[Function.comp]
  by_cases he:p.1=k
  ·simp[he]
  ·have:¬keyT p.1=keyT k:=fun e=>he (keyT_inj (o1▸o2.k) hk (o1▸o2.may) hmay e)
   simp[he,this]
 rw[h2,h3] at h1
 exact h1
theorem due_flows {now:Int}{l l':List It}{ks:List ByteArray}(hd:DueR now l ks l'):∀(fm:List (Tu×Fl)),(mkeys fm).Nodup→(∀p∈fm,p.2.k=p.1∧FlOk p.2)→(l.map It.key).Nodup→(itL l).Perm (flL fm)→
  ∃fs:List Fl,ks=fs.map (fun f=>keyT f.k)∧(∀f∈fs,mget fm f.k=some f∧(f.seen:Int)≤now)∧(fs.map Fl.k).Nodup∧(itL l').Perm (flL (dels fm (fs.map Fl.k))):=by
 induction hd with
 |done l _=>
  intro fm _ _ _ hlink
  exact⟨[],rfl,by simp,by simp,hlink⟩
 |step l x l1 l' ks hx hle hR hd ih=>
  intro fm hnd hok hkeys hlink
  have h1:=hlink.mem_iff.1 (List.mem_map.2 ⟨x,List.mem_of_getElem? hx,rfl⟩)
  obtain⟨p,hp,he⟩:=List.mem_map.1 h1
  injection he with e1 e2
  obtain⟨o1,o2⟩:=hok p hp
  have hk:TuOk p.1:=o1▸o2.k
  have hmay:mayTu p.1=true:=o1▸o2.may
  have hperm:(l1.take (l.length - 1)).Perm (l.eraseIdx 0):=take_perm l1 l x 0 hR.perm hx (hR.last hx)
  have hl2:=(hperm.map fun y=>(y.key,y.tm)).trans (link_del hok hk hmay hkeys hlink hx e1.symm)
  have hk2:((l1.take (l.length - 1)).map It.key).Nodup:=by
   refine((hperm.map It.key).nodup_iff).2 ?_
   rw[Go.ChangeMaps.map_eraseIdx]
   exact hkeys.sublist (List.eraseIdx_sublist _ _)
  obtain⟨fs,g1,g2,g3,g4⟩:=ih (mdel fm p.1) (mdel_nodup hnd) (fun q hq=>hok q (mdel_sub hq)) hk2 hl2
  have hget:mget fm p.1=some p.2:=mget_mem hnd hp
  have hne:∀f∈fs,f.k≠p.1:=by
   intro f hf e
   have:=(g2 f hf).1
   rw[e,mget_mdel_same] at this
   cases this
  refine⟨p.2::fs,by rw[List.map_cons,o1,←g1,e1],?_,?_,?_⟩
  ·intro f hf
   rcases List.mem_cons.1 hf with rfl|hf
   ·exact⟨by rw[o1];exact hget,by omega⟩
   ·have h3:=g2 f hf
    rw[mget_mdel_other _ (hne f hf)] at h3
    exact h3
  ·rw[List.map_cons,List.nodup_cons]
   refine⟨fun hm=>?_,g3⟩
   obtain⟨f,hf,e⟩:=List.mem_map.1 hm
   exact hne f hf (e.trans o1)
  ·rw[List.map_cons,dels_cons,o1]
   exact g4
theorem DueR.len {now:Int}{l l':List It}{ks:List ByteArray}(hd:DueR now l ks l'):ks.length + l'.length=l.length:=by
 induction hd with
 |done l _=>simp
 |step l x l1 l' ks hx hle hR hd ih=>
  have h1:=hR.length
  obtain⟨h2,-⟩:=List.getElem?_eq_some_iff.1 hx
  rw[List.length_take,h1] at ih
  simp only[List.length_cons]
  omega
theorem due_gone {fm:List (Tu×Fl)}{l':List It}{ts:List Tu}(hok:∀p∈fm,p.2.k=p.1∧FlOk p.2)(hlink:(itL l').Perm (flL (dels fm ts))){k:Tu}(hk:TuOk k)(hmay:mayTu k=true)(hm:k∈ts):∀x∈l',x.key≠keyT k:=by
 intro x hx e
 have h1:=hlink.mem_iff.1 (List.mem_map.2 ⟨x,hx,rfl⟩)
 obtain⟨p,hp,he⟩:=List.mem_map.1 h1
 injection he with e1 e2
 obtain⟨h2,h3⟩:=dels_mem ts fm p hp
 obtain⟨o1,o2⟩:=hok p h2
 have:=keyT_inj (o1▸o2.k) hk (o1▸o2.may) hmay (e1.trans e)
 exact h3 (this▸hm)
def flvs (fs:List Fl):List Value:=fs.flatMap fun f=>f.vals.toList
theorem flvs_length (fs:List Fl):(flvs fs).length=fs.length * 8:=by
 induction fs with
 |nil=>rfl
 |cons f r ih=>simp[flvs,Fl.vals] at *;omega
theorem flvs_append (a b:List Fl):flvs (a++b)=flvs a++flvs b:=by simp[flvs]
theorem flvs_one (fs:List Fl):∀u∈flvs fs,u.oneCell'=true:=by
 intro u hu
 obtain⟨f,_,h⟩:=List.mem_flatMap.1 hu
 simp[Fl.vals] at h
 rcases h with rfl|rfl|rfl|rfl|rfl|rfl|rfl|rfl<;>rfl
theorem infoFl8:(Pg.info? 47).map (fun i=>(i.zero,i.size,i.bytes))=some (some (aG #[X Z 0,X Z 0,X Y 0,X Y 0,X Y 0,X Y 0,X Y 0,X Y 0]),8,56):=by kernel_rfl
def KI:List TypeId:=KF++[9,47]
theorem flidle_ok (base tp tm tk qp qm most idle now:Nat)(fm:List (Tu×Fl))(l:List It)(hnow:now≤1099511627776)(hidle:idle≤1099511627776)(w:World)(h:FlowAt w base tp tm tk qp qm most idle fm l):
  Calls Pg 112 #[PT (some ⟨tp,0,none⟩),X Y now] w fun e w'=>(∃v fs l',e=rT v∧w'.ownsRow base 47 8 v fs.length (flvs fs)∧DueR ((now:Int) - (idle:Int)) l (fs.map fun f=>keyT f.k) l'∧(∀f∈fs,mget fm f.k=some f)∧FlowAt w' base tp tm tk qp qm most idle (dels fm (fs.map Fl.k)) l')∧FrQ qp KI [tm,tk,qm] base w w':=by
 have CD:=jH (dudue_any base qp qm l ((now:Int) - (idle:Int)) h.keyok w.drew (h.q.made (bR _ _).drew))
 have hx:∀W,Blk W tp 150 #[X Y most,X Y idle,.map (some tm),.map (some tk),PT (some ⟨qp,0,none⟩)]→W.cell? ⟨tp,1,none⟩=some (X Y idle)∧W.cell? ⟨tp,4,none⟩=some (PT (some ⟨qp,0,none⟩)):=fun W hW=>⟨hW.cell 1,hW.cell 4⟩
 have d0:=hx _ h.tab.blk.drew
 obtain⟨-,t1⟩:=h.tab.blk.c2
 have e1:IntKind.i64.wrap (-9223372036854775808 + (idle:Int))=-9223372036854775808 + (idle:Int):=IntWalk.i64_in _ (by omega)
 have e2:decide ((now:Int) < -9223372036854775808 + (idle:Int))=false:=decide_eq_false (by omega)
 have e3:IntKind.i64.wrap ((now:Int) - (idle:Int))=(now:Int) - (idle:Int):=IntWalk.i64_in _ (by omega)
 have HXX:=jH hx
 have H:=jH h
 clear h hx
 go_enter func112,ntmps112
 go_wp2_with fail
 go_region_held3 (fun wS=>wS.cell? ⟨tp,1,none⟩=some (X Y idle)∧wS.cell? ⟨tp,4,none⟩=some (PT (some ⟨qp,0,none⟩))) (first|with_reducible exact d0|with_reducible exact d1|fail)
  (first|(go_at_call 215;(with_reducible refine CD.out.mono ?_);rintro e w1 ⟨⟨v,n,ks,l',rfl,hnk,hown,hdr,hW⟩,hf⟩;have HNK:Hid (ks.length=n):=hnk.symm;clear hnk;have d1:=HXX.out _ (hf.blk _ _ _ H.out.tab.blk.drew (by decide));obtain⟨A,c,rfl⟩:=own_slice hown))
 all_goals
  obtain⟨fs,hks,hfs,hfn,hlk⟩:=due_flows hdr fm (H.out.tab.mf.nodup encT) H.out.ok H.out.q.keys H.out.link
  have hlen:fs.length=ks.length:=by rw[hks];simp
  have hT1:=(H.out.tab.made (bR _ _).drew).fr hf.toFr (by decide) (by simpa using H.out.nem.symm) (by simpa using H.out.nek.symm)
  have HP:=jH (aI hks (aI hfs (aI hfn (aI hlk (aI hdr hlen)))))
  have hkl:ks.length≤1024:=by
   have h1:=hdr.len
   have h3:=H.out.q.few
   omega
  have HW:=jH (aI hW (aI hown (aI hT1 (((FrQ.refl qp KI [tm,tk,qm] base w).drew).trans (hf.mono (by decide) (by simp))))))
  rw[HNK.out] at hkl
  have HN:=jH HNK.out
  clear hW hown hT1 hf hks hfs hfn hlk hdr hlen d0 d1 t1 e1 e2 e3 hnow hidle HNK
  go_wp2_with fail
  go_loopg [5,32] n (fun gk o i wr=>∃(j:Nat) (A2:Option Addr) (c2:Nat),i=X Y j∧o=G A2 j c2∧Hid (j + gk=n)∧wr.ownsRow base 47 8 (G A2 j c2) j (flvs (fs.take j))∧wr.ownsRow base 9 1 (G A n c) n (sv ks)∧TabAt wr base tp tm tk qp most idle (dels fm ((fs.take j).map Fl.k))∧DuAt wr base qp qm l'∧FrQ qp KI [tm,tk,qm] base w wr)
  case atStart=>exact⟨0,none,0,rfl,rfl,(by show _=_;omega),⟨rfl,.inl ⟨rfl,rfl⟩⟩,HW.out.2.1,HW.out.2.2.1,HW.out.1,HW.out.2.2.2⟩
  case round=>
   obtain⟨j,A2,c2,rfl,rfl,hgk,hout,hstr,hT,hD,hfr⟩:=hrel
   by_cases hlt:j < n
   ·have HA:=jH (aI hout (aI hstr (aI hT (aI hD hfr))))
    have hjf:j < fs.length:=by have:=HP.out.2.2.2.2.2;have:=HN.out;omega
    obtain⟨f,hfj⟩:∃f,fs[j]? =some f:=⟨_,List.getElem?_eq_getElem hjf⟩
    have hfmem:=List.mem_of_getElem? hfj
    obtain⟨hget,-⟩:=HP.out.2.1 f hfmem
    have hfok:FlOk f:=(H.out.ok _ (mget_some hget)).2
    have hnot:f.k∉(fs.take j).map Fl.k:=by
     intro hm
     obtain⟨f2,hf2,he⟩:=List.mem_map.1 hm
     obtain⟨i2,hi2⟩:=List.getElem?_of_mem hf2
     rw[List.getElem?_take] at hi2
     split at hi2
     ·rename_i hlt2
      obtain⟨hi2l,hi2e⟩:=List.getElem?_eq_some_iff.1 hi2
      obtain⟨hjl,hje⟩:=List.getElem?_eq_some_iff.1 hfj
      have:=(List.getElem_inj (xs:=fs.map Fl.k) (i:=i2) (j:=j) (h₀:=by simpa using hi2l) (h₁:=by simpa using hjl) HP.out.2.2.1).1 (by simp[hi2e,hje,he])
      omega
     ·cases hi2
    have hget2:mget (dels fm ((fs.take j).map Fl.k)) f.k=some f:=by rw[dels_get _ _ _ hnot];exact hget
    have hok2:∀p∈dels fm ((fs.take j).map Fl.k),p.2.k=p.1∧FlOk p.2:=fun p hp=>H.out.ok p (dels_mem _ _ _ hp).1
    have hgone:∀x∈l',x.key≠keyT f.k:=due_gone H.out.ok HP.out.2.2.2.1 hfok.k hfok.may (List.mem_map.2 ⟨f,hfmem,rfl⟩)
    have hkj:ks[j]? =some (keyT f.k):=by rw[HP.out.1,List.getElem?_map,hfj];rfl
    obtain⟨g,rfl,-,-⟩:=own_head hstr (by omega)
    have g0:wr.cell? ⟨g,j,none⟩=some (.string (keyT f.k)):=own_cell1 hstr (by unfold sv;rw[List.getElem?_map,hkj];rfl)
    have hkeyget:mget (keysOf (dels fm ((fs.take j).map Fl.k))) (keyT f.k)=some f.k:=by
     refine mget_mem (hT.ks.nodup encS) ?_
     exact List.mem_map.2 ⟨(f.k,f),mget_some hget2,rfl⟩
    have t3:=hT.blk.cell 3
    obtain⟨-,-,t2⟩:=hT.blk.c3
    simp only[ga,gz,gN] at t3
    have hlk3:=hT.ks.lookup (P:=Pg) encS (t:=148) underlying148 (z:=aG #[X Z 0,X Z 0,X Y 0,X Y 0,X Y 0]) (by kernel_rfl) (keyT f.k) (keyT_ok _) false
    rw[hkeyget] at hlk3
    simp only[if_false,Bool.false_eq_true] at hlk3
    have hsn:fs.take (j + 1)=fs.take j++[f]:=by rw[List.take_add_one,hfj];rfl
    have HS:=jH (aI hget2 (aI hok2 (aI hgone (aI hfok hsn))))
    have hjn:j≤1024:=by omega
    clear hout hstr hT hD hfr hjf hfj hfmem hget hfok hnot hget2 hok2 hgone hkj hkeyget hsn
    obtain⟨⟨src,dst,proto,sport,dport⟩,be0,g00,seen⟩:=f
    unfold tupV Tu.vals at hlk3
    dsimp only at *
    go_wp2_with fail
    obtain⟨wa,hwa⟩:∃wa,wa=wr.alloc (cL #[X Z src,X Z dst,X Y proto,X Y sport,X Y dport] 39):=⟨_,rfl⟩
    rw[←hwa]
    have hbA:Below wr.heap.size wr wa:=by rw[hwa];exact(bR _ _).alloc (nR _) _
    have hxA:Blk wa wr.heap.size 39 #[X Z src,X Z dst,X Y proto,X Y sport,X Y dport]:=by rw[hwa];exact Blk.new _ _ _
    obtain⟨q,hq⟩:∃q,q=wr.heap.size:=⟨_,rfl⟩
    rw[←hq] at hxA⊢
    have HBA:=jH hbA
    have hbase:base≤wr.heap.size:=HA.out.2.2.2.1.hi
    have houtA:=own_below HA.out.1 hbA
    have hTA:=HA.out.2.2.1.made hbA
    have hba:base≤wa.heap.size:=nT hbase hbA.size
    have hlk2:=hTA.mf.drew.lookup (P:=Pg) encT (t:=147) underlying147 (z:=fl0) (by kernel_rfl) ⟨src,dst,proto,sport,dport⟩ HS.out.2.2.2.1.k false
    rw[HS.out.1] at hlk2
    unfold tupV flV Tu.vals Fl.vals at hlk2
    simp only[if_false,Bool.false_eq_true] at hlk2
    obtain⟨-,-,u2⟩:=hTA.blk.c3
    obtain⟨x0,x1,x2,x3,x4⟩:=hxA.c5
    have HXA:=jH hxA
    have HTA:=jH hTA
    have HWA:=jH hwa
    clear hwa hbA hxA hq hTA t2 t3 hlk3 g0
    go_region_law (refine step_append_k rfl (.tmp 42) (.tmp 49) _ rfl 8 56 47 _ infoFl8 rfl (by omega) (by omega) underlying42 base (G A2 j c2) j (flvs (fs.take j)) (by simp[Act.eval,Act.put]) (houtA.alloc _) (wa.heap.size + 1) (some ⟨wa.heap.size,0,none⟩) 1 1 [X Z src,X Z dst,X Y proto,X Y sport,X Y dport,X Y be0,X Y g00,X Y seen] (by simp[Act.eval,Act.put]) (reads_news _ _ _ _ 1 8 _ _ (by rfl) (by rfl) (by rfl) _ (by rfl)) (flvs_one [⟨⟨src,dst,proto,sport,dport⟩,be0,g00,seen⟩]) (j + 1) rfl (by omega) (by simp;omega) ?_;intro A9 c9 w9 hown9 hb9 hg9 hat9)
    all_goals
     have fr8:Fr [47] [] base wa w9:=(((Fr.of_below [47] [] ((bR wa.heap.size wa).alloc (nR _) (cL #[X Z src,X Z dst,X Y proto,X Y sport,X Y dport,X Y be0,X Y g00,X Y seen] 47)) hba).drew).grown (houtA.alloc (cL #[X Z src,X Z dst,X Y proto,X Y sport,X Y dport,X Y be0,X Y g00,X Y seen] 47)) hg9 (by simp) (nR _) (by show base≤(wa.alloc _).heap.size;simp;omega))
     have hx9:=fr8.blk _ _ _ HXA.out (by decide)
     obtain⟨y0,y1,y2,y3,y4⟩:=hx9.c5
     have CQ:=jH (fldrop_gone base tp tm tk qp qm most idle (dels fm ((fs.take j).map Fl.k)) l' ⟨src,dst,proto,sport,dport⟩ _ HS.out.2.2.2.1.k HS.out.2.2.2.1.may w9 (HTA.out.fr fr8 (by decide) (by simp) (by simp)) ((HA.out.2.2.2.1.made HBA.out).fr fr8 (by decide) (by decide) (by decide) (by simp)) HS.out.2.1 HS.out.1 HS.out.2.2.1 H.out.nem H.out.nek)
     have HE:Hid (w9.ownsRow base 47 8 (G A9 (j + 1) c9) (j + 1) (flvs (fs.take (j + 1)))∧w9.ownsRow base 9 1 (G (some ⟨g,0,none⟩) n c) n (sv ks)∧FrQ qp KI [tm,tk,qm] base w w9):=by
      refine⟨?_,fr8.own (own_below HA.out.2.1 HBA.out) (by decide),(HA.out.2.2.2.2.made HBA.out hbase).trans ((fr8.q qp (by decide)).mono (by decide) (by simp))⟩
      rw[HS.out.2.2.2.2,flvs_append]
      exact hown9
     clear fr8 hx9 hown9 hb9 hg9 hat9 x0 x1 x2 x3 x4 u2 hlk2 houtA
     go_wp2_with fail
     refine CQ.out.mono ?_
     rintro e w10 ⟨rfl,hT10,hD10,hf10⟩
     have HG:Hid (w10.ownsRow base 47 8 (G A9 (j + 1) c9) (j + 1) (flvs (fs.take (j + 1)))∧w10.ownsRow base 9 1 (G (some ⟨g,0,none⟩) n c) n (sv ks)∧TabAt w10 base tp tm tk qp most idle (dels fm ((fs.take (j + 1)).map Fl.k))∧DuAt w10 base qp qm l'∧FrQ qp KI [tm,tk,qm] base w w10):=by
      refine⟨hf10.own HE.out.1 (by simp),hf10.own HE.out.2.1 (by simp),?_,hD10,HE.out.2.2.trans ((hf10.q qp (by simp)).mono (by simp) (by simp))⟩
      rw[HS.out.2.2.2.2,List.map_append,List.map_cons,List.map_nil,dels_snoc]
      exact hT10
     clear hT10 hD10 hf10 y0 y1 y2 y3 y4
     go_wp2_with fail
     go_roundg (gk - 1)
     case measure=>have:=hgk.out;omega
     case rel=>exact⟨j + 1,A9,c9,by go_num,rfl,(by show _=_;have:=hgk.out;omega),HG.out.1,HG.out.2.1,HG.out.2.2.1,HG.out.2.2.2.1,HG.out.2.2.2.2⟩
   ·have hj:j=n:=by have:=hgk.out;omega
    have hjf:fs.length=j:=by have:=HP.out.2.2.2.2.2;have:=HN.out;omega
    have ht:fs.take j=fs:=List.take_of_length_le (by omega)
    rw[ht] at hout hT
    have HE:=jH (aI hout (aI hT (aI hD hfr)))
    have HJ:=jH (aI hj hjf)
    have d1:decide ((j:Int) < (n:Int))=false:=decide_eq_false (by omega)
    clear hout hT hD hfr hstr ht hj hjf
    go_wp2_with fail
    go_ret
    have hfew:(dels fm (fs.map Fl.k)).length≤256:=by
     have h1:=HP.out.2.2.2.1.length_eq
     have h2:=HP.out.2.2.2.2.1.len
     have h3:=H.out.link.length_eq
     have h4:=H.out.few
     simp[itL,flL] at h1 h3
     omega
    refine⟨⟨_,fs,l',rfl,by rw[HJ.out.2];exact HE.out.1,by rw[←HP.out.1];exact HP.out.2.2.2.2.1,fun f hf=>(HP.out.2.1 f hf).1,?_⟩,HE.out.2.2.2⟩
    exact{tab:=HE.out.2.1,q:=HE.out.2.2.1,link:=HP.out.2.2.2.1,ok:=fun p hp=>H.out.ok p (dels_mem _ _ _ hp).1,nem:=H.out.nem,nek:=H.out.nek,most:=H.out.most,few:=hfew}
end
section
open Go.RowKit Go.Maps Go.Shelf Go.Sort
theorem cmpZ_lt (a b:Int):cmpZ a b < 0↔a < b:=by unfold cmpZ;(repeat' split)<;>omega
theorem orZ_lt (x:Int)(r:List Int):orZ (x::r) < 0↔(x < 0∨(x=0∧orZ r < 0)):=by
 show (if x≠0 then x else orZ r) < 0↔_
 split<;>omega
theorem cmpZ_eq (a b:Int):cmpZ a b=0↔a=b:=by unfold cmpZ;(repeat' split)<;>omega
theorem orZ_nil:¬orZ [] < 0:=by decide
theorem lessT_iff (a b:Tu):lessT a b=true↔((a.src:Int) < b.src∨((a.src:Int)=b.src∧((a.dst:Int) < b.dst∨((a.dst:Int)=b.dst∧(a.proto < b.proto∨(a.proto=b.proto∧(a.sport < b.sport∨(a.sport=b.sport∧a.dport < b.dport)))))))):=by
 unfold lessT
 simp only[decide_eq_true_eq,orZ_lt,cmpZ_lt,cmpZ_eq,orZ_nil,and_false,or_false]
theorem lessT_false (a b:Tu):lessT a b=false↔¬((a.src:Int) < b.src∨((a.src:Int)=b.src∧((a.dst:Int) < b.dst∨((a.dst:Int)=b.dst∧(a.proto < b.proto∨(a.proto=b.proto∧(a.sport < b.sport∨(a.sport=b.sport∧a.dport < b.dport)))))))):=by
 rw[←lessT_iff,Bool.not_eq_true]
def cmpF (x y:Fl):Int:=if lessT x.k y.k=true then -1 else 1
theorem cmpF_lt (x y:Fl):ltOf cmpF x y=lessT x.k y.k:=by
 unfold ltOf cmpF
 cases lessT x.k y.k<;>rfl
theorem lessT_irrefl (a:Tu):lessT a a=false:=by rw[lessT_false];omega
theorem lessT_trans (a b c:Tu)(h:lessT a b=true)(k:lessT b c=true):lessT a c=true:=by
 rw[lessT_iff] at *
 omega
theorem lessT_ntrans (a b c:Tu)(h:lessT a b=false)(k:lessT b c=false):lessT a c=false:=by
 rw[lessT_false] at *
 omega
theorem swoF:SWO (ltOf cmpF) where
 irrefl x:=by rw[cmpF_lt];exact lessT_irrefl _
 trans x y z h k:=by rw[cmpF_lt] at *;exact lessT_trans _ _ _ h k
 ntrans x y z h k:=by rw[cmpF_lt] at *;exact lessT_ntrans _ _ _ h k
def flE (f:Fl):List Value:=f.vals.toList
instance:Inhabited Fl:=⟨⟨⟨0,0,0,0,0⟩,0,0,0⟩⟩
theorem flE_len (f:Fl):(flE f).length=8:=rfl
theorem flvs_get:∀(fs:List Fl) (t:Nat),t < fs.length * 8→(flvs fs)[t]? =some ((flE (fs[t / 8]!))[t % 8]!)
 |[],t,h=>by simp at h
 |f::r,t,h=>by
  have e0:flvs (f::r)=flE f++flvs r:=by simp[flvs,flE]
  rw[e0]
  by_cases ht:t < 8
  ·rw[List.getElem?_append_left (by rw[flE_len];exact ht),Nat.div_eq_of_lt ht,Nat.mod_eq_of_lt ht]
   have h3:t < (flE f).length:=by rw[flE_len];exact ht
   rw[List.getElem?_eq_getElem h3]
   simp[h3]
  ·rw[List.getElem?_append_right (by rw[flE_len];omega),flE_len,flvs_get r (t - 8) (by simp at h;omega)]
   have h1:t / 8=(t - 8) / 8 + 1:=by omega
   have h2:(t - 8) % 8=t % 8:=by omega
   rw[h2,h1]
   simp
theorem flatK_fl (fs:List Fl):(flatK flE 8 fs.toArray).toList=flvs fs:=by
 apply List.ext_getElem?
 intro t
 by_cases ht:t < fs.length * 8
 ·rw[flvs_get fs t ht]
  simp[flatK,ht]
 ·rw[List.getElem?_eq_none (by simp[flatK];omega),List.getElem?_eq_none (by rw[flvs_length];omega)]
theorem flatK_size (fs:List Fl):(flatK flE 8 fs.toArray).size=fs.length * 8:=by simp[flatK]
theorem holds_fl {w:World}{g:Nat}{cur:Array Value}{e:TypeId}{fs:List Fl}(hb:w.heap[g]? =some (.cells cur e (0,0)))(ht:cur.toList.take (fs.length * 8)=flvs fs):HoldsK flE 8 w g 0 fs.toArray:=by
 intro j hj
 rw[flatK_size] at hj
 refine⟨?_,by simp[World.frozen?,hb]⟩
 have h1:(cur.toList.take (fs.length * 8))[j]? =(flvs fs)[j]?:=by rw[ht]
 rw[List.getElem?_take_of_lt hj,←flatK_fl fs] at h1
 simp only[World.cell?,hb,Nat.zero_add]
 simp only[Option.isSome_none,Bool.false_eq_true,if_false]
 rw[←Array.getElem?_toList,h1,Array.getElem?_toList]
 have hj2:j < (flatK flE 8 fs.toArray).size:=by rw[flatK_size];exact hj
 rw[getElem!_pos _ j hj2,Array.getElem?_eq_getElem hj2]
 rfl
theorem take_putFl (cur:Array Value)(ts:List Fl)(h:ts.length * 8≤cur.size):(putCells id 0 (flatK flE 8 ts.toArray) cur).toList.take (ts.length * 8)=flvs ts:=by
 apply List.ext_getElem?
 intro j
 by_cases hj:j < ts.length * 8
 ·rw[List.getElem?_take_of_lt hj,←flatK_fl ts,Array.getElem?_toList,Array.getElem?_toList]
  have hj2:j < (flatK flE 8 ts.toArray).size:=by rw[flatK_size];exact hj
  rw[Array.getElem?_eq_getElem hj2,←getElem!_pos _ j hj2]
  simp[putCells,hj,show j < cur.size by omega]
 ·rw[List.getElem?_take_eq_none (by omega),List.getElem?_eq_none (by rw[flvs_length];omega)]
theorem heap_sortedF {w:World}{g n:Nat}{os:Array Obj}{cur:Array Value}{e:TypeId}{fr:Nat×Nat}(d:Array Fl)(hb:w.heap[g]? =some (.cells cur e fr)):
  (sortWorldK flE 8 w g 0 n d os).heap[g]? =some (cL (putCells id 0 (flatK flE 8 d) cur) e fr):=by
 have hg:g < w.heap.size:=(Array.getElem?_eq_some_iff.1 hb).1
 unfold sortWorldK putRowK
 rw[heap_grow_old _ _ (by simpa using hg)]
 simp[putRow,mapBlock,Sort.ahead,Array.getElem?_modify,hb,onCells]
theorem grownBy_sortedF {w:World}{g n:Nat}{os:Array Obj}(d:Array Fl):w.grownBy (sortWorldK flE 8 w g 0 n d os) (some g):=by
 unfold sortWorldK putRowK
 refine⟨rfl,rfl,rfl,by simp,fun k hk hne=>?_⟩
 rw[heap_grow_old _ _ (by simpa using hk)]
 have:g≠k:=fun e=>hne (by rw[e])
 simp[putRow,mapBlock,Sort.ahead,Array.getElem?_modify,this]
theorem own_sortedF {w:World}{base g cap n:Nat}{e:TypeId}{os:Array Obj}{cur:Array Value}{ss ts:List Fl}(hl:ts.length=ss.length)(hbase:base≤g)(hb:w.heap[g]? =some (.cells cur e (0,0)))
  (h1:ss.length≤cap)(h2:cap≤maxLen)(h3:cur.size=cap * 8):
  (sortWorldK flE 8 w g 0 n ts.toArray os).ownsRow base e 8 (G (some ⟨g,0,none⟩) ss.length cap) ss.length (flvs ts):=
 ⟨by rw[flvs_length,hl],.inr ⟨g,cap,_,rfl,hbase,heap_sortedF _ hb,h1,h2,by simp[putCells,h3],by rw[←hl];exact take_putFl cur ts (by omega)⟩⟩
theorem sortF_any (c:Nat)(eg:∀args w,(callFunc c args).run Pg w=.ok (.enter c args) w)
  (hc:∀x y W,Calls Pg c #[flV x,flV y] W fun e w'=>e=rT (X Y (cmpF x y))∧∃q os',w'=grow (W.drewN q) os')
  (v:Value)(fs:List Fl)(base:Nat)(w:World)(h:w.ownsRow base 47 8 v fs.length (flvs fs))(hlen:fs.length≤1000000):
  Calls Pg 137 #[v,.func (.func c) #[] #[]] w fun e w'=>e=rT (tU #[])∧∃fs',fs'.Perm fs∧w'.ownsRow base 47 8 v fs'.length (flvs fs')∧w.grownBy w' v.ownBlock:=by
 have h0:=h
 rcases h.2 with⟨rfl,hn⟩|⟨g,cap,cur,rfl,hbase,hb,h1,h2,h3,h4⟩
 ·refine(AnyF.slices_SortFunc_none sfl6 none 0 (.func (.func c) #[] #[]) w).mono ?_
  rintro e w' ⟨rfl,rfl⟩
  exact⟨rfl,fs,List.Perm.refl _,h0,World.grownBy.refl _ _⟩
 ·have hg:g < w.heap.size:=(Array.getElem?_eq_some_iff.1 hb).1
  have hcl:CmpLays Pg c #[] flE 8 cmpF g 0 fs.toArray.size w:=fun m os dk _ x y=>hc x y _
  have hcon:=AnyQ.slices_SortFunc sfl6 8 (fun w=>Tryz.isAgg47 w) (fun w=>Tryz.sizeOf47 w) flE flE_len (fun x v hv=>by simp[flE,Fl.vals] at hv;rcases hv with rfl|rfl|rfl|rfl|rfl|rfl|rfl|rfl<;>rfl) cmpF swoF c #[] g 0 cap fs.toArray w eg hcl (holds_fl hb h4) hg (by simp;omega)
  refine hcon.mono ?_
  rintro e w' ⟨rfl,d',n,os,hp,hs,rfl⟩
  have hd:d'.toList.Perm fs:=by
   have:=hp.2.2
   have e1:d'.extract 0 fs.toArray.size=d':=by rw[←hp.1];simp
   rw[e1] at this
   simpa using this
  have hl:d'.toList.length=fs.length:=hd.length_eq
  refine⟨rfl,d'.toList,hd,?_,grownBy_sortedF _⟩
  have:=own_sortedF (n:=n) (os:=os) hl hbase hb h1 h2 h3
  rw[hl]
  exact this
end
section
open Go.RowKit Go.Maps Go.Shelf
theorem But.grownBy {p:Nat}{w w':World}(h:But p w w'):w.grownBy w' (some p):=⟨h.os,h.tape,h.output,h.size,fun k hk hne=>h.block k hk (fun e=>hne (by rw[e]))⟩
theorem iter_walks {κ ν:Type}{w w':World}{ek:κ→Value}{ok:κ→Prop}{ev:ν→Value}{r b:Nat}{m left:List (κ×ν)}(h:IterIs w ek ok ev r b m left)(hk:KeepsWalks w w'):IterIs w' ek ok ev r b m left:=by
 have h0:=h
 obtain⟨hne,hm,hs,es,clock,seen,c0,since,g1,g2,rest⟩:=h
 exact h0.kept ((hk.same r _ g1 rfl).trans g1.symm) ((hk.same b _ g2 rfl).trans g2.symm)
theorem vals1_in (n l Bm b:Nat)(hn:1≤n)(m:List (Tu×Fl))(J Jx:List Fl→World→Prop)
  (hY:∀pre x W,J pre W→pre.length < m.length→YieldAt Fence.wide (n - 1) Pg l #[flV x] W fun e W'=>(e=rT (bL true)∧J (pre++[x]) W'∧KeepsWalks W W')∨(e=rT (bL false)∧Jx (pre++[x]) W'))
  (W:World)(hJ:AbidesFrom W.heap.size J)(hm:W.cell? ⟨Bm,0,none⟩=some (.map (some b)))(hown:MapIs W tupV TuOk flV b m)(h0:J [] W):
  CallsIn Fence.wide n Pg 138 #[.func (.yield l) #[] #[],PT (some ⟨Bm,0,none⟩)] W fun e W'=>(∃v,e=rT v)∧((∃xs,xs.Perm (m.map (·.2))∧J xs W')∨(∃pre,True∧Jx pre W')):=by
 obtain⟨w1,hrange,hit,hb1,hs1⟩:=hown.range (P:=Pg) (t:=147) underlying147
 have HJ0:Hid (J [] w1):=hJ [] W w1 none h0 ⟨hb1.os,hb1.tape,hb1.output,hb1.size,fun k hk _=>hb1.block k hk⟩ (fun r e=>by cases e)
 have HI:=jH hit
 clear hit hb1 hs1 h0
 refine callsIn_of_wp func138 rfl trivial ?_ rfl
 simp only[ntmps138,List.size_toArray,List.length_cons,List.length_nil,Nat.reduceAdd,Nat.reduceSub,Array.replicate_succ,Array.replicate_zero,List.push_toArray,List.append_toArray,List.nil_append,List.cons_append]
 gi_wp2
 gi_loopg [4] m.length (fun gk _ wr=>∃(left pre:List (Tu×Fl)),Hid (left.length=gk)∧Hid ((pre++left).Perm m)∧Hid (IterIs wr tupV TuOk flV W.heap.size b m left)∧Hid (J (pre.map (·.2)) wr))
 case atStart=>exact⟨m,[],rfl,(by show List.Perm _ _;simp),HI.out,HJ0.out⟩
 case round=>
  obtain⟨left,pre,hgk,hpm,hit,hJs⟩:=hrel
  rcases hit.out.next (P:=Pg) 0 with⟨hnil,hrun0⟩|⟨p,left',w2,hperm,hpmm,hrun0,hit2,hbut,hs2,hent⟩
  ·have hrun:∀ty,(Instr.next (PT (some ⟨W.heap.size,0,none⟩)) false ty).run Pg wr=.ok (tU #[bL false]) wr:=fun ty=>hrun0
   have HP:Hid (pre.Perm m):=by show List.Perm _ _;have:=hpm.out;rwa [hnil,List.append_nil] at this
   clear hrun0 hnil
   gi_wp2
   go_end0
   exact⟨⟨_,rfl⟩,.inl ⟨pre.map (·.2),HP.out.map _,hJs.out⟩⟩
  ·have hrun:∀ty,(Instr.next (PT (some ⟨W.heap.size,0,none⟩)) false ty).run Pg wr=.ok (tU #[bL true,tupV p.1,flV p.2]) w2:=fun ty=>hrun0
   have hJ2:J (pre.map (·.2)) w2:=hJ _ wr w2 (some W.heap.size) hJs.out hbut.grownBy (fun r e=>by
    cases e
    obtain⟨_,_,_,es,clock,seen,c0,since,g1,_⟩:=hit.out
    exact⟨nR _,_,g1,rfl⟩)
   have HM:=jH hm
   obtain⟨fx,bx⟩:=p
   obtain⟨⟨s2,d2,p2,sp2,dp2⟩,b2,g2,n2⟩:=bx
   unfold flV Fl.vals at hrun hent
   dsimp only at hrun hent
   have hlt:(pre.map (·.2)).length < m.length:=by
    have h1:=hpm.out.length_eq
    have h2:=hperm.length_eq
    simp at h1 h2⊢
    omega
   have hlen:left'.length + 1=gk:=by rw[←hgk.out,hperm.length_eq];rfl
   have HL:=jH hlen
   have hJ3:=hJ _ w2 (w2.alloc (cL (Fl.vals (Fl.mk (Tu.mk s2 d2 p2 sp2 dp2) b2 g2 n2)) 47)) none hJ2 ⟨rfl,rfl,rfl,by simp,fun k hk _=>Below.heap_alloc _ _ k hk⟩ (fun r e=>by cases e)
   obtain⟨fn,tmps,assign,body,hy,hR⟩:=hY (pre.map (·.2)) (Fl.mk (Tu.mk s2 d2 p2 sp2 dp2) b2 g2 n2) _ hJ3 hlt
   unfold flV Fl.vals at hy hR
   dsimp only at hy hR
   have HP2:Hid (((pre++[(fx,(Fl.mk (Tu.mk s2 d2 p2 sp2 dp2) b2 g2 n2))])++left').Perm m):=by
    show List.Perm _ _
    refine List.Perm.trans ?_ hpm.out
    rw[List.append_assoc]
    exact hperm.symm.append_left pre
   have HI2:=jH hit2
   clear hrun0 hrange hJ3 hlt hlen hJ2 hperm hpmm hit2 hbut hs2
   gi_wp2
   refine hR.mono ?_
   rintro e W3 (⟨rfl,hJ3,hk3⟩|⟨rfl,hJx3⟩)
   ·have HE:Hid (IterIs W3 tupV TuOk flV W.heap.size b m left'∧J ((pre++[(fx,(Fl.mk (Tu.mk s2 d2 p2 sp2 dp2) b2 g2 n2))]).map (·.2)) W3):=by
     refine⟨iter_walks (iter_walks HI2.out (KeepsWalks.alloc _ _)) hk3,?_⟩
     rw[List.map_append]
     exact hJ3
    clear hJ3 hk3 hy hR
    gi_wp2
    go_roundg (gk - 1)
    case measure=>have:=HL.out;omega
    case rel=>exact⟨left',_,(by show _=_;have:=HL.out;omega),HP2,HE.out.1,HE.out.2⟩
   ·have HX:=jH hJx3
    clear hJx3 hy hR
    gi_wp2
    refine bodyPost_ret (results_none rfl _ _ _) rfl ?_
    exact⟨⟨_,rfl⟩,.inr ⟨_,trivial,HX.out⟩⟩
theorem vals_stops (n Bm b:Nat)(hn:1≤n)(m:List (Tu×Fl))(w:World)(hBm:Bm < w.heap.size)(hm:w.cell? ⟨Bm,0,none⟩=some (.map (some b)))(hown:MapIs w tupV TuOk flV b m):
  SeqStopsK Fence.wide n Pg 138 #[PT (some ⟨Bm,0,none⟩)] (fun f:Fl=>#[flV f]) KeepsWalks (fun xs=>xs.Perm (m.map (·.2))) (fun _=>True) m.length w:=fun l J Jx W hW hJ _ hY h0=>
 vals1_in n l Bm b hn m J Jx hY W hJ ((hW.cell (p:=⟨Bm,0,none⟩) hBm).trans hm) (hown.below hW hown.lt) h0
theorem own_noncell {W W':World}{row:Option Nat}{base:Nat}{e:TypeId}{size:Nat}{v:Value}{k:Nat}{xs:List Value}(h:W.ownsRow base e size v k xs)(hg:W.grownBy W' row)
  (hrow:∀r,row=some r→∃o:Obj,W.heap[r]? =some o∧o.isCells=false):W'.ownsRow base e size v k xs:=by
 refine h.kept hg ?_
 rcases h.2 with⟨rfl,_⟩|⟨g,cap,cur,rfl,_,hgb,_⟩
 ·exact .inl rfl
 ·refine .inr fun e'=>?_
  obtain⟨o,ho,hw⟩:=hrow g (by simpa [Value.ownBlock] using e'.symm)
  rw[hgb] at ho;cases ho;cases hw
theorem blk_noncell {W W':World}{row:Option Nat}{g:Nat}{t:TypeId}{cs:Array Value}(h:Blk W g t cs)(hg:W.grownBy W' row)(hrow:∀r,row=some r→∃o:Obj,W.heap[r]? =some o∧o.isCells=false):Blk W' g t cs:=
 h.grown hg (fun e=>by
  obtain⟨o,ho,hw⟩:=hrow g e.symm
  have h':W.heap[g]? =some (.cells cs t (0,0)):=h
  rw[h'] at ho;cases ho;cases hw)
def SeqI (w0:World)(pre:List Fl)(W:World):Prop:=∃v,Blk W w0.heap.size 42 #[v]∧W.ownsRow w0.heap.size 47 8 v pre.length (flvs pre)∧Below w0.heap.size w0 W
def SeqAx (w0:World)(svv:Value)(x:Fl)(a':Act)(W:World):Prop:=∃b5,a'={tmps:=#[G none 0 0,svv,PT (some ⟨w0.heap.size,0,none⟩),undef,G none 0 0,PT (some ⟨b5,0,none⟩),svv,flV x,undef,undef,undef,undef,undef],defers:=[]}∧Blk W b5 47 x.vals
theorem appseq_in (n:Nat)(hn:2≤n)(g:Nat)(lb:Array Value)(eg:∀args w,(callFunc g args).run Pg w=.ok (.enter g args) w)(S:List Fl→Prop)(N:Nat)(hN:N≤1000000)(w:World)(hseq:SeqStopsK Fence.wide (n - 1) Pg g lb (fun f:Fl=>#[flV f]) KeepsWalks S (fun _=>True) N w):
  CallsIn Fence.wide n Pg 246 #[G none 0 0,.func (.func g) #[] lb] w fun e w'=>∃(v:Value) (fs:List Fl),e=rT v∧S fs∧w'.ownsRow w.heap.size 47 8 v fs.length (flvs fs)∧Below w.heap.size w w':=by
 refine callsIn_of_wp_marks func246 rfl trivial ?_ rfl
 simp only[ntmps246,List.size_toArray,List.length_cons,List.length_nil,Nat.reduceAdd,Nat.reduceSub,Array.replicate_succ,Array.replicate_zero,List.push_toArray,List.append_toArray,List.nil_append,List.cons_append]
 have HS:=jH hseq
 gi_wp2
 have hb0:Below w.heap.size w (w.alloc (cL #[G none 0 0] 42)):=(bR _ _).alloc (nR _) _
 have hx0:=Blk.new w 42 #[G none 0 0]
 have hz0:(w.alloc (cL #[G none 0 0] 42)).heap.size=w.heap.size + 1:=by simp
 generalize w.alloc (cL #[G none 0 0] 42)=w0 at *
 have hIb:∀pre W,SeqI w pre W→w.heap.size≤W.heap.size:=fun pre W h=>by obtain⟨v,_,_,hb⟩:=h;exact hb.size
 have hI:OwnFrom w0.heap.size (SeqI w):=fun pre A B row hI hg hr=>by
  obtain⟨v,h1,h2,h3⟩:=hI
  have hr2:∀r,row=some r→∃o:Obj,A.heap[r]? =some o∧o.isCells=false:=fun r e=>(hr r e).2
  exact⟨v,blk_noncell h1 hg hr2,own_noncell h2 hg hr2,h3.grown hg h3.size (fun k e=>by have:=(hr k e).1;omega)⟩
 have hAx:∀x a',OwnFrom w0.heap.size (fun(_:Unit) W=>SeqAx w (.func (.func g) #[] lb) x a' W):=fun x a' _ A B row hA hg hr=>by
  obtain⟨b5,h1,h2⟩:=hA
  exact⟨b5,h1,blk_noncell h2 hg (fun r e=>(hr r e).2)⟩
 refine wpIn_rangeFunc_ownH (S:=S) (Sp:=fun _=>True) rfl (by omega) (gf:=g) (lb:=lb) rfl trivial eg HS.out walksK_t walksK_b hb0 (fun _=>rfl) (SeqI w) (fun _ _ _=>False) hI (fun c pre A B row h=>h.elim) ⟨_,hx0,⟨rfl,.inl ⟨rfl,rfl⟩⟩,hb0⟩ (SeqAx w (.func (.func g) #[] lb)) hAx ?assign ?body ?done ?stop
 case assign=>
  intro l pre x W K hI0 hK
  have HI0:=jH hI0
  clear hI0
  obtain⟨⟨s2,d2,p2,sp2,dp2⟩,b2,g2,n2⟩:=x
  unfold flV Fl.vals
  dsimp only
  simp only[List.zip_toArray,List.zip_cons_cons,List.zip_nil_right,List.foldl_toArray',List.size_toArray,List.length_cons,List.length_nil,List.foldl_cons,List.foldl_nil,List.setIfInBounds_toArray,List.set_cons_succ,List.set_cons_zero]
  change Code.wpIn (Fence.wide.inRound l) (n - 1 - 1) Pg _ _ {tmps:=#[G none 0 0,.func (.func g) #[] lb,PT (some ⟨w.heap.size,0,none⟩),undef,G none 0 0,undef,.func (.func g) #[] lb,aG #[X Z s2,X Z d2,X Y p2,X Y sp2,X Y dp2,X Y b2,X Y g2,X Y n2],undef,undef,undef,undef,undef],defers:=[]} W
  gi_wp2_with (rw[Oper.semAt_eq _ _ _ (fun c h=>by cases h)];go_simp;try go_bits)
  refine hK _ _ ?_ ?_ ?_ ?_
  ·exact(KeepsOthers.alloc _ _).from _
  ·exact KeepsWalks.alloc _ _
  ·obtain⟨v,h1,h2,h3⟩:=HI0.out
   exact⟨v,h1.alloc _,h2.alloc _,h3.alloc h3.size _⟩
  ·exact⟨W.heap.size,rfl,Blk.new W _ _⟩
 case body=>
  rintro l pre x a' W hl - hI0 ⟨b5,rfl,hx5⟩ hlen
  obtain⟨v,h1,h2,h3⟩:=hI0
  obtain⟨i0,hi0,hiz,his,hib⟩:=info_parts infoFl8
  have c0:=h1.c1
  have f0:=h1.frozen 0
  have hne:w.heap.size≠b5:=h1.ne_ hx5 (by decide)
  obtain⟨⟨s2,d2,p2,sp2,dp2⟩,b2,g2,n2⟩:=x
  unfold flV Fl.vals at *
  dsimp only at *
  obtain⟨x0,x1,x2,x3,x4,x5,x6,x7⟩:=hx5.c8
  have hbW:w.heap.size≤W.heap.size:=h3.size
  have hg0:=h1.lt
  gi_wp2_with (first
   |(gi_at_builtin;refine stop_ ?_)
   |(rw[Oper.semAt_eq _ _ _ (fun c h=>by cases h)];go_simp;try go_bits))
  refine on_ ?_
  have hrA:=reads_news W 47 (0,0) #[X Z s2,X Z d2,X Y p2,X Y sp2,X Y dp2,X Y b2,X Y g2,X Y n2] 1 8 (W.heap.size + 1) W.heap.size rfl rfl rfl _ rfl
  have hcA:∀(j:Nat) (u:Value),[X Z s2,X Z d2,X Y p2,X Y sp2,X Y dp2,X Y b2,X Y g2,X Y n2][j]? =some u→(W.alloc (cL #[X Z s2,X Z d2,X Y p2,X Y sp2,X Y dp2,X Y b2,X Y g2,X Y n2] 47)).cell? ((⟨W.heap.size,0,none⟩:Addr).add j)=some u:=by
   obtain⟨ad,he,_,hc⟩:=hrA.2 (by omega)
   injection he with he
   subst he
   exact hc
  have HA:=jH (aI h1 (aI h2 (aI h3 hl)))
  refine wpListIn_append_own _ rfl (.tmp 8) (.tmp 10) _ rfl w.heap.size 47 i0 _ 8 56 underlying42 hi0 hiz his hib rfl (by decide) v pre.length (flvs pre) rfl (h2.alloc _) ⟨W.heap.size,0,none⟩ 1 1 _ rfl rfl hcA (flvs_one [Fl.mk (Tu.mk s2 d2 p2 sp2 dp2) b2 g2 n2]) (by unfold maxLen;omega) (by omega) (by simp;omega) ?_
  intro v9 w9 hown9 hg9 _
  have h1A:=h1.alloc (cL #[X Z s2,X Z d2,X Y p2,X Y sp2,X Y dp2,X Y b2,X Y g2,X Y n2] 47)
  have h2A:=h2.alloc (cL #[X Z s2,X Z d2,X Y p2,X Y sp2,X Y dp2,X Y b2,X Y g2,X Y n2] 47)
  have h19:Blk w9 w.heap.size 42 #[v]:=h1A.grown hg9 (fun e=>own_blk_ne h2A h1A (by decide) e.symm)
  have c9:=h19.c1
  have f9:=h19.frozen 0
  obtain⟨A9,k9,rfl⟩:=own_slice hown9
  have HK:Hid (KeepsFrom w0.heap.size W (w9.setCell ⟨w.heap.size,0,none⟩ (G A9 (pre.length + 1) k9))∧KeepsWalks W (w9.setCell ⟨w.heap.size,0,none⟩ (G A9 (pre.length + 1) k9))∧SeqI w (pre++[Fl.mk (Tu.mk s2 d2 p2 sp2 dp2) b2 g2 n2]) (w9.setCell ⟨w.heap.size,0,none⟩ (G A9 (pre.length + 1) k9))):=by
   have hnw:∀(j:Nat) (o:Obj),v.ownBlock=some j→(W.alloc (cL #[X Z s2,X Z d2,X Y p2,X Y sp2,X Y dp2,X Y b2,X Y g2,X Y n2] 47)).heap[j]? =some o→o.isCells=true:=by
    intro j o hj ho
    rcases h2A.2 with⟨rfl,_⟩|⟨g',cap,cur,rfl,_,hgb,_⟩
    ·simp[Value.ownBlock] at hj
    ·have:g'=j:=by simpa [Value.ownBlock] using hj
     subst this;rw[hgb] at ho;cases ho;rfl
   have hsame:∀(k:Nat) (o:Obj),W.heap[k]? =some o→o.isCells=false→(w9.setCell ⟨w.heap.size,0,none⟩ (G A9 (pre.length + 1) k9)).heap[k]? =some o:=by
    intro k o hk ho
    have hkA:=(Below.heap_alloc W (cL #[X Z s2,X Z d2,X Y p2,X Y sp2,X Y dp2,X Y b2,X Y g2,X Y n2] 47) k (Array.getElem?_eq_some_iff.1 hk).1).trans hk
    have hk9:w9.heap[k]? =some o:=(hg9.block k (Array.getElem?_eq_some_iff.1 hkA).1 (fun e=>by have:=hnw k o e.symm hkA;rw[ho] at this;cases this)).trans hkA
    rw[Below.heap_setCell _ _ _ _ (fun e=>?_)]
    ·exact hk9
    ·have e':k=w.heap.size:=e
     subst e'
     have h1':w9.heap[w.heap.size]? =some (cL #[v] 42 (0,0)):=h19
     rw[h1'] at hk9
     cases hk9
     cases ho
   have hsz:W.heap.size≤(w9.setCell ⟨w.heap.size,0,none⟩ (G A9 (pre.length + 1) k9)).heap.size:=by
    have:=hg9.size
    simp at this⊢
    omega
   refine⟨⟨hsz,fun k o _ hk ho=>hsame k o hk ho⟩,⟨hsz,fun k o hk ho=>hsame k o hk (Obj.not_cells_of_walk ho)⟩,_,h19.set_ 0 _,?_,?_⟩
   ·have:=own_set_far hown9 h19 (by decide) 0 (G A9 (pre.length + 1) k9)
    rw[flvs_append,List.length_append]
    exact this
   ·exact((h3.alloc h3.size _).grown hg9 (by simp;omega) (fun k e=>(h2A.lt k e).1)).setCell (p:=⟨w.heap.size,0,none⟩) (nR _) _
  clear hown9 hg9 h1A h2A h19 h1 h2 h3 hcA hrA x0 x1 x2 x3 x4 x5 x6 x7 c0 f0
  gi_wp2_with (rw[Oper.semAt_eq _ _ _ (fun c h=>by cases h)];go_simp;try go_bits)
  exact HK.out
 case done=>
  rintro D xs W hD hS ⟨v,h1,h2,h3⟩ hK
  have c0:=h1.c1
  have HD:=jH (aI hS (aI h2 (aI h3 (aI hD hK))))
  clear hS h2 h3 hK
  gi_wp2
  obtain⟨hS,h2,h3,hD',hK⟩:=HD.out
  refine⟨by simp,.inl ⟨_,_,rfl,run_takeDeferred hK,?_⟩⟩
  exact⟨_,results_tmp rfl _ _ _,v,xs,rfl,hS,own_noncell h2 (grownBy_putObj' W D _) (fun r e=>by cases e;exact⟨_,hK,rfl⟩),h3.grown (grownBy_putObj' W D _) h3.size (fun k e=>by cases e;omega)⟩
 case stop=>
  intro D c pre W hD _ hF
  exact hF.elim
end
section
open Go.RowKit Go.Maps Go.Shelf Go.Sort
theorem keys0_in (n l Bm b:Nat)(hn:1≤n)(J:List Int→World→Prop)
  (W:World)(hJ:AbidesFrom W.heap.size J)(hm:W.cell? ⟨Bm,0,none⟩=some (.map (some b)))(hown:MapIs W intV anyI intV b ([]:List (Int×Int)))(h0:J [] W):
  CallsIn Fence.wide n Pg 135 #[.func (.yield l) #[] #[],PT (some ⟨Bm,0,none⟩)] W fun e W'=>(∃v,e=rT v)∧J [] W':=by
 obtain⟨w1,hrange,hit,hb1,hs1⟩:=hown.range (P:=Pg) (t:=137) underlying137
 have HJ0:Hid (J [] w1):=hJ [] W w1 none h0 ⟨hb1.os,hb1.tape,hb1.output,hb1.size,fun k hk _=>hb1.block k hk⟩ (fun r e=>by cases e)
 have hnx:∀ty,(Instr.next (PT (some ⟨W.heap.size,0,none⟩)) false ty).run Pg w1=.ok (tU #[bL false]) w1:=by
  intro ty
  rcases hit.next (P:=Pg) ty with⟨_,h⟩|⟨p,left',w2,hperm,_⟩
  ·exact h
  ·exact absurd hperm.length_eq (by simp)
 clear hit hb1 hs1 h0
 refine callsIn_of_wp func135 rfl trivial ?_ rfl
 simp only[ntmps135,List.size_toArray,List.length_cons,List.length_nil,Nat.reduceAdd,Nat.reduceSub,Array.replicate_succ,Array.replicate_zero,List.push_toArray,List.append_toArray,List.nil_append,List.cons_append]
 gi_wp2
 gi_loopg [3] 0 (fun gk _ wr=>wr=w1)
 case atStart=>rfl
 case round=>
  subst hrel
  gi_wp2
  go_end0
  exact⟨⟨_,rfl⟩,HJ0.out⟩
theorem keys0_stops (n Bm b:Nat)(hn:1≤n)(w:World)(hBm:Bm < w.heap.size)(hm:w.cell? ⟨Bm,0,none⟩=some (.map (some b)))(hown:MapIs w intV anyI intV b ([]:List (Int×Int))):
  SeqStopsK Fence.wide n Pg 135 #[PT (some ⟨Bm,0,none⟩)] (fun i:Int=>#[X Y i]) KeepsWalks (fun xs=>xs=[]) (fun _=>True) 0 w:=fun l J Jx W hW hJ _ hY h0=>
 (keys0_in n l Bm b hn J W hJ ((hW.cell (p:=⟨Bm,0,none⟩) hBm).trans hm) (hown.below hW hown.lt) h0).mono fun _ _ ⟨h1,h2⟩=>⟨h1,.inl ⟨[],rfl,h2⟩⟩
def Seq0I (w0:World)(pre:List Int)(W:World):Prop:=Blk W w0.heap.size 51 #[G none 0 0]∧Below w0.heap.size w0 W
theorem appseq0_in (n:Nat)(hn:2≤n)(g:Nat)(lb:Array Value)(eg:∀args w,(callFunc g args).run Pg w=.ok (.enter g args) w)(w:World)(hseq:SeqStopsK Fence.wide (n - 1) Pg g lb (fun i:Int=>#[X Y i]) KeepsWalks (fun xs=>xs=[]) (fun _=>True) 0 w):
  CallsIn Fence.wide n Pg 244 #[G none 0 0,.func (.func g) #[] lb] w fun e w'=>e=rT (G none 0 0)∧Below w.heap.size w w':=by
 refine callsIn_of_wp_marks func244 rfl trivial ?_ rfl
 simp only[ntmps244,List.size_toArray,List.length_cons,List.length_nil,Nat.reduceAdd,Nat.reduceSub,Array.replicate_succ,Array.replicate_zero,List.push_toArray,List.append_toArray,List.nil_append,List.cons_append]
 have HS:=jH hseq
 gi_wp2
 have hb0:Below w.heap.size w (w.alloc (cL #[G none 0 0] 51)):=(bR _ _).alloc (nR _) _
 have hx0:=Blk.new w 51 #[G none 0 0]
 have hz0:(w.alloc (cL #[G none 0 0] 51)).heap.size=w.heap.size + 1:=by simp
 generalize w.alloc (cL #[G none 0 0] 51)=w0 at *
 have hI:OwnFrom w0.heap.size (Seq0I w):=fun pre A B row hI hg hr=>by
  obtain⟨h1,h3⟩:=hI
  exact⟨blk_noncell h1 hg (fun r e=>(hr r e).2),h3.grown hg h3.size (fun k e=>by have:=(hr k e).1;omega)⟩
 refine wpIn_rangeFunc_ownH (S:=fun xs:List Int=>xs=[]) (Sp:=fun _=>True) rfl (by omega) (gf:=g) (lb:=lb) rfl trivial eg HS.out walksK_t walksK_b hb0 (fun _=>rfl) (Seq0I w) (fun _ _ _=>False) hI (fun c pre A B row h=>h.elim) ⟨hx0,hb0⟩ (fun _ _ _=>True) (fun _ _ _ _ _ _ _ _ _=>trivial) ?assign ?body ?done ?stop
 case assign=>
  intro l pre x W K hI0 hK
  simp only[List.zip_toArray,List.zip_cons_cons,List.zip_nil_right,List.foldl_toArray',List.size_toArray,List.length_cons,List.length_nil,List.foldl_cons,List.foldl_nil,List.setIfInBounds_toArray,List.set_cons_succ,List.set_cons_zero]
  gi_wp2_with (rw[Oper.semAt_eq _ _ _ (fun c h=>by cases h)];go_simp;try go_bits)
  refine hK _ _ ?_ ?_ ?_ ?_
  ·exact(KeepsOthers.refl _).from _
  ·exact KeepsWalks.refl _
  ·exact hI0
  ·trivial
 case body=>
  rintro l pre x a' W hl - hI0 hA hlen
  exact absurd hlen (by omega)
 case done=>
  rintro D xs W hD rfl ⟨h1,h3⟩ hK
  have c0:=h1.c1
  have HD:=jH (aI h3 (aI hD hK))
  clear h3 hK
  gi_wp2
  obtain⟨h3,hD',hK⟩:=HD.out
  refine⟨by simp,.inl ⟨_,_,rfl,run_takeDeferred hK,?_⟩⟩
  exact⟨_,results_tmp rfl _ _ _,rfl,h3.grown (grownBy_putObj' W D _) h3.size (fun k e=>by cases e;omega)⟩
 case stop=>
  intro D c pre W hD _ hF
  exact hF.elim
theorem collect0_any (g:Nat)(lb:Array Value)(eg:∀args w,(callFunc g args).run Pg w=.ok (.enter g args) w)(w:World)(hseq:SeqStopsK Fence.wide 7 Pg g lb (fun i:Int=>#[X Y i]) KeepsWalks (fun xs=>xs=[]) (fun _=>True) 0 w):
  Calls Pg 133 #[.func (.func g) #[] lb] w fun e w'=>e=rT (G none 0 0)∧Below w.heap.size w w':=by
 have C0:=jH (callsIn_wide.1 (appseq0_in 8 (by omega) g lb eg w hseq))
 clear hseq
 go_enter func133,ntmps133
 go_wp2_with fail
 refine C0.out.mono ?_
 rintro e w1 ⟨rfl,hb⟩
 have HO:=jH hb
 clear hb
 go_wp2
 go_ret
 exact⟨rfl,HO.out⟩
theorem insord0 (w:World):Calls Pg 357 #[G none 0 0,X Y 0,X Y 0] w fun e w'=>e=rT (tU #[])∧w'=w:=by
 go_enter func357,ntmps357
 go_wp2
 refine wp_loop_rounds 1 ?_
 rw[rounds_succ]
 go_wp2
 go_end0
 exact⟨rfl,rfl⟩
theorem pdqord0 (lim:Int)(w:World):Calls Pg 245 #[G none 0 0,X Y 0,X Y 0,X Y lim] w fun e w'=>e=rT (tU #[])∧w'=w:=by
 go_enter func245,ntmps245
 go_wp2
 refine wp_loop_rounds 1 ?_
 rw[rounds_succ]
 go_wp2_with (go_at_call 357;refine(insord0 _).mono ?_;rintro e w' ⟨rfl,rfl⟩)
 (try simp only[Exit.inBlock,Exit.then]);refine bodyPost_ret (results_none rfl _ _ _) rfl ?_
 exact⟨rfl,rfl⟩
theorem bitslen0 (w:World):Calls Pg 188 #[X .u64 0] w fun e w'=>e=rT (X Y 0)∧w'=w:=by
 have h:=Any.bits_Len (SlLaysF0.n15.bits (P:=Pg) (ρ:=sfl6_ren) {sfl6 with}) 0 w (by omega) (by omega)
 exact h
theorem sort0_any (w:World):Calls Pg 134 #[G none 0 0] w fun e w'=>e=rT (tU #[])∧w'=w:=by
 go_enter func134,ntmps134
 go_wp2_with (first|(go_at_call 188;refine(bitslen0 _).mono ?_;rintro e w' ⟨rfl,rfl⟩)|(go_at_call 245;refine(pdqord0 _ _).mono ?_;rintro e w' ⟨rfl,rfl⟩))
 go_end0
 exact⟨rfl,rfl⟩
theorem sorted0_any (Bm b:Nat)(w:World)(hBm:Bm < w.heap.size)(hm:w.cell? ⟨Bm,0,none⟩=some (.map (some b)))(hown:MapIs w intV anyI intV b ([]:List (Int×Int))):
  Calls Pg 55 #[.func (.func 135) #[] #[PT (some ⟨Bm,0,none⟩)]] w fun e w'=>e=rT (G none 0 0)∧Below w.heap.size w w':=by
 have C0:=jH (collect0_any 135 #[PT (some ⟨Bm,0,none⟩)] (enters_of func135 (by kernel_rfl) rfl) w (keys0_stops 7 Bm b (by omega) w hBm hm hown))
 clear hown hm
 go_enter func55,ntmps55
 go_wp2_with fail
 refine C0.out.mono ?_
 rintro e w1 ⟨rfl,hb⟩
 have HO:=jH hb
 clear hb C0
 go_wp2_with (go_at_call 134;refine(sort0_any _).mono ?_;rintro e w' ⟨rfl,rfl⟩)
 go_ret
 exact⟨rfl,HO.out⟩
theorem keys0_any (b:Nat)(w:World):
  Calls Pg 56 #[.map (some b)] w fun e w'=>e=rT (.func (.func 135) #[] #[PT (some ⟨w.heap.size,0,none⟩)])∧w'=w.alloc (cL #[.map (some b)] 137):=by
 go_enter func56,ntmps56
 go_wp2
 go_ret
 exact⟨rfl,rfl⟩
end
section
open Go.RowKit Go.Maps
theorem Dr0.frq {w w':World}{base base' dp dm qp qm qp2:Nat}{K:List TypeId}{M:List Nat}(h:Dr0 w base dp dm qp qm)(hf:FrQ qp2 K M base' w w')(h1:qp≠qp2)(h2:140∉K)(h3:qm∉M)(h4:dm∉M):Dr0 w' base dp dm qp qm:=⟨h.lod,h.lom,h.ne,hf.blk _ _ _ h.blk h2,⟨h.q.loq,h.q.lom,hf.que _ _ h.q.blk h1,hf.mapIs h.q.mp h3⟩,hf.mapIs h.mp h4⟩
theorem drall0 (base dp dm qp qm:Nat)(w:World)(h:Dr0 w base dp dm qp qm):Calls Pg 22 #[PT (some ⟨dp,0,none⟩)] w fun e w'=>e=rT (G none 0 0)∧Below w.heap.size w w':=by
 obtain⟨-,x1⟩:=h.blk.c2
 have KA:=jH (keys0_any dm w)
 have HD:(fun Vv:World=>Hid (MapIs Vv intV anyI intV dm ([]:List (Int×Int))∧Below w.heap.size w Vv∧Vv.cell? ⟨w.heap.size,0,none⟩=some (.map (some dm))∧Vv.heap.size=w.heap.size + 1)) (w.alloc (cL #[.map (some dm)] 137)):=
  ⟨h.mp.alloc _,(bR _ _).alloc (nR _) _,(Blk.new w _ _).cell 0,by simp⟩
 clear h
 go_enter func22,ntmps22
 go_wp2_with fail
 refine KA.out.mono ?_
 rintro e w3 ⟨rfl,rfl⟩
 generalize w.alloc (cL #[.map (some dm)] 137)=wk at HD⊢
 have SA:=jH (sorted0_any w.heap.size dm wk (by have:=HD.out.2.2.2;omega) HD.out.2.2.1 HD.out.1)
 clear KA
 go_wp2_with fail
 refine SA.out.mono ?_
 rintro e w4 ⟨rfl,hb4⟩
 have H4:Hid (Below w.heap.size w w4):=HD.out.2.1.trans (hb4.mono (by have:=HD.out.2.2.2;omega))
 clear SA HD hb4
 go_wp2_with fail
 refine wp_loop_rounds 1 ?_
 rw[rounds_succ]
 go_wp2_with fail
 go_ret
 exact⟨rfl,H4.out⟩
end
section
open Go.RowKit
structure ChAt (w:World)(p slots:Nat)(l:List Be)(t:List Int)(made:Int)(A:Option Addr)(n c:Nat)(A2:Option Addr)(c2:Nat):Prop where
 blk:Blk w p 269 #[X Y slots,G A n c,G A2 slots c2,X Y made]
 bes:w.ownsRow 0 34 3 (G A n c) n (bks l)
 tab:w.ownsRow 0 3 1 (G A2 slots c2) slots (iv t)
 few:n≤16
def Ch (w:World)(p slots:Nat)(l:List Be)(t:List Int)(made:Int):Prop:=∃A n c A2 c2,ChAt w p slots l t made A n c A2 c2
theorem Ch.below {w w':World}{p slots:Nat}{l:List Be}{t:List Int}{made:Int}(h:Ch w p slots l t made)(hb:Below w.heap.size w w'):Ch w' p slots l t made:=by
 obtain⟨A,n,c,A2,c2,h1,h2,h3,h4⟩:=h
 exact⟨A,n,c,A2,c2,h1.below hb h1.lt,own_below h2 hb,own_below h3 hb,h4⟩
theorem Ch.blk {w:World}{p slots:Nat}{l:List Be}{t:List Int}{made:Int}(h:Ch w p slots l t made):∃cs,Blk w p 269 cs:=by
 obtain⟨A,n,c,A2,c2,h1,h2,h3,h4⟩:=h
 exact⟨_,h1⟩
theorem mayB_nil:¬MayB ([]:List Be).length []:=fun h=>by have:=h.1;simp at this
theorem new_yes (n:Nat)(hn:n≤1000000)(hm:mayN n=true)(w:World):
  Calls Pg 88 #[X Y n] w fun e w'=>∃p,e=rT (PT (some ⟨p,0,none⟩))∧w.heap.size≤p∧Ch w' p n [] (List.replicate n (-1)) 0∧Below w.heap.size w w':=by
 have CM:=jH (may_any n hn)
 have CT:=jH (table_may none 0 0 w.heap.size n [] w Reads.none_ (nR _) (fun b hb=>by cases hb) (by omega) (by omega) hm)
 rw[tableF_no mayB_nil] at CT
 rw[hm] at CM
 clear hm
 go_enter func88,ntmps88
 go_wp2_with fail
 refine(CM.out _).mono ?_
 rintro e w' ⟨rfl,rfl⟩
 go_wp2_with fail
 refine CT.out.mono ?_
 rintro e w1 ⟨A1,c1,rfl,hown1,hb1⟩
 have hs1:=hb1.size
 go_wp2_with fail
 go_ret
 exact⟨w1.heap.size,rfl,hs1,⟨none,0,0,A1,c1,Blk.new_ rfl,World.ownsRow_nil _ _ _ _,own_base (hown1.alloc _) (Nat.zero_le _),by omega⟩,hb1.alloc hs1 _⟩
theorem besOk_keep {p:Be→Bool}{l:List Be}(h:BesOk l):BesOk (keepBe p l):=fun b hb=>h b (List.mem_filter.1 hb).1
theorem keep_le (p:Be→Bool)(l:List Be):(keepBe p l).length≤l.length:=List.length_filter_le _ _
theorem set_yes (p slots:Nat)(l0:List Be)(t0:List Int)(made:Int)(ov:Value)(o:Be→Bool)(A:Option Addr)(n c B:Nat)(l:List Be)(w:World)(hch:Ch w p slots l0 t0 made)(hm:mayN slots=true)
  (hr:Reads w B 3 A n (bks l))(hB:B≤w.heap.size)(hok:BesOk l)(hnc:n≤c)(hnil:A=none→c=0)(hmay:MayBs n l)(hmd:0≤made∧made≤1000000)
  (hW:∀W,Below B w W→Calls Pg 116 #[G A n c,ov] W fun e w'=>∃A' m c',e=rT (G A' m c')∧m=(keepBe o l).length∧m≤c'∧Reads w' w'.heap.size 3 A' m (bks (keepBe o l))∧Below W.heap.size W w'):
  Calls Pg 184 #[PT (some ⟨p,0,none⟩),G A n c,ov] w fun e w'=>e=rT (X Y 0)∧Ch w' p slots l (tableF (keepBe o l) slots) (made + 1)∧But p w w':=by
 obtain⟨A0,n0,c0,At,ct,hblk,hbes,htab,hfew⟩:=hch
 have hn16:=hmay.1
 have CM:=jH (gmay_any A n c B l w hr hB hok (by omega) hnc)
 have CMy:=jH hmay
 clear hmay
 go_enter func184,ntmps184
 go_wp2_with fail
 refine CM.out.mono ?_
 rintro e w1 ⟨⟨b,rfl,hbm⟩,hb1⟩
 obtain rfl:=hbm.2 CMy.out
 clear hbm CM
 have hb1B:=hb1.mono hB
 have hBp:Hid (p < w.heap.size):=hblk.lt
 have hblk1:=hblk.below hb1 hblk.lt
 have CC:=jH (fun W (hb:Below B w W)=>clonebe_any A n c B l W (hr.below hb) (nT hB hb.size) (by omega) hnil)
 have CW:=jH hW
 have CT:=jH (fun(A':Option Addr) (m c':Nat) (W:World) (hR:Reads W W.heap.size 3 A' m (bks (keepBe o l))) (h1:m≤16) (h2:m≤c')=>table_may A' m c' _ slots _ W hR (nR _) (besOk_keep hok) (by omega) h2 hm)
 have hkl:=keep_le o l
 have hll:=hr.be_length
 have HK:=jH (aI hkl hll)
 have HR:=jH hr
 clear hkl hll hW hm hr hok hnil hbes htab hblk hfew
 go_wp2_with fail
 have HB:=jH (aI hb1 (aI hb1B hblk1))
 clear hb1 hb1B hblk1
 have d0:w1.drew.cell? ⟨p,0,none⟩=some (X Y slots):=by have:=HB.out.2.2.cell 0;simpa using this
 go_region_held3 (fun wS=>wS.cell? ⟨p,0,none⟩=some (X Y slots)) (first|with_reducible exact d0|with_reducible exact z0|with_reducible exact y0|with_reducible exact x0|with_reducible exact sA _|with_reducible exact sB _ _|fail)
  (first
  |(go_at_call 21;(with_reducible refine(CC.out _ HB.out.2.1.drew).mono ?_);rintro e w2 ⟨A2,c2,rfl,hown2,hb2⟩;have hbk2:=HB.out.2.2.drew.below hb2 HB.out.2.2.lt;have z0:=hbk2.cell 0;simp only[ga,gz,gN] at z0)
  |(go_at_call 116;have hbW:=HB.out.2.1.drew.trans (hb2.mono (nT hB HB.out.1.size));(with_reducible refine(CW.out _ hbW).mono ?_);rintro e w3 ⟨A3,m3,c3,rfl,hm3,hmc3,hr3,hb3⟩;have HM3:=jH hm3;clear hm3;have hbk3:=hbk2.below hb3 hbk2.lt;have y0:=hbk3.cell 0;simp only[ga,gz,gN] at y0)
  |(go_at_call 178;have hm16:m3≤16:=(by have:=HK.out;have:=HM3.out;omega);(with_reducible refine(CT.out _ _ _ _ hr3 hm16 hmc3).mono ?_);rintro e w4 ⟨A4,c4,rfl,hown4,hb4⟩;have hbk4:=hbk3.below hb4 hbk3.lt;have x0:=hbk4.cell 0;have x1:=hbk4.cell 1;have x2:=hbk4.cell 2;have f1:=hbk4.frozen 1;have f2:=hbk4.frozen 2;simp only[ga,gz,gN] at x0 x1 x2;have sA:∀u,(w4.setCell ⟨p,1,none⟩ u).cell? ⟨p,0,none⟩=some (X Y slots):=(fun u=>(World.cell?_setCell_other w4 ⟨p,1,none⟩ ⟨p,0,none⟩ u (by intro e;cases e)).trans x0);have sB:∀u v,((w4.setCell ⟨p,1,none⟩ u).setCell ⟨p,2,none⟩ v).cell? ⟨p,0,none⟩=some (X Y slots):=(fun u v=>(World.cell?_setCell_other _ ⟨p,2,none⟩ ⟨p,0,none⟩ v (by intro e;cases e)).trans (sA u))))
 have q1:w.heap.size≤w1.drew.heap.size:=HB.out.1.size
 have q2:=nT q1 hb2.size
 have q3:=nT q2 hb3.size
 have hb24:=(hb2.mono q1).trans ((hb3.mono q2).trans (hb4.mono q3))
 have hB4:Below w.heap.size w w4:=HB.out.1.drew.trans hb24
 have hbes4:=own_below (own_below hown2 hb3) hb4
 have H1:=(hbk4.set_ 1 (G A2 n c2)).set_ 2 (G A4 slots c4)
 have hB5:=(But.of_below (p:=p) hB4).set_ 1 (G A2 n c2) |>.set_ 2 (G A4 slots c4)
 have hbes5:=own_set_far (own_set_far hbes4 hbk4 (by decide) 1 (G A2 n c2)) (hbk4.set_ 1 (G A2 n c2)) (by decide) 2 (G A4 slots c4)
 have htab5:=own_set_far (own_set_far hown4 hbk4 (by decide) 1 (G A2 n c2)) (hbk4.set_ 1 (G A2 n c2)) (by decide) 2 (G A4 slots c4)
 generalize (w4.setCell ⟨p,1,none⟩ (G A2 n c2)).setCell ⟨p,2,none⟩ (G A4 slots c4)=w5 at *
 have HF:=jH (aI H1 (aI hB5 (aI hbes5 htab5)))
 have e3:=H1.cell 3
 have f3:=H1.frozen 3
 simp[gN] at e3
 have ew:IntKind.i64.wrap (made + 1)=made + 1:=IntWalk.i64_in _ (by omega)
 clear H1 hB5 hbes5 htab5 hbes4 hB4 hb24 f1 f2 x0 x1 x2 hbk4 hown4 hown2 hbk2 hbk3 hr3 d0 z0 y0 sA sB
 go_wp2_with fail
 go_ret
 refine⟨rfl,⟨A2,n,c2,A4,c4,?_,?_,?_,hn16⟩,HF.out.2.1.set_ _ _⟩
 ·exact HF.out.1.set_ 3 _
 ·exact own_base (own_set_far HF.out.2.2.1 HF.out.1 (by decide) 3 _) (Nat.zero_le _)
 ·exact own_base (own_set_far HF.out.2.2.2 HF.out.1 (by decide) 3 _) (Nat.zero_le _)
end
section
open Go.RowKit Go.Shelf
theorem wo1_meth (q g:Nat)(rv:Value)(o:Int→Bool)(eg:∀args w,(callFunc g args).run Pg w=.ok (.enter g args) w)(x:Be)(w:World)(hq:w.cell? ⟨q,0,none⟩=some (.func (.func g) #[rv] #[]))
  (hp:∀(W:World),Below w.heap.size w W→Calls Pg g #[rv,X Y x.id] W fun e w'=>e=rT (bL (o x.id))∧Below w.heap.size w w'):
  Calls Pg 220 #[aG #[X Y x.id,X Z x.addr,X Y x.weight],PT (some ⟨q,0,none⟩)] w fun e w'=>e=rT (bL (o x.id))∧Below w.heap.size w w':=by
 have hlt:=World.block_lt_of_cell? w _ hq
 have hq2:(w.alloc (cL #[X Y x.id,X Z x.addr,X Y x.weight] 34)).cell? ⟨q,0,none⟩=some (.func (.func g) #[rv] #[]):=by
  rw[World.cell?_alloc_lt _ _ _ hlt];exact hq
 have hcall:=hp _ ((bR w.heap.size w).alloc (nR _) (cL #[X Y x.id,X Z x.addr,X Y x.weight] 34))
 obtain⟨xi,xa,xw⟩:=x
 dsimp only at hq2 hcall⊢
 have bn:∀w,(binOp .neq 169 (.func (.func g) #[rv] #[]) .nilFunc).run Pg w=.ok (bL true) w:=fun _=>by kernel_rfl
 clear hp
 go_enter func220,ntmps220
 go_wp2_with (go_at_fn g;refine hcall.mono ?_;rintro e w' ⟨rfl,hb'⟩)
 go_ret
 exact⟨rfl,hb'⟩
theorem gwom_any (ov:Value)(g:Nat)(rv:Value)(hov:ov=.func (.func g) #[rv] #[])(o:Int→Bool)(A:Option Addr)(n c B:Nat)(l:List Be)(w:World)(hr:Reads w B 3 A n (bks l))(hB:B≤w.heap.size)(hn:n≤1000000)(hnil:A=none→c=0)
  (hp:∀(W:World) (x:Be),Below (w.heap.size + 1) (w.alloc (cL #[ov] 169)) W→Calls Pg 220 #[aG #[X Y x.id,X Z x.addr,X Y x.weight],PT (some ⟨w.heap.size,0,none⟩)] W fun e w'=>e=rT (bL (o x.id))∧Below W.heap.size W w'):
  Calls Pg 116 #[G A n c,ov] w fun e w'=>∃A' m c',e=rT (G A' m c')∧m=(keepBe (fun b=>o b.id) l).length∧m≤c'∧Reads w' w'.heap.size 3 A' m (bks (keepBe (fun b=>o b.id) l))∧Below w.heap.size w w':=by
 have eg:∀args w,(callFunc 220 args).run Pg w=.ok (.enter 220 args) w:=enters_of func220 (by kernel_rfl) rfl
 have hb0:=(bR w.heap.size w).alloc (nR _) (cL #[ov] 169)
 have hr0:=hr.alloc hB (cL #[ov] 169)
 have hs0:(w.alloc (cL #[ov] 169)).heap.size=w.heap.size + 1:=by simp
 have CC:=jH (clonebe_any A n c B l _ hr0 (nT hB hb0.size) (by omega) hnil)
 rw[hs0] at CC
 have HP:=jH hp
 have HB:=jH hb0
 clear hp hr0 hb0
 subst hov
 go_enter func116,ntmps116
 go_wp2_with fail
 refine CC.out.mono ?_
 rintro e w1 ⟨A1,c1,rfl,hown1,hb1⟩
 have hsz1:w.heap.size + 1≤w1.heap.size:=by have:=hb1.size;rw[hs0] at this;exact this
 have CD:=jH (del_any 220 #[PT (some ⟨w.heap.size,0,none⟩)] (fun b=>o b.id) eg A1 n c1 _ l w1 hown1 hsz1 hn (fun W x hW=>HP.out W x (hb1.trans hW)))
 clear eg hown1 CC
 go_wp2_with fail
 refine CD.out.mono ?_
 rintro e w2 ⟨A2,m,c2,rfl,hm0,hmc0,hr2,hb2⟩
 have hm:=jH (aI hm0 hmc0)
 clear hm0 hmc0
 go_wp2_with fail
 go_ret
 exact⟨A2,m,c2,rfl,hm.out.1,hm.out.2,hr2,HB.out.trans ((hb1.trans hb2).mono (by omega))⟩
theorem gwo_meth (g:Nat)(rv:Value)(o:Int→Bool)(eg:∀args w,(callFunc g args).run Pg w=.ok (.enter g args) w)(A:Option Addr)(n c B:Nat)(l:List Be)(w:World)(hr:Reads w B 3 A n (bks l))(hB:B≤w.heap.size)(hn:n≤1000000)(hnil:A=none→c=0)
  (hp:∀(W:World) (id:Int),Below w.heap.size w W→Calls Pg g #[rv,X Y id] W fun e w'=>e=rT (bL (o id))∧Below W.heap.size W w'):
  Calls Pg 116 #[G A n c,.func (.func g) #[rv] #[]] w fun e w'=>∃A' m c',e=rT (G A' m c')∧m=(keepBe (fun b=>o b.id) l).length∧m≤c'∧Reads w' w'.heap.size 3 A' m (bks (keepBe (fun b=>o b.id) l))∧Below w.heap.size w w':=by
 refine gwom_any (.func (.func g) #[rv] #[]) g rv rfl o A n c B l w hr hB hn hnil (fun W x hW=>wo1_meth _ g rv o eg x W ?_ ?_)
 ·have:=((Blk.new w 169 #[.func (.func g) #[rv] #[]]).below hW (by omega)).cell 0
  simpa using this
 ·intro W' hW'
  have hb0:=(bR w.heap.size w).alloc (nR _) (cL #[.func (.func g) #[rv] #[]] 169)
  have hbW:=hb0.trans (hW.mono (nS _))
  have hsz:=hbW.size
  refine(hp W' x.id (hbW.trans (hW'.mono hsz))).mono ?_
  rintro e w2 ⟨rfl,hb2⟩
  exact⟨rfl,hW'.trans (hb2.mono hW'.size)⟩
end
section
open Go.RowKit Go.Maps
def StoAt (w:World)(base ss lg sp:Nat):Prop:=base≤ss∧∃v2 v3 v4 v5,Blk w ss 175 #[PT (some ⟨lg,0,none⟩),PT (some ⟨sp,0,none⟩),v2,v3,v4,v5]
theorem StoAt.fr {w w':World}{base base' ss lg sp:Nat}{K:List TypeId}{M:List Nat}(h:StoAt w base ss lg sp)(hf:Fr K M base' w w')(h1:175∉K):StoAt w' base ss lg sp:=by
 obtain⟨h0,v2,v3,v4,v5,hb⟩:=h
 exact⟨h0,v2,v3,v4,v5,hf.blk _ _ _ hb h1⟩
theorem StoAt.made {w w':World}{base ss lg sp:Nat}(h:StoAt w base ss lg sp)(hb:Below w.heap.size w w'):StoAt w' base ss lg sp:=by
 obtain⟨h0,v2,v3,v4,v5,hk⟩:=h
 exact⟨h0,v2,v3,v4,v5,hk.below hb hk.lt⟩
theorem stostate_any (base ss lg sp:Nat)(w:World)(h:StoAt w base ss lg sp):Calls Pg 39 #[PT (some ⟨ss,0,none⟩)] w fun e w'=>e=rT (PT (some ⟨sp,0,none⟩))∧w=w':=by
 obtain⟨-,v2,v3,v4,v5,hb⟩:=h
 obtain⟨-,c1⟩:=hb.c2
 clear hb
 go_enter func39,ntmps39
 go_wp2_with fail
 go_ret
 exact⟨rfl,rfl⟩
theorem recS_of {w:World}{q ss:Nat}{t1 t2:TypeId}{v0 v1 v2 v3 v4 v5 v6 v7 v8 v9 v10 v11 v12 v13 u0 u1 u2 u3 u4 u5:Value}(hx:Blk w q t1 #[v0,v1,v2,v3,v4,v5,v6,v7,v8,v9,v10,v11,v12,v13])(hs:Blk w ss t2 #[u0,u1,u2,u3,u4,u5]):w.cell? ⟨q,0,none⟩=some v0∧w.cell? ⟨q,1,none⟩=some v1∧w.cell? ⟨q,2,none⟩=some v2∧w.cell? ⟨q,3,none⟩=some v3∧w.cell? ⟨q,4,none⟩=some v4∧w.cell? ⟨q,5,none⟩=some v5∧w.cell? ⟨q,6,none⟩=some v6∧w.cell? ⟨q,7,none⟩=some v7∧w.cell? ⟨q,8,none⟩=some v8∧w.cell? ⟨q,9,none⟩=some v9∧w.cell? ⟨q,10,none⟩=some v10∧w.cell? ⟨q,11,none⟩=some v11∧w.cell? ⟨q,12,none⟩=some v12∧w.cell? ⟨q,13,none⟩=some v13∧w.cell? ⟨ss,0,none⟩=some u0∧w.cell? ⟨ss,1,none⟩=some u1:=
 ⟨hx.cell 0,hx.cell 1,hx.cell 2,hx.cell 3,hx.cell 4,hx.cell 5,hx.cell 6,hx.cell 7,hx.cell 8,hx.cell 9,hx.cell 10,hx.cell 11,hx.cell 12,hx.cell 13,hs.cell 0,hs.cell 1⟩
def WRel (q ss lg sp:Nat)(w3 wc:World)(p:Nat)(A4:Option Addr)(nb c4 kk:Nat)(body:List Nat)(v1 v2 v3 v4 v5 v6 v7 v8 v9 v10 v11 v12 v13:Value):Prop:=
 Blk wc p 284 #[X Y kk,X Y 3,G A4 nb c4]∧wc.ownsRow w3.heap.size 5 1 (G A4 nb c4) nb (bv body)∧Blk wc q 119 #[X Y kk,v1,v2,v3,v4,v5,v6,v7,v8,v9,v10,v11,v12,v13]∧(∃a2 a3 a4 a5,Blk wc ss 175 #[PT (some ⟨lg,0,none⟩),PT (some ⟨sp,0,none⟩),a2,a3,a4,a5])∧Below w3.heap.size w3 wc
def KW:List TypeId:=KD++[192]
structure WOk (E:World→Prop)(base sp sd sf:Nat)(gen gen':Nat)(bl bl':List Be)(fm fm':List (Tu×Fl))(kk nb:Nat)(body:List Nat)(rv:Array Value)(mn:Nat):Prop where
 env:∀W W',E W→Fr KW [mn,sf] base W W'→E W'
 may:∀W,E W→Calls Pg 210 #[.agg rv] W fun e W'=>e=rT (bL true)∧Below W.heap.size W W'
 app:∀base2 sp2 sd2 sf2 W,E W→StAt W base2 sp2 sd2 sf2 gen bl fm→Calls Pg 199 #[PT (some ⟨sp2,0,none⟩),.agg rv] W fun e W'=>e=rT (X Y 0)∧Below base2 W W'
 enc:∀W,E W→Calls Pg 212 #[.agg rv,X Y 3] W fun e W'=>∃A' c',e=rT (tU #[aG #[X Y kk,X Y 3,G A' nb c'],X Y 0])∧W'.ownsRow W.heap.size 5 1 (G A' nb c') nb (bv body)∧Below W.heap.size W W'
 into:∀W,E W→Calls Pg 214 #[.agg rv,X Y 3] W fun e W'=>∃R',e=rT (.agg R')∧Below W.heap.size W W'∧∀(h:StAt W' base sp sd sf gen bl fm),Calls Pg 199 #[PT (some ⟨sp,0,none⟩),.agg R'] W' fun e W2=>e=rT (X Y 0)∧StAt W2 base sp sd sf gen' bl' fm'∧Fr [192] [sf] base W' W2
theorem stowrite_any (E:World→Prop)(base ss lg sp sd sf gen gen' d mn ms size Q ops f1 f2 s kk nb:Nat)(body:List Nat)(L:List Nat)(bl bl':List Be)(fm fm':List (Tu×Fl))(v1 v2 v3 v4 v5 v6 v7 v8 v9 v10 v11 v12 v13:Value)(w:World)(hE:E w)(hO:WOk E base sp sd sf gen gen' bl bl' fm fm' kk nb body #[X Y kk,v1,v2,v3,v4,v5,v6,v7,v8,v9,v10,v11,v12,v13] mn)
  (hW:StoAt w base ss lg sp)(hS:StAt w base sp sd sf gen bl fm)(hD:DiskAt w base d mn ms (diskL Q ops f1 f2 L s 3))(hL:LogAt w base lg d size 3 2 [1] false)(hbl:bl.length≤1000)(hne:f1≠f2)(hops:ops≤900000000000)(hkk:kk≤5)(hall:AllB body)(hnb:nb≤4096)
  (hfit:L.length=0∨L.length + (nb + 16)≤size)(hQ:L.length + 26 + (nb + 16)≤Q)(hf:nb + 16 + L.length≤1048576)(hmm:mn≠sf)(hmd:mn≠sd)(hms:ms≠sf):
  Calls Pg 110 #[PT (some ⟨ss,0,none⟩),aG #[X Y kk,v1,v2,v3,v4,v5,v6,v7,v8,v9,v10,v11,v12,v13]] w fun e w'=>e=rT (X Y 0)∧DiskAt w' base d mn ms (diskL Q (ops + 1) f1 f2 (L++frameB kk 3 body) s 3)∧LogAt w' base lg d size 3 2 [1] false∧StAt w' base sp sd sf gen' bl' fm'∧StoAt w' base ss lg sp∧Fr KW [mn,sf] base w w':=by
 have HO:=jH hO
 have hbase:=hS.hi
 have EB:∀W W',E W→base≤W.heap.size→Below W.heap.size W W'→E W':=fun W W' h1 h2 h3=>HO.out.env W W' h1 (Fr.of_below _ _ h3 h2)
 have HEB:=jH EB
 have hx:=Blk.new w 119 #[X Y kk,v1,v2,v3,v4,v5,v6,v7,v8,v9,v10,v11,v12,v13]
 have hb0:=(bR w.heap.size w).alloc (nR _) (cL #[X Y kk,v1,v2,v3,v4,v5,v6,v7,v8,v9,v10,v11,v12,v13] 119)
 have CM:=jH (hO.may _ (EB _ _ hE hbase hb0))
 have HK:Hid (∃B0,Reads w B0 1 none 0 (bv [])∧AllB body):=⟨0,by exact Reads.none_,hall⟩
 have hk6:((kk:Int)==6)=false:=by rw[beq_eq_false_iff_ne];omega
 obtain⟨q,hq⟩:∃q,q=w.heap.size:=⟨_,rfl⟩
 have HQ:=jH hq
 have H:=jH (aI hW (aI hS (aI hD (aI hL hE))))
 have HB:=jH (aI hbase (aI hfit (aI hQ (aI hf (aI hall hnb)))))
 rw[←hq] at hx hb0
 obtain⟨hss,v2x,v3x,v4x,v5x,hsb⟩:=hW
 clear hS hD hL hO hE EB hbase hfit hQ hf hall HK
 go_enter func110,ntmps110
 go_wp2_with fail
 rw[←hq]
 generalize w.alloc (cL #[X Y kk,v1,v2,v3,v4,v5,v6,v7,v8,v9,v10,v11,v12,v13] 119)=w0 at *
 refine(CM.out).mono ?_
 rintro e w1 ⟨rfl,hb1⟩
 have hx1:=hx.below hb1 hx.lt
 have hb01:=hb0.trans (hb1.mono (Nat.le_of_lt hx.lt))
 have hs1:=hsb.below hb01 (by have:=hsb.lt;omega)
 clear hq
 have e0:=recS_of hx1 hs1
 obtain⟨e0a,-⟩:=id e0
 have d0:=recS_of hx1.drew hs1.drew
 have HX:=jH (aI hx1 (aI hs1 hb01))
 clear hx hb0 hx1 hb1 hb01 hs1 hsb e0 CM
 have hS1:=H.out.2.1.made (HQ.out▸HX.out.2.2)
 have HE1:Hid (E w1):=HEB.out w w1 H.out.2.2.2.2 HB.out.1 (HQ.out▸HX.out.2.2)
 have CC:=jH (stcopy_ok base sp sd sf gen bl fm w1.drew (hS1.made (bR _ _).drew) hbl)
 have hbs1:base≤w1.heap.size:=hS1.hi
 clear hS1
 go_wp2_with fail
 go_region_held3 (fun wS=>wS.cell? ⟨q,0,none⟩=some (X Y kk)∧wS.cell? ⟨q,1,none⟩=some (v1)∧wS.cell? ⟨q,2,none⟩=some (v2)∧wS.cell? ⟨q,3,none⟩=some (v3)∧wS.cell? ⟨q,4,none⟩=some (v4)∧wS.cell? ⟨q,5,none⟩=some (v5)∧wS.cell? ⟨q,6,none⟩=some (v6)∧wS.cell? ⟨q,7,none⟩=some (v7)∧wS.cell? ⟨q,8,none⟩=some (v8)∧wS.cell? ⟨q,9,none⟩=some (v9)∧wS.cell? ⟨q,10,none⟩=some (v10)∧wS.cell? ⟨q,11,none⟩=some (v11)∧wS.cell? ⟨q,12,none⟩=some (v12)∧wS.cell? ⟨q,13,none⟩=some (v13)∧wS.cell? ⟨ss,0,none⟩=some (PT (some ⟨lg,0,none⟩))∧wS.cell? ⟨ss,1,none⟩=some (PT (some ⟨sp,0,none⟩))) (first|with_reducible exact d0|with_reducible exact d1|with_reducible exact d2|fail)
  (first
   |(go_at_call 211;(with_reducible refine CC.out.mono ?_);rintro e w2 ⟨sp2,sd2,sf2,rfl,hS2,hb2⟩;have y2:=HX.out.1.drew.below hb2 HX.out.1.lt;have z2:=HX.out.2.1.drew.below hb2 HX.out.2.1.lt;have d1:=recS_of y2 z2;have CA2:=HO.out.app w1.drew.heap.size sp2 sd2 sf2 w2 (HEB.out w1 w2 HE1.out hbs1 ((bR _ _).drew.trans hb2)) hS2)
   |(go_at_call 199;(with_reducible refine CA2.mono ?_);rintro e w3 ⟨rfl,hf3⟩;have y3:=y2.below hf3 HX.out.1.lt;have z3:=z2.below hf3 HX.out.2.1.lt;have d2:=recS_of y3 z3))
 all_goals
  have hb13:Below w1.heap.size w1 w3:=((bR w1.heap.size w1).drew.trans hb2).trans hf3
  have HY:=jH (aI y3 (aI z3 hb13))
  have HE3:Hid (E w3):=HEB.out w1 w3 HE1.out hbs1 hb13
  clear hS2 hb2 y2 z2 d1 CA2 hf3 y3 z3 hb13 d0 d2
  have hL3:=H.out.2.2.2.1.made (HQ.out▸(HX.out.2.2.trans (HY.out.2.2.mono (Nat.le_of_lt HX.out.1.lt))))
  have d3:=recS_of HY.out.1.drew HY.out.2.1.drew
  have dA:=fun o=>recS_of (HY.out.1.alloc o).drew (HY.out.2.1.alloc o).drew
  have hbs3:base≤w3.heap.size:=nT hbs1 HY.out.2.2.size
  have CE:Hid (∀W,E W→Calls Pg 212 #[aG #[X Y kk,v1,v2,v3,v4,v5,v6,v7,v8,v9,v10,v11,v12,v13],X Y 3] W fun e W'=>∃A' c',e=rT (tU #[aG #[X Y kk,X Y 3,G A' nb c'],X Y 0])∧W'.ownsRow W.heap.size 5 1 (G A' nb c') nb (bv body)∧Below W.heap.size W W'):=HO.out.enc
  go_upto_region 6 with fail
  go_cut [6,7] (fun x6 x7 wc=>x7=X Y 0∧∃p A4 c4,x6=PT (some ⟨p,0,none⟩)∧WRel q ss lg sp w3 wc p A4 nb c4 kk body v1 v2 v3 v4 v5 v6 v7 v8 v9 v10 v11 v12 v13)
  case first=>
   have hE3d:=HEB.out w3 w3.drew HE3.out hbs3 (bR _ _).drew
   have hE3a:=HEB.out w3 (w3.alloc (cL #[X Y 0,X Y 0,G none 0 0] 284)).drew HE3.out hbs3 (((bR _ _).alloc (nR _) _).drew)
   have CE1:=jH (CE.out _ hE3d)
   have CE2:=jH (CE.out _ hE3a)
   clear hE3d hE3a
   go_wp2_with fail
   go_region_held3 (fun wS=>wS.cell? ⟨q,0,none⟩=some (X Y kk)∧wS.cell? ⟨q,1,none⟩=some (v1)∧wS.cell? ⟨q,2,none⟩=some (v2)∧wS.cell? ⟨q,3,none⟩=some (v3)∧wS.cell? ⟨q,4,none⟩=some (v4)∧wS.cell? ⟨q,5,none⟩=some (v5)∧wS.cell? ⟨q,6,none⟩=some (v6)∧wS.cell? ⟨q,7,none⟩=some (v7)∧wS.cell? ⟨q,8,none⟩=some (v8)∧wS.cell? ⟨q,9,none⟩=some (v9)∧wS.cell? ⟨q,10,none⟩=some (v10)∧wS.cell? ⟨q,11,none⟩=some (v11)∧wS.cell? ⟨q,12,none⟩=some (v12)∧wS.cell? ⟨q,13,none⟩=some (v13)∧wS.cell? ⟨ss,0,none⟩=some (PT (some ⟨lg,0,none⟩))∧wS.cell? ⟨ss,1,none⟩=some (PT (some ⟨sp,0,none⟩))) (first|with_reducible exact d3|with_reducible exact dA _|with_reducible exact d4|with_reducible exact d4A _|with_reducible exact d4S _ _ _|fail)
    (first
     |(go_at_call 124;(first|(with_reducible refine(logver_any base lg d size 3 2 [1] false w3.drew (hL3.made (bR _ _).drew)).mono ?_)|(with_reducible refine(logver_any base lg d size 3 2 [1] false (w3.alloc (cL #[X Y 0,X Y 0,G none 0 0] 284)).drew (hL3.made ((bR _ _).alloc (nR _) _).drew)).mono ?_));rintro e w4 ⟨rfl,rfl⟩)
     |(go_at_call 212;(first|(with_reducible refine CE1.out.mono ?_)|(with_reducible refine CE2.out.mono ?_));rintro e w4 ⟨A4,c4,rfl,hown4,hb4⟩;(first|(have y4:=HY.out.1.drew.below hb4 HY.out.1.lt;have z4:=HY.out.2.1.drew.below hb4 HY.out.2.1.lt)|(have y4:=(HY.out.1.alloc (cL #[X Y 0,X Y 0,G none 0 0] 284)).drew.below hb4 (HY.out.1.alloc (cL #[X Y 0,X Y 0,G none 0 0] 284)).lt;have z4:=(HY.out.2.1.alloc (cL #[X Y 0,X Y 0,G none 0 0] 284)).drew.below hb4 (HY.out.2.1.alloc (cL #[X Y 0,X Y 0,G none 0 0] 284)).lt;have k4:=(Blk.new w3 284 #[X Y 0,X Y 0,G none 0 0]).drew.below hb4 (Blk.new w3 284 #[X Y 0,X Y 0,G none 0 0]).lt;have hqp:q≠w3.heap.size:=Nat.ne_of_lt HY.out.1.lt;have hsp:ss≠w3.heap.size:=Nat.ne_of_lt HY.out.2.1.lt;have d4S:=fun v u x=>recS_of (((y4.far (p:=⟨w3.heap.size,0,none⟩) hqp v).far (p:=⟨w3.heap.size,1,none⟩) hqp u).far (p:=⟨w3.heap.size,2,none⟩) hqp x) (((z4.far (p:=⟨w3.heap.size,0,none⟩) hsp v).far (p:=⟨w3.heap.size,1,none⟩) hsp u).far (p:=⟨w3.heap.size,2,none⟩) hsp x);have s0:w4.cell? ⟨w3.heap.size,0,none⟩=some (X Y 0):=by {have:=k4.cell 0;simpa using this};have b0:=k4.frozen 0;have s1:w4.cell? ⟨w3.heap.size,1,none⟩=some (X Y 0):=by {have:=k4.cell 1;simpa using this};have b1:=k4.frozen 1;have s2:w4.cell? ⟨w3.heap.size,2,none⟩=some (G none 0 0):=by {have:=k4.cell 2;simpa using this};have b2:=k4.frozen 2;have hl4:=k4.lt;have t1:∀v,(w4.setCell ⟨w3.heap.size,0,none⟩ v).cell? ⟨w3.heap.size,1,none⟩=some (X Y 0):=fun v=>by {have:=(k4.set_ 0 v).cell 1;simpa using this};have r1:∀v,(w4.setCell ⟨w3.heap.size,0,none⟩ v).frozen? ⟨w3.heap.size,1,none⟩=false:=fun v=>(k4.set_ 0 v).frozen 1;have t2:∀v u,((w4.setCell ⟨w3.heap.size,0,none⟩ v).setCell ⟨w3.heap.size,1,none⟩ u).cell? ⟨w3.heap.size,2,none⟩=some (G none 0 0):=fun v u=>by {have:=((k4.set_ 0 v).set_ 1 u).cell 2;simpa using this};have r2:∀v u,((w4.setCell ⟨w3.heap.size,0,none⟩ v).setCell ⟨w3.heap.size,1,none⟩ u).frozen? ⟨w3.heap.size,2,none⟩=false:=fun v u=>((k4.set_ 0 v).set_ 1 u).frozen 2));have d4:=recS_of y4 z4;have d4A:=fun o=>recS_of (y4.alloc o) (z4.alloc o)))
   all_goals
    go_wp2_with fail
    go_meet
    first
     |exact⟨rfl,w4.heap.size,A4,c4,rfl,Blk.new w4 284 _,own_below hown4 ((bR w4.heap.size w4).alloc (nR _) _),y4.alloc _,⟨_,_,_,_,z4.alloc _⟩,((bR w3.heap.size w3).drew.trans hb4).trans (((bR w4.heap.size w4).alloc (nR _) _).mono hb4.size)⟩
     |(have hsz:w3.heap.size≤(w3.alloc (cL #[X Y 0,X Y 0,G none 0 0] 284)).drew.heap.size:=by {show w3.heap.size≤(w3.alloc _).heap.size;simp};have hbw:Below w3.heap.size w3 w4:=((bR w3.heap.size w3).alloc (nR _) (cL #[X Y 0,X Y 0,G none 0 0] 284)).drew.trans (hb4.mono hsz);exact⟨rfl,w3.heap.size,A4,c4,rfl,((k4.set_ 0 _).set_ 1 _).set_ 2 _,ownsRow_mono (own_set_far (own_set_far (own_set_far hown4 k4 (by decide) 0 _) (k4.set_ 0 _) (by decide) 1 _) ((k4.set_ 0 _).set_ 1 _) (by decide) 2 _) hsz,((y4.far (p:=⟨w3.heap.size,0,none⟩) hqp _).far (p:=⟨w3.heap.size,1,none⟩) hqp _).far (p:=⟨w3.heap.size,2,none⟩) hqp _,⟨_,_,_,_,((z4.far (p:=⟨w3.heap.size,0,none⟩) hsp _).far (p:=⟨w3.heap.size,1,none⟩) hsp _).far (p:=⟨w3.heap.size,2,none⟩) hsp _⟩,((hbw.setCell (p:=⟨w3.heap.size,0,none⟩) (nR _) _).setCell (p:=⟨w3.heap.size,1,none⟩) (nR _) _).setCell (p:=⟨w3.heap.size,2,none⟩) (nR _) _⟩)
  case rest=>
   rename_i x6 x7 wc hcut
   obtain⟨rfl,p,A4,c4,rfl,hp,hown,hyc,⟨a2,a3,a4,a5,hzc⟩,hbc⟩:=hcut
   have hb_c:Below w1.heap.size w1 wc:=HY.out.2.2.trans (hbc.mono HY.out.2.2.size)
   have hq_c:Below w.heap.size w wc:=HQ.out▸(HX.out.2.2.trans (hb_c.mono (Nat.le_of_lt HX.out.1.lt)))
   have hbsc:base≤wc.heap.size:=nT hbs3 hbc.size
   have hDc:=H.out.2.2.1.made hq_c
   have hLc:=H.out.2.2.2.1.made hq_c
   have hSc:=H.out.2.1.made hq_c
   have HEc:Hid (E wc):=HEB.out w3 wc HE3.out hbs3 hbc
   have CL:=jH (logappend_ok base lg d mn ms size Q ops f1 f2 s 3 kk L body A4 nb c4 wc.heap.size wc.drew (hDc.made (bR _ _).drew) (hLc.made (bR _ _).drew) hne hops (by omega) (by omega) HB.out.2.2.2.2.2 (Reads.of_own hown).drew (nR _) HB.out.2.2.2.2.1 HB.out.2.1 HB.out.2.2.1 HB.out.2.2.2.1)
   have hpd:=hp.drew
   have hzd:=hzc.drew
   have g0:wc.drew.cell? ⟨ss,0,none⟩=some (PT (some ⟨lg,0,none⟩))∧wc.drew.cell? ⟨p,0,none⟩=some (X Y kk)∧wc.drew.cell? ⟨p,2,none⟩=some (G A4 nb c4):=⟨hzd.cell 0,hpd.cell 0,hpd.cell 2⟩
   have HZ:=jH (aI hp (aI hyc (aI hzc (aI hq_c (aI hDc (aI hLc hSc))))))
   clear hp hown hyc hzc hbc hb_c hq_c hDc hLc hSc hpd hzd d3 dA hL3 CE
   go_wp2_with fail
   go_region_held3 (fun wS=>wS.cell? ⟨ss,0,none⟩=some (PT (some ⟨lg,0,none⟩))∧wS.cell? ⟨p,0,none⟩=some (X Y kk)∧wS.cell? ⟨p,2,none⟩=some (G A4 nb c4)) (first|with_reducible exact g0|with_reducible exact g1|fail)
    (first|(go_at_call 213;(with_reducible refine CL.out.mono ?_);rintro e w5 ⟨rfl,hD5,hf5⟩;have p5:=hf5.blk _ _ _ HZ.out.1.drew (by decide);have z5:=hf5.blk _ _ _ HZ.out.2.2.1.drew (by decide);have g1:w5.cell? ⟨ss,0,none⟩=some (PT (some ⟨lg,0,none⟩))∧w5.cell? ⟨p,0,none⟩=some (X Y kk)∧w5.cell? ⟨p,2,none⟩=some (G A4 nb c4):=⟨z5.cell 0,p5.cell 0,p5.cell 2⟩))
   all_goals
    have y5:=hf5.blk _ _ _ HZ.out.2.1.drew (by decide)
    have L5:=(HZ.out.2.2.2.2.2.1.made (bR _ _).drew).fr hf5 (by decide) (by decide)
    have S5:=(HZ.out.2.2.2.2.2.2.made (bR _ _).drew).fr hf5 (by decide) (by decide) (by simpa using Ne.symm hmd) (by simpa using Ne.symm hmm)
    have f5:Fr KW [mn,sf] base wc w5:=((Fr.refl KW [mn,sf] base wc).drew).trans (hf5.mono (by decide) (by simp))
    have HE5:Hid (E w5):=HO.out.env wc w5 HEc.out f5
    have hbs5:base≤w5.heap.size:=nT hbsc f5.size
    have e5:=recS_of y5.drew z5.drew
    have C5:=jH (HO.out.into w5.drew (HEB.out w5 _ HE5.out hbs5 (bR _ _).drew))
    have HF:=jH (aI f5 (aI hD5 (aI L5 (aI S5 (aI y5 z5)))))
    clear hf5 hD5 p5 z5 g0 g1 y5 L5 S5 f5
    have L5d:=HF.out.2.2.1.made (bR _ _).drew
    go_wp2_with fail
    go_region_held3 (fun wS=>wS.cell? ⟨q,0,none⟩=some (X Y kk)∧wS.cell? ⟨q,1,none⟩=some (v1)∧wS.cell? ⟨q,2,none⟩=some (v2)∧wS.cell? ⟨q,3,none⟩=some (v3)∧wS.cell? ⟨q,4,none⟩=some (v4)∧wS.cell? ⟨q,5,none⟩=some (v5)∧wS.cell? ⟨q,6,none⟩=some (v6)∧wS.cell? ⟨q,7,none⟩=some (v7)∧wS.cell? ⟨q,8,none⟩=some (v8)∧wS.cell? ⟨q,9,none⟩=some (v9)∧wS.cell? ⟨q,10,none⟩=some (v10)∧wS.cell? ⟨q,11,none⟩=some (v11)∧wS.cell? ⟨q,12,none⟩=some (v12)∧wS.cell? ⟨q,13,none⟩=some (v13)∧wS.cell? ⟨ss,0,none⟩=some (PT (some ⟨lg,0,none⟩))∧wS.cell? ⟨ss,1,none⟩=some (PT (some ⟨sp,0,none⟩))) (first|with_reducible exact e5|with_reducible exact e6|with_reducible exact e7|fail)
     (first
      |(go_at_call 124;(with_reducible refine(logver_any base lg d size 3 2 [1] false w5.drew L5d).mono ?_);rintro e w6 ⟨rfl,rfl⟩)
      |(go_at_call 214;(with_reducible refine C5.out.mono ?_);rintro e w6 ⟨R',rfl,hb6,hap6⟩;have y6:=HF.out.2.2.2.2.1.drew.below hb6 HF.out.2.2.2.2.1.lt;have z6:=HF.out.2.2.2.2.2.drew.below hb6 HF.out.2.2.2.2.2.lt;have e6:=recS_of y6 z6;have S6:=(HF.out.2.2.2.1.made (bR _ _).drew).made hb6;have C6:=hap6 S6)
      |(go_at_call 199;(with_reducible refine C6.mono ?_);rintro e w7 ⟨rfl,hS7,hf7⟩;have y7:=hf7.blk _ _ _ y6 (by decide);have z7:=hf7.blk _ _ _ z6 (by decide);have e7:=recS_of y7 z7))
    all_goals
     have hb56:Below w5.heap.size w5 w6:=(bR w5.heap.size w5).drew.trans hb6
     have f67:Fr KW [mn,sf] base w6 w7:=hf7.mono (by decide) (by simp)
     have f57:Fr KW [mn,sf] base w5 w7:=(Fr.of_below _ _ hb56 hbs5).trans f67
     have D7:=(HF.out.2.1.made hb56).fr hf7 (by decide) (by decide) (by decide) (by decide) (by simpa using hmm) (by simpa using hms)
     have L7:=(HF.out.2.2.1.made hb56).fr hf7 (by decide) (by decide)
     have HR:=jH (aI D7 (aI L7 (aI hS7 (aI z7 (((Fr.of_below KW [mn,sf] HZ.out.2.2.2.1 HB.out.1).trans HF.out.1).trans f57)))))
     clear hb56 f67 f57 D7 L7 hS7 hf7 y7 z7 y6 z6 e5 e6 e7 S6 C6 hap6 hb6 L5d
     go_wp2_with fail
     go_ret
     exact⟨rfl,HR.out.1,HR.out.2.1,HR.out.2.2.1,⟨hss,_,_,_,_,HR.out.2.2.2.1⟩,HR.out.2.2.2.2⟩
end
section
open Go.RowKit Go.Maps Go.Shelf Go.Sort
theorem allcmp_any (x y:Fl)(w:World):Calls Pg 59 #[flV x,flV y] w fun e w'=>e=rT (X Y (cmpF x y))∧∃q os',w'=grow (w.drewN q) os':=by
 have HC:Hid (cmpF x y=if lessT x.k y.k=true then -1 else 1):=rfl
 have hb2:=((bR w.heap.size w).alloc (nR _) (.cells x.vals 47)).alloc (by simp) (.cells y.vals 47)
 have hx:=(Blk.new w 47 x.vals).alloc (.cells y.vals 47)
 have hy:Blk ((w.alloc (.cells x.vals 47)).alloc (.cells y.vals 47)) (w.heap.size + 1) 47 y.vals:=Blk.new_ (by simp)
 have hd2:w.drawn≤((w.alloc (.cells x.vals 47)).alloc (.cells y.vals 47)).drawn:=nR _
 obtain⟨⟨s1,d1,p1,sp1,dp1⟩,b1,g1,n1⟩:=x
 obtain⟨⟨s2,d2,p2,sp2,dp2⟩,b2,g2,n2⟩:=y
 have hs0:((w.alloc (cL (Fl.vals ⟨⟨s1,d1,p1,sp1,dp1⟩,b1,g1,n1⟩) 47)).alloc (cL (Fl.vals ⟨⟨s2,d2,p2,sp2,dp2⟩,b2,g2,n2⟩) 47)).heap.size=w.heap.size + 2:=by simp
 unfold flV Fl.vals at *
 dsimp only at *
 go_enter func59,ntmps59
 go_wp2_with fail
 generalize (w.alloc (cL #[X Z s1,X Z d1,X Y p1,X Y sp1,X Y dp1,X Y b1,X Y g1,X Y n1] 47)).alloc (cL #[X Z s2,X Z d2,X Y p2,X Y sp2,X Y dp2,X Y b2,X Y g2,X Y n2] 47)=w2 at *
 have CT:=jH (tless_any ⟨s1,d1,p1,sp1,dp1⟩ ⟨s2,d2,p2,sp2,dp2⟩ w2)
 have HB:=jH (aI hb2 (aI hd2 hs0))
 clear hb2 hx hy hd2 hs0
 unfold Tu.vals at CT
 dsimp only at CT
 refine CT.out.mono ?_
 rintro e w3 ⟨rfl,hb3,hd3⟩
 have HB3:Hid (∃q os',w3=grow (w.drewN q) os'):=below_grow (HB.out.1.trans (hb3.mono (by have:=HB.out.2.2;omega))) (nT HB.out.2.1 hd3)
 clear hb3 hd3
 generalize lessT ⟨s1,d1,p1,sp1,dp1⟩ ⟨s2,d2,p2,sp2,dp2⟩=c at *
 cases c
 all_goals
  go_wp2
  go_ret
  exact⟨by rw[HC.out];rfl,HB3.out⟩
theorem viewcmp_any (x y:Fl)(w:World):Calls Pg 101 #[flV x,flV y] w fun e w'=>e=rT (X Y (cmpF x y))∧∃q os',w'=grow (w.drewN q) os':=by
 have HC:Hid (cmpF x y=if lessT x.k y.k=true then -1 else 1):=rfl
 have hb2:=((bR w.heap.size w).alloc (nR _) (.cells x.vals 47)).alloc (by simp) (.cells y.vals 47)
 have hx:=(Blk.new w 47 x.vals).alloc (.cells y.vals 47)
 have hy:Blk ((w.alloc (.cells x.vals 47)).alloc (.cells y.vals 47)) (w.heap.size + 1) 47 y.vals:=Blk.new_ (by simp)
 have hd2:w.drawn≤((w.alloc (.cells x.vals 47)).alloc (.cells y.vals 47)).drawn:=nR _
 obtain⟨⟨s1,d1,p1,sp1,dp1⟩,b1,g1,n1⟩:=x
 obtain⟨⟨s2,d2,p2,sp2,dp2⟩,b2,g2,n2⟩:=y
 have hs0:((w.alloc (cL (Fl.vals ⟨⟨s1,d1,p1,sp1,dp1⟩,b1,g1,n1⟩) 47)).alloc (cL (Fl.vals ⟨⟨s2,d2,p2,sp2,dp2⟩,b2,g2,n2⟩) 47)).heap.size=w.heap.size + 2:=by simp
 unfold flV Fl.vals at *
 dsimp only at *
 go_enter func101,ntmps101
 go_wp2_with fail
 generalize (w.alloc (cL #[X Z s1,X Z d1,X Y p1,X Y sp1,X Y dp1,X Y b1,X Y g1,X Y n1] 47)).alloc (cL #[X Z s2,X Z d2,X Y p2,X Y sp2,X Y dp2,X Y b2,X Y g2,X Y n2] 47)=w2 at *
 have CT:=jH (tless_any ⟨s1,d1,p1,sp1,dp1⟩ ⟨s2,d2,p2,sp2,dp2⟩ w2)
 have HB:=jH (aI hb2 (aI hd2 hs0))
 clear hb2 hx hy hd2 hs0
 unfold Tu.vals at CT
 dsimp only at CT
 refine CT.out.mono ?_
 rintro e w3 ⟨rfl,hb3,hd3⟩
 have HB3:Hid (∃q os',w3=grow (w.drewN q) os'):=below_grow (HB.out.1.trans (hb3.mono (by have:=HB.out.2.2;omega))) (nT HB.out.2.1 hd3)
 clear hb3 hd3
 generalize lessT ⟨s1,d1,p1,sp1,dp1⟩ ⟨s2,d2,p2,sp2,dp2⟩=c at *
 cases c
 all_goals
  go_wp2
  go_ret
  exact⟨by rw[HC.out];rfl,HB3.out⟩
theorem collect_any (g:Nat)(lb:Array Value)(eg:∀args w,(callFunc g args).run Pg w=.ok (.enter g args) w)(S:List Fl→Prop)(N:Nat)(hN:N≤1000000)(w:World)(hseq:∀W:World,w.heap.size≤W.heap.size→Below w.heap.size w W→SeqStopsK Fence.wide 7 Pg g lb (fun f:Fl=>#[flV f]) KeepsWalks S (fun _=>True) N W):
  Calls Pg 136 #[.func (.func g) #[] lb] w fun e w'=>∃(v:Value) (fs:List Fl),e=rT v∧S fs∧w'.ownsRow w.heap.size 47 8 v fs.length (flvs fs)∧Below w.heap.size w w':=by
 have CA:=fun W h1 h2=>callsIn_wide.1 (appseq_in 8 (by omega) g lb eg S N hN W (hseq W h1 h2))
 have C0:=jH (CA w (nR _) (bR _ _))
 clear CA hseq
 go_enter func136,ntmps136
 go_wp2_with fail
 refine C0.out.mono ?_
 rintro e w1 ⟨v,fs,rfl,hS,hown,hb⟩
 have HO:=jH (aI hS (aI hown hb))
 clear hS hown hb
 go_wp2
 go_ret
 exact⟨_,fs,rfl,HO.out.1,HO.out.2.1,HO.out.2.2⟩
theorem values_any (b:Nat)(w:World):
  Calls Pg 58 #[.map (some b)] w fun e w'=>e=rT (.func (.func 138) #[] #[PT (some ⟨w.heap.size,0,none⟩)])∧w'=w.alloc (cL #[.map (some b)] 147):=by
 go_enter func58,ntmps58
 go_wp2
 go_ret
 exact⟨rfl,rfl⟩
theorem sortedF_any (c:Nat)(ec:∀args w,(callFunc c args).run Pg w=.ok (.enter c args) w)
  (hc:∀x y W,Calls Pg c #[flV x,flV y] W fun e w'=>e=rT (X Y (cmpF x y))∧∃q os',w'=grow (W.drewN q) os')
  (g:Nat)(lb:Array Value)(eg:∀args w,(callFunc g args).run Pg w=.ok (.enter g args) w)(m:List Fl)(hN:m.length≤1000000)(w:World)(hseq:∀W:World,w.heap.size≤W.heap.size→Below w.heap.size w W→SeqStopsK Fence.wide 7 Pg g lb (fun f:Fl=>#[flV f]) KeepsWalks (fun xs=>xs.Perm m) (fun _=>True) m.length W):
  Calls Pg 57 #[.func (.func g) #[] lb,.func (.func c) #[] #[]] w fun e w'=>∃(v:Value) (fs:List Fl),e=rT v∧fs.Perm m∧w'.ownsRow w.heap.size 47 8 v fs.length (flvs fs)∧Below w.heap.size w w':=by
 have C1:=jH (collect_any g lb eg (fun xs=>xs.Perm m) m.length hN w hseq)
 have C2:=jH (sortF_any c ec hc)
 clear hseq hc ec eg
 go_enter func57,ntmps57
 go_wp2_with fail
 refine C1.out.mono ?_
 rintro e w1 ⟨v,fs,rfl,hS,hown,hb⟩
 have HO:=jH (aI hS (aI hown hb))
 clear hS hown hb
 go_wp2_with fail
 refine(C2.out v fs w.heap.size w1 HO.out.2.1 (by rw[HO.out.1.length_eq];exact hN)).mono ?_
 rintro e w2 ⟨rfl,fs',hp,hown2,hg2⟩
 have HP:Hid (fs'.Perm m∧w2.ownsRow w.heap.size 47 8 v fs'.length (flvs fs')∧Below w.heap.size w w2):=⟨hp.trans HO.out.1,hown2,HO.out.2.2.grown hg2 HO.out.2.2.size (fun k e=>(HO.out.2.1.lt k e).1)⟩
 clear hp hown2 hg2 C1 C2 HO
 go_wp2
 go_ret
 exact⟨_,fs',rfl,HP.out⟩
theorem sortedVals_any (c:Nat)(ec:∀args w,(callFunc c args).run Pg w=.ok (.enter c args) w)
  (hc:∀x y W,Calls Pg c #[flV x,flV y] W fun e w'=>e=rT (X Y (cmpF x y))∧∃q os',w'=grow (W.drewN q) os')
  (Bm b:Nat)(fm:List (Tu×Fl))(hN:fm.length≤1000000)(w:World)(hBm:Bm < w.heap.size)(hm:w.cell? ⟨Bm,0,none⟩=some (.map (some b)))(hown:MapIs w tupV TuOk flV b fm):
  Calls Pg 57 #[.func (.func 138) #[] #[PT (some ⟨Bm,0,none⟩)],.func (.func c) #[] #[]] w fun e w'=>∃(v:Value) (fs:List Fl),e=rT v∧fs.Perm (fm.map (·.2))∧w'.ownsRow w.heap.size 47 8 v fs.length (flvs fs)∧Below w.heap.size w w':=
 sortedF_any c ec hc _ _ (enters_of func138 (by kernel_rfl) rfl) (fm.map (·.2)) (by simpa using hN) w fun W h1 h2=>by
  have:=vals_stops 7 Bm b (by omega) fm W (Nat.lt_of_lt_of_le hBm h1) ((h2.cell (p:=⟨Bm,0,none⟩) hBm).trans hm) (hown.below h2 hown.lt)
  rwa [List.length_map]
theorem flall_any (tp tm most idle:Nat)(tk qp:Nat)(fm:List (Tu×Fl))(hN:fm.length≤1000000)(w:World)(hx:Blk w tp 150 #[X Y most,X Y idle,.map (some tm),.map (some tk),PT (some ⟨qp,0,none⟩)])(hmf:MapIs w tupV TuOk flV tm fm):
  Calls Pg 23 #[PT (some ⟨tp,0,none⟩)] w fun e w'=>∃(v:Value) (fs:List Fl),e=rT v∧fs.Perm (fm.map (·.2))∧w'.ownsRow w.heap.size 47 8 v fs.length (flvs fs)∧Below w.heap.size w w':=by
 have c2:=hx.cell 2
 have CV:=jH (values_any tm)
 have HW:Hid (∀W:World,W.heap.size=w.heap.size→Below w.heap.size w W→Calls Pg 57 #[.func (.func 138) #[] #[PT (some ⟨W.heap.size,0,none⟩)],.func (.func 59) #[] #[]] (W.alloc (cL #[.map (some tm)] 147)) fun e w'=>∃(v:Value) (fs:List Fl),e=rT v∧fs.Perm (fm.map (·.2))∧w'.ownsRow w.heap.size 47 8 v fs.length (flvs fs)∧Below w.heap.size w w'):=by
  intro W hs hb
  have hb2:Below w.heap.size w (W.alloc (cL #[.map (some tm)] 147)):=hb.alloc (by omega) _
  refine(sortedVals_any 59 (enters_of func59 (by kernel_rfl) rfl) allcmp_any W.heap.size tm fm hN (W.alloc (cL #[.map (some tm)] 147)) (by simp) ((Blk.new W _ _).cell 0) (hmf.below hb2 hmf.lt)).mono ?_
  rintro e w' ⟨v,fs,rfl,hp,hown,hb'⟩
  exact⟨v,fs,rfl,hp,own_base hown (by simp;omega),hb2.trans (hb'.mono (by simp;omega))⟩
 clear hmf
 go_enter func23,ntmps23
 go_wp2_with fail
 refine(CV.out w).mono ?_
 rintro e w1 ⟨rfl,rfl⟩
 go_wp2_with fail
 refine(HW.out w rfl (bR _ _)).mono ?_
 rintro e w2 ⟨v,fs,rfl,hp,hown,hb⟩
 have HP:=jH (aI hp (aI hown hb))
 clear hp hown hb CV HW
 go_wp2
 go_ret
 exact⟨_,fs,rfl,HP.out⟩
end
section
open Go.RowKit Go.Maps
theorem infoSt:(Pg.info? 44).map (·.size)=some 4:=by kernel_rfl
theorem stview_ok (base sp sd sf gen:Nat)(bl:List Be)(fm:List (Tu×Fl))(w:World)(h:StAt w base sp sd sf gen bl fm)(hbl:bl.length≤1000)(hfm:fm.length≤1000000):
  Calls Pg 40 #[PT (some ⟨sp,0,none⟩)] w fun e w'=>∃(A:Option Addr) (c:Nat) (v:Value) (fs:List Fl),e=rT (aG #[X Y gen,G A bl.length c,G none 0 0,v])∧w'.ownsRow w.heap.size 34 3 (G A bl.length c) bl.length (bks bl)∧fs.Perm (fm.map (·.2))∧w'.ownsRow w.heap.size 47 8 v fs.length (flvs fs)∧Below w.heap.size w w':=by
 obtain⟨A,c,hb,ho⟩:=h.blk
 have hb1:=(bR w.heap.size w).alloc (nR _) (cL #[X Y 0,G none 0 0,G none 0 0,G none 0 0] 44)
 have hr:=Blk.new w 44 #[X Y 0,G none 0 0,G none 0 0,G none 0 0]
 have hz:(w.alloc (cL #[X Y 0,G none 0 0,G none 0 0,G none 0 0] 44)).heap.size=w.heap.size + 1:=by simp
 have hbb:=hb.below hb1 hb.lt
 have h1:=h.made hb1
 have ho1:=own_below ho hb1
 go_enter func40,ntmps40
 go_wp2_with fail
 generalize w.alloc (cL #[X Y 0,G none 0 0,G none 0 0,G none 0 0] 44)=w1 at *
 have C1:=jH (clonebe_any A bl.length c w1.drew.heap.size bl w1.drew (Reads.of_own ho1).drew (nR _) (by omega) (fun e=>own_nilz ho e))
 have hzA:(w1.alloc (cL #[X Y 0,G none 0 0,G none 0 0,G none 0 0] 44)).drew.heap.size=w1.heap.size + 1:=by show (w1.alloc _).heap.size=_;simp
 have hbA:Below w1.heap.size w1 (w1.alloc (cL #[X Y 0,G none 0 0,G none 0 0,G none 0 0] 44)).drew:=((bR _ _).alloc (nR _) _).drew
 have CA:=jH (clonebe_any A bl.length c (w1.alloc (cL #[X Y 0,G none 0 0,G none 0 0,G none 0 0] 44)).drew.heap.size bl (w1.alloc (cL #[X Y 0,G none 0 0,G none 0 0,G none 0 0] 44)).drew (Reads.of_own (own_below ho1 hbA)) (nR _) (by omega) (fun e=>own_nilz ho e))
 have nA:Blk (w1.alloc (cL #[X Y 0,G none 0 0,G none 0 0,G none 0 0] 44)).drew w1.heap.size 44 #[X Y 0,G none 0 0,G none 0 0,G none 0 0]:=(Blk.new w1 _ _).drew
 have kA:=hbb.below hbA hbb.lt
 have c0:w1.drew.cell? ⟨sp,0,none⟩=some (X Y gen)∧w1.drew.cell? ⟨sp,1,none⟩=some (G A bl.length c):=⟨by have:=hbb.drew.cell 0;simpa using this,by have:=hbb.drew.cell 1;simpa using this⟩
 have a0:(w1.alloc (cL #[X Y 0,G none 0 0,G none 0 0,G none 0 0] 44)).drew.cell? ⟨sp,0,none⟩=some (X Y gen)∧(w1.alloc (cL #[X Y 0,G none 0 0,G none 0 0,G none 0 0] 44)).drew.cell? ⟨sp,1,none⟩=some (G A bl.length c):=⟨by have:=kA.cell 0;simpa using this,by have:=kA.cell 1;simpa using this⟩
 have H:=jH (aI h1 (aI hbb (aI hr (aI hb1 hz))))
 clear h1 hr hb1 hz ho1 h hb ho hbA
 go_region_held3 (fun wS=>wS.cell? ⟨sp,0,none⟩=some (X Y gen)∧wS.cell? ⟨sp,1,none⟩=some (G A bl.length c)) (first|with_reducible exact c0|with_reducible exact a0|with_reducible exact e0|with_reducible exact h1 _|with_reducible exact h2 _ _ _ _|with_reducible exact h3 _ _|fail)
  (first
   |(go_at_call 21;(with_reducible refine C1.out.mono ?_);rintro e w2 ⟨A1,c1,rfl,hown1,hb2⟩;have k1:=hbb.drew.below hb2 hbb.lt;have e0:w2.cell? ⟨sp,0,none⟩=some (X Y gen)∧w2.cell? ⟨sp,1,none⟩=some (G A bl.length c):=⟨by {have:=k1.cell 0;simpa using this},by {have:=k1.cell 1;simpa using this}⟩;have h1:∀o,(w2.alloc o).cell? ⟨sp,0,none⟩=some (X Y gen)∧(w2.alloc o).cell? ⟨sp,1,none⟩=some (G A bl.length c):=fun o=>⟨by {have:=(k1.alloc o).cell 0;simpa using this},by {have:=(k1.alloc o).cell 1;simpa using this}⟩)
   |(go_at_call 21;(with_reducible refine CA.out.mono ?_);rintro e w2 ⟨A1,c1,rfl,hown1,hb2⟩;have k1:=kA.below hb2 kA.lt;have e0:w2.cell? ⟨sp,0,none⟩=some (X Y gen)∧w2.cell? ⟨sp,1,none⟩=some (G A bl.length c):=⟨by {have:=k1.cell 0;simpa using this},by {have:=k1.cell 1;simpa using this}⟩;have n2:=nA.below hb2 nA.lt;have s0:w2.cell? ⟨w1.heap.size,0,none⟩=some (X Y 0):=by {have:=n2.cell 0;simpa using this};have s1:w2.cell? ⟨w1.heap.size,1,none⟩=some (G none 0 0):=by {have:=n2.cell 1;simpa using this};have s2:w2.cell? ⟨w1.heap.size,2,none⟩=some (G none 0 0):=by {have:=n2.cell 2;simpa using this};have s3:w2.cell? ⟨w1.heap.size,3,none⟩=some (G none 0 0):=by {have:=n2.cell 3;simpa using this};have z0:=n2.frozen 0;have z1:=n2.frozen 1;have z2:=n2.frozen 2;have z3:=n2.frozen 3;have hn:=k1.ne_ n2 (by decide);have h2:∀v0 v1 v2 v3,((((w2.setCell ⟨w1.heap.size,0,none⟩ v0).setCell ⟨w1.heap.size,1,none⟩ v1).setCell ⟨w1.heap.size,2,none⟩ v2).setCell ⟨w1.heap.size,3,none⟩ v3).cell? ⟨sp,0,none⟩=some (X Y gen)∧((((w2.setCell ⟨w1.heap.size,0,none⟩ v0).setCell ⟨w1.heap.size,1,none⟩ v1).setCell ⟨w1.heap.size,2,none⟩ v2).setCell ⟨w1.heap.size,3,none⟩ v3).cell? ⟨sp,1,none⟩=some (G A bl.length c):=fun v0 v1 v2 v3=>⟨by {have:=((((k1.far (p:=⟨w1.heap.size,0,none⟩) hn v0).far (p:=⟨w1.heap.size,1,none⟩) hn v1).far (p:=⟨w1.heap.size,2,none⟩) hn v2).far (p:=⟨w1.heap.size,3,none⟩) hn v3).cell 0;simpa using this},by {have:=((((k1.far (p:=⟨w1.heap.size,0,none⟩) hn v0).far (p:=⟨w1.heap.size,1,none⟩) hn v1).far (p:=⟨w1.heap.size,2,none⟩) hn v2).far (p:=⟨w1.heap.size,3,none⟩) hn v3).cell 1;simpa using this}⟩))
 ·have HF:(fun Vv:World=>Hid (Blk Vv w2.heap.size 44 #[X Y gen,G A1 bl.length c1,G none 0 0,G none 0 0]∧Vv.ownsRow w.heap.size 34 3 (G A1 bl.length c1) bl.length (bks bl)∧Below w.heap.size w Vv∧StAt Vv base sp sd sf gen bl fm∧Blk Vv w.heap.size 44 #[X Y 0,G none 0 0,G none 0 0,G none 0 0]∧w.heap.size < w2.heap.size)) (w2.alloc (cL #[X Y gen,G A1 bl.length c1,G none 0 0,G none 0 0] 44)):=by
   obtain⟨g1,g2,g3,g4,g5⟩:=H.out
   have hs2:=hb2.size
   have hss:w1.drew.heap.size=w1.heap.size:=rfl
   have hb3:Below w1.heap.size w1 (w2.alloc (cL #[X Y gen,G A1 bl.length c1,G none 0 0,G none 0 0] 44)):=((bR _ _).drew.trans hb2).alloc (by omega) _
   exact⟨Blk.new_ rfl,own_base (hown1.alloc _) (by omega),g4.trans (hb3.mono (by omega)),g1.made hb3,g3.below hb3 g3.lt,by omega⟩
  generalize (w2.alloc (cL #[X Y gen,G A1 bl.length c1,G none 0 0,G none 0 0] 44))=wF at HF⊢
  generalize w2.heap.size=q at HF⊢
  clear hown1 hb2 k1 e0 h1 c0 a0 H C1 CA nA kA hbb
  have hx9:wF.cell? ⟨sp,2,none⟩=some (.map (some sd))∧wF.cell? ⟨sp,3,none⟩=some (.map (some sf)):=by
   obtain⟨A',c',hb',_⟩:=HF.out.2.2.2.1.blk
   exact⟨by have:=hb'.cell 2;simpa using this,by have:=hb'.cell 3;simpa using this⟩
  obtain⟨x2,x3⟩:=hx9
  have KA:=jH (keys0_any sd wF)
  go_wp2_with fail
  refine KA.out.mono ?_
  rintro e w3 ⟨rfl,rfl⟩
  have HD:(fun Vv:World=>Hid (MapIs Vv intV anyI intV sd ([]:List (Int×Int))∧Below wF.heap.size wF Vv∧Vv.cell? ⟨wF.heap.size,0,none⟩=some (.map (some sd))∧Vv.heap.size=wF.heap.size + 1)) (wF.alloc (cL #[.map (some sd)] 137)):=
   ⟨HF.out.2.2.2.1.dr.alloc _,(bR _ _).alloc (nR _) _,(Blk.new wF _ _).cell 0,by simp⟩
  generalize wF.alloc (cL #[.map (some sd)] 137)=wk at HD⊢
  have SA:=jH (sorted0_any wF.heap.size sd wk (by have:=HD.out.2.2.2;omega) HD.out.2.2.1 HD.out.1)
  clear KA x2 x3
  go_wp2_with fail
  refine SA.out.mono ?_
  rintro e w4 ⟨rfl,hb4⟩
  have H4:Hid (Below wF.heap.size wF w4):=HD.out.2.1.trans (hb4.mono (by have:=HD.out.2.2.2;omega))
  have HG:Hid (Blk w4 q 44 #[X Y gen,G A1 bl.length c1,G none 0 0,G none 0 0]∧w4.ownsRow w.heap.size 34 3 (G A1 bl.length c1) bl.length (bks bl)∧Below w.heap.size w w4∧StAt w4 base sp sd sf gen bl fm∧Blk w4 w.heap.size 44 #[X Y 0,G none 0 0,G none 0 0,G none 0 0]∧w.heap.size < q):=by
   obtain⟨f1,f2,f3,f4,f5,f6⟩:=HF.out
   exact⟨f1.below H4.out f1.lt,own_below f2 H4.out,f3.trans (H4.out.mono f3.size),f4.made H4.out,f5.below H4.out f5.lt,f6⟩
  clear SA HD HF H4 hb4
  have x3:w4.cell? ⟨sp,3,none⟩=some (.map (some sf)):=by
   obtain⟨A',c',hb',_⟩:=HG.out.2.2.2.1.blk
   have:=hb'.cell 3
   simpa using this
  have VA:=jH (values_any sf w4)
  go_wp2_with fail
  refine wp_loop_rounds 1 ?_
  rw[rounds_succ]
  go_wp2_with fail
  refine VA.out.mono ?_
  rintro e w5 ⟨rfl,rfl⟩
  have hm5:MapIs (w4.alloc (cL #[.map (some sf)] 147)) tupV TuOk flV sf fm:=HG.out.2.2.2.1.fm.alloc _
  have SV:=jH (sortedVals_any 101 (enters_of func101 (by kernel_rfl) rfl) viewcmp_any w4.heap.size sf fm hfm (w4.alloc (cL #[.map (some sf)] 147)) (by simp) ((Blk.new w4 _ _).cell 0) hm5)
  clear VA hm5 x3
  go_wp2_with fail
  refine SV.out.mono ?_
  rintro e w6 ⟨v,fs,rfl,hp6,hown6,hb6⟩
  obtain⟨A9,k9,rfl⟩:=own_slice hown6
  have HE:Hid (fs.Perm (fm.map (·.2))∧w6.ownsRow w.heap.size 47 8 (G A9 fs.length k9) fs.length (flvs fs)∧Blk w6 q 44 #[X Y gen,G A1 bl.length c1,G none 0 0,G none 0 0]∧w6.ownsRow w.heap.size 34 3 (G A1 bl.length c1) bl.length (bks bl)∧Below w.heap.size w w6∧StAt w6 base sp sd sf gen bl fm∧Blk w6 w.heap.size 44 #[X Y 0,G none 0 0,G none 0 0,G none 0 0]∧w.heap.size < q):=by
   obtain⟨f1,f2,f3,f4,f5,f6⟩:=HG.out
   have hb:Below w4.heap.size w4 w6:=((bR w4.heap.size w4).alloc (nR _) _).trans (hb6.mono (by simp))
   exact⟨hp6,own_base hown6 (by have:=f3.size;simp;omega),f1.below hb f1.lt,own_below f2 hb,f3.trans (hb.mono f3.size),f4.made hb,f5.below hb f5.lt,f6⟩
  obtain⟨q0,q1,q2,q3⟩:=HE.out.2.2.1.c4
  have z3:=HE.out.2.2.1.frozen 3
  obtain⟨r0,r1,r2,r3⟩:=HE.out.2.2.2.2.2.2.1.c4
  obtain⟨y0,y1,y2,y3⟩:=HE.out.2.2.2.2.2.2.1.f4
  have hne:q≠w.heap.size:=by have:=HE.out.2.2.2.2.2.2.2;omega
  have hne':w.heap.size≠q:=fun e=>hne e.symm
  clear SV HG hp6 hown6 hb6
  go_wp2_with fail
  have hk0:=HE.out.2.2.1.set_ 3 (G A9 fs.length k9)
  have hr0:=HE.out.2.2.2.2.2.2.1.far (p:=⟨q,3,none⟩) hne' (G A9 fs.length k9)
  have hr1:=hr0.set_ 0 (X Y gen)
  have hr2:=hr1.set_ 1 (G A1 bl.length c1)
  have hr3:=hr2.set_ 2 (G none 0 0)
  have hr4:=hr3.set_ 3 (G A9 fs.length k9)
  refine bodyPost_ret (results_cell_row rfl _ _ w.heap.size 44 #[X Y gen,G A1 bl.length c1,G none 0 0,G A9 fs.length k9] (0,0) _ rfl hr4 underlying44 rfl infoSt) rfl ?_
  refine⟨A1,c1,_,fs,rfl,?_,HE.out.1,?_,?_⟩
  ·exact own_set_far (own_set_far (own_set_far (own_set_far (own_set_far HE.out.2.2.2.1 HE.out.2.2.1 (by decide) 3 _) hr0 (by decide) 0 _) hr1 (by decide) 1 _) hr2 (by decide) 2 _) hr3 (by decide) 3 _
  ·exact own_set_far (own_set_far (own_set_far (own_set_far (own_set_far HE.out.2.1 HE.out.2.2.1 (by decide) 3 _) hr0 (by decide) 0 _) hr1 (by decide) 1 _) hr2 (by decide) 2 _) hr3 (by decide) 3 _
  ·have hq:=HE.out.2.2.2.2.2.2.2
   exact((((HE.out.2.2.2.2.1.setCell (p:=⟨q,3,none⟩) (by show w.heap.size≤q;omega) _).setCell (p:=⟨w.heap.size,0,none⟩) (nR _) _).setCell (p:=⟨w.heap.size,1,none⟩) (nR _) _).setCell (p:=⟨w.heap.size,2,none⟩) (nR _) _).setCell (p:=⟨w.heap.size,3,none⟩) (nR _) _
 ·have HF:(fun Vv:World=>Hid (Blk Vv w1.heap.size 44 #[X Y gen,G A1 bl.length c1,G none 0 0,G none 0 0]∧Vv.ownsRow w.heap.size 34 3 (G A1 bl.length c1) bl.length (bks bl)∧Below w.heap.size w Vv∧StAt Vv base sp sd sf gen bl fm∧Blk Vv w.heap.size 44 #[X Y 0,G none 0 0,G none 0 0,G none 0 0]∧w.heap.size < w1.heap.size)) ((((w2.setCell ⟨w1.heap.size,0,none⟩ (X Y gen)).setCell ⟨w1.heap.size,1,none⟩ (G A1 bl.length c1)).setCell ⟨w1.heap.size,2,none⟩ (G none 0 0)).setCell ⟨w1.heap.size,3,none⟩ (G none 0 0)):=by
   obtain⟨g1,g2,g3,g4,g5⟩:=H.out
   have hs2:=hb2.size
   have hss:(w1.alloc (cL #[X Y 0,G none 0 0,G none 0 0,G none 0 0] 44)).drew.heap.size=w1.heap.size + 1:=hzA
   have hb2':Below w1.heap.size w1 w2:=(((bR w1.heap.size w1).alloc (nR _) _).drew).trans (hb2.mono (by omega))
   have hb3:Below w1.heap.size w1 ((((w2.setCell ⟨w1.heap.size,0,none⟩ (X Y gen)).setCell ⟨w1.heap.size,1,none⟩ (G A1 bl.length c1)).setCell ⟨w1.heap.size,2,none⟩ (G none 0 0)).setCell ⟨w1.heap.size,3,none⟩ (G none 0 0)):=(((hb2'.setCell (p:=⟨w1.heap.size,0,none⟩) (nR _) _).setCell (p:=⟨w1.heap.size,1,none⟩) (nR _) _).setCell (p:=⟨w1.heap.size,2,none⟩) (nR _) _).setCell (p:=⟨w1.heap.size,3,none⟩) (nR _) _
   refine⟨(((n2.set_ 0 _).set_ 1 _).set_ 2 _).set_ 3 _,?_,g4.trans (hb3.mono (by omega)),g1.made hb3,g3.below hb3 g3.lt,by omega⟩
   exact own_base (own_set_far (own_set_far (own_set_far (own_set_far hown1 n2 (by decide) 0 _) (n2.set_ 0 _) (by decide) 1 _) ((n2.set_ 0 _).set_ 1 _) (by decide) 2 _) (((n2.set_ 0 _).set_ 1 _).set_ 2 _) (by decide) 3 _) (by omega)
  generalize ((((w2.setCell ⟨w1.heap.size,0,none⟩ (X Y gen)).setCell ⟨w1.heap.size,1,none⟩ (G A1 bl.length c1)).setCell ⟨w1.heap.size,2,none⟩ (G none 0 0)).setCell ⟨w1.heap.size,3,none⟩ (G none 0 0))=wF at HF⊢
  generalize w1.heap.size=q at HF⊢
  clear hown1 hb2 k1 e0 h2 c0 a0 H C1 CA nA kA hbb n2 s0 s1 s2 s3 z0 z1 z2 z3 hn hzA
  have hx9:wF.cell? ⟨sp,2,none⟩=some (.map (some sd))∧wF.cell? ⟨sp,3,none⟩=some (.map (some sf)):=by
   obtain⟨A',c',hb',_⟩:=HF.out.2.2.2.1.blk
   exact⟨by have:=hb'.cell 2;simpa using this,by have:=hb'.cell 3;simpa using this⟩
  obtain⟨x2,x3⟩:=hx9
  have KA:=jH (keys0_any sd wF)
  go_wp2_with fail
  refine KA.out.mono ?_
  rintro e w3 ⟨rfl,rfl⟩
  have HD:(fun Vv:World=>Hid (MapIs Vv intV anyI intV sd ([]:List (Int×Int))∧Below wF.heap.size wF Vv∧Vv.cell? ⟨wF.heap.size,0,none⟩=some (.map (some sd))∧Vv.heap.size=wF.heap.size + 1)) (wF.alloc (cL #[.map (some sd)] 137)):=
   ⟨HF.out.2.2.2.1.dr.alloc _,(bR _ _).alloc (nR _) _,(Blk.new wF _ _).cell 0,by simp⟩
  generalize wF.alloc (cL #[.map (some sd)] 137)=wk at HD⊢
  have SA:=jH (sorted0_any wF.heap.size sd wk (by have:=HD.out.2.2.2;omega) HD.out.2.2.1 HD.out.1)
  clear KA x2 x3
  go_wp2_with fail
  refine SA.out.mono ?_
  rintro e w4 ⟨rfl,hb4⟩
  have H4:Hid (Below wF.heap.size wF w4):=HD.out.2.1.trans (hb4.mono (by have:=HD.out.2.2.2;omega))
  have HG:Hid (Blk w4 q 44 #[X Y gen,G A1 bl.length c1,G none 0 0,G none 0 0]∧w4.ownsRow w.heap.size 34 3 (G A1 bl.length c1) bl.length (bks bl)∧Below w.heap.size w w4∧StAt w4 base sp sd sf gen bl fm∧Blk w4 w.heap.size 44 #[X Y 0,G none 0 0,G none 0 0,G none 0 0]∧w.heap.size < q):=by
   obtain⟨f1,f2,f3,f4,f5,f6⟩:=HF.out
   exact⟨f1.below H4.out f1.lt,own_below f2 H4.out,f3.trans (H4.out.mono f3.size),f4.made H4.out,f5.below H4.out f5.lt,f6⟩
  clear SA HD HF H4 hb4
  have x3:w4.cell? ⟨sp,3,none⟩=some (.map (some sf)):=by
   obtain⟨A',c',hb',_⟩:=HG.out.2.2.2.1.blk
   have:=hb'.cell 3
   simpa using this
  have VA:=jH (values_any sf w4)
  go_wp2_with fail
  refine wp_loop_rounds 1 ?_
  rw[rounds_succ]
  go_wp2_with fail
  refine VA.out.mono ?_
  rintro e w5 ⟨rfl,rfl⟩
  have hm5:MapIs (w4.alloc (cL #[.map (some sf)] 147)) tupV TuOk flV sf fm:=HG.out.2.2.2.1.fm.alloc _
  have SV:=jH (sortedVals_any 101 (enters_of func101 (by kernel_rfl) rfl) viewcmp_any w4.heap.size sf fm hfm (w4.alloc (cL #[.map (some sf)] 147)) (by simp) ((Blk.new w4 _ _).cell 0) hm5)
  clear VA hm5 x3
  go_wp2_with fail
  refine SV.out.mono ?_
  rintro e w6 ⟨v,fs,rfl,hp6,hown6,hb6⟩
  obtain⟨A9,k9,rfl⟩:=own_slice hown6
  have HE:Hid (fs.Perm (fm.map (·.2))∧w6.ownsRow w.heap.size 47 8 (G A9 fs.length k9) fs.length (flvs fs)∧Blk w6 q 44 #[X Y gen,G A1 bl.length c1,G none 0 0,G none 0 0]∧w6.ownsRow w.heap.size 34 3 (G A1 bl.length c1) bl.length (bks bl)∧Below w.heap.size w w6∧StAt w6 base sp sd sf gen bl fm∧Blk w6 w.heap.size 44 #[X Y 0,G none 0 0,G none 0 0,G none 0 0]∧w.heap.size < q):=by
   obtain⟨f1,f2,f3,f4,f5,f6⟩:=HG.out
   have hb:Below w4.heap.size w4 w6:=((bR w4.heap.size w4).alloc (nR _) _).trans (hb6.mono (by simp))
   exact⟨hp6,own_base hown6 (by have:=f3.size;simp;omega),f1.below hb f1.lt,own_below f2 hb,f3.trans (hb.mono f3.size),f4.made hb,f5.below hb f5.lt,f6⟩
  obtain⟨q0,q1,q2,q3⟩:=HE.out.2.2.1.c4
  have z3:=HE.out.2.2.1.frozen 3
  obtain⟨r0,r1,r2,r3⟩:=HE.out.2.2.2.2.2.2.1.c4
  obtain⟨y0,y1,y2,y3⟩:=HE.out.2.2.2.2.2.2.1.f4
  have hne:q≠w.heap.size:=by have:=HE.out.2.2.2.2.2.2.2;omega
  have hne':w.heap.size≠q:=fun e=>hne e.symm
  clear SV HG hp6 hown6 hb6
  go_wp2_with fail
  have hk0:=HE.out.2.2.1.set_ 3 (G A9 fs.length k9)
  have hr0:=HE.out.2.2.2.2.2.2.1.far (p:=⟨q,3,none⟩) hne' (G A9 fs.length k9)
  have hr1:=hr0.set_ 0 (X Y gen)
  have hr2:=hr1.set_ 1 (G A1 bl.length c1)
  have hr3:=hr2.set_ 2 (G none 0 0)
  have hr4:=hr3.set_ 3 (G A9 fs.length k9)
  refine bodyPost_ret (results_cell_row rfl _ _ w.heap.size 44 #[X Y gen,G A1 bl.length c1,G none 0 0,G A9 fs.length k9] (0,0) _ rfl hr4 underlying44 rfl infoSt) rfl ?_
  refine⟨A1,c1,_,fs,rfl,?_,HE.out.1,?_,?_⟩
  ·exact own_set_far (own_set_far (own_set_far (own_set_far (own_set_far HE.out.2.2.2.1 HE.out.2.2.1 (by decide) 3 _) hr0 (by decide) 0 _) hr1 (by decide) 1 _) hr2 (by decide) 2 _) hr3 (by decide) 3 _
  ·exact own_set_far (own_set_far (own_set_far (own_set_far (own_set_far HE.out.2.1 HE.out.2.2.1 (by decide) 3 _) hr0 (by decide) 0 _) hr1 (by decide) 1 _) hr2 (by decide) 2 _) hr3 (by decide) 3 _
  ·have hq:=HE.out.2.2.2.2.2.2.2
   exact((((HE.out.2.2.2.2.1.setCell (p:=⟨q,3,none⟩) (by show w.heap.size≤q;omega) _).setCell (p:=⟨w.heap.size,0,none⟩) (nR _) _).setCell (p:=⟨w.heap.size,1,none⟩) (nR _) _).setCell (p:=⟨w.heap.size,2,none⟩) (nR _) _).setCell (p:=⟨w.heap.size,3,none⟩) (nR _) _
theorem StAt.low {w:World}{base base' sp sd sf gen:Nat}{bl:List Be}{fm:List (Tu×Fl)}(h:StAt w base sp sd sf gen bl fm)(hb:base'≤base):StAt w base' sp sd sf gen bl fm:=by
 obtain⟨A,c,hk,ho⟩:=h.blk
 exact⟨nT hb h.los,nT hb h.lod,nT hb h.lof,nT hb h.hi,h.ne,⟨A,c,hk,own_base ho hb⟩,h.dr,h.fm⟩
theorem stocreate_ok (base d mn ms Q V size:Nat)(w:World)(h:DiskAt w base d mn ms ⟨Q,0,0,[],[],[],[]⟩)(h1:1≤V)(h3:V≤3)(hs1:16≤size)(hs2:size≤1048576)(hQ:1000≤Q):
  Calls Pg 31 #[PT (some ⟨d,0,none⟩),X Y V,X Y size] w fun e w'=>∃ss lg ms' f1 f2 sp sd sf,e=rT (tU #[PT (some ⟨ss,0,none⟩),X Y 0])∧f1≠f2∧w.heap.size≤ss∧w.heap.size≤ms'∧w.heap.size≤sd∧w.heap.size≤sf∧ms'≠sd∧ms'≠sf∧
   DiskAt w' base d mn ms' (diskL Q 6 f1 f2 [] 0 V)∧LogAt w' base lg d size V 2 [1] false∧StAt w' base sp sd sf 0 [] []∧StoAt w' base ss lg sp∧Fr KD [mn] base w w':=by
 have hbase:=h.hi
 have CC:=jH (create_ok base d mn ms Q V size w h h1 h3 hs1 hs2 hQ)
 clear h
 go_enter func31,ntmps31
 go_wp2_with fail
 refine CC.out.mono ?_
 rintro e w1 ⟨lg,ms',f1,f2,rfl,hf,hms,hlg,hD1,hL1,hF1⟩
 have H1:=jH (aI hf (aI hms (aI hD1 (aI hL1 hF1))))
 have CN:=jH (stnew_ok w1)
 have hsz1:=hF1.size
 clear hf hms hD1 hL1 hF1 CC
 go_wp2_with fail
 refine CN.out.mono ?_
 rintro e w2 ⟨sp,sd,sf,rfl,hS2,hb2⟩
 have HS:=jH (aI hS2 hb2)
 have hsz2:=hb2.size
 clear hS2 hb2 CN
 go_wp2_with fail
 have hb3:Below w2.heap.size w2 (w2.alloc (cL #[PT (some ⟨lg,0,none⟩),PT (some ⟨sp,0,none⟩),X Y 0,G none 0 0,G none 0 0,G none 0 0] 175)):=(bR _ _).alloc (nR _) _
 have hx3:Blk (w2.alloc (cL #[PT (some ⟨lg,0,none⟩),PT (some ⟨sp,0,none⟩),X Y 0,G none 0 0,G none 0 0,G none 0 0] 175)) w2.heap.size 175 #[PT (some ⟨lg,0,none⟩),PT (some ⟨sp,0,none⟩),X Y 0,G none 0 0,G none 0 0,G none 0 0]:=Blk.new w2 _ _
 have hsz3:(w2.alloc (cL #[PT (some ⟨lg,0,none⟩),PT (some ⟨sp,0,none⟩),X Y 0,G none 0 0,G none 0 0,G none 0 0] 175)).heap.size=w2.heap.size + 1:=by simp
 generalize (w2.alloc (cL #[PT (some ⟨lg,0,none⟩),PT (some ⟨sp,0,none⟩),X Y 0,G none 0 0,G none 0 0,G none 0 0] 175))=w3 at *
 have CV:=jH (stview_ok w1.heap.size sp sd sf 0 [] [] w3 (HS.out.1.made hb3) (by simp) (by simp))
 refine CV.out.mono ?_
 rintro e w4 ⟨A4,c4,v4,fs4,rfl,-,-,hown4,hb4⟩
 obtain⟨A5,k5,rfl⟩:=own_slice hown4
 have hsz4:=hb4.size
 have hx4:=hx3.below hb4 hx3.lt
 obtain⟨ss,hss⟩:∃ss,ss=w2.heap.size:=⟨_,rfl⟩
 rw[←hss] at hx4⊢
 obtain⟨-,-,z2,z3,z4,z5⟩:=hx4.f6
 obtain⟨-,-,y2,y3,y4,y5⟩:=hx4.c6
 have HX:=jH (aI hx4 (aI hb3 (aI hb4 (aI hss (aI hsz1 (aI hsz2 (aI hsz3 hsz4)))))))
 clear hx3 hx4 hb3 hb4 hown4 CV hss hsz1 hsz2 hsz3 hsz4
 go_wp2_with fail
 obtain⟨hx4,hb3,hb4,hss,hsz1,hsz2,hsz3,hsz4⟩:=HX.out
 obtain⟨hf,hms,hD1,hL1,hF1⟩:=H1.out
 obtain⟨hS2,hb2⟩:=HS.out
 have hb24:Below w2.heap.size w2 w4:=hb3.trans (hb4.mono (by omega))
 have hb25:=(((hb24.setCell (p:=⟨ss,2,none⟩) (by show w2.heap.size≤ss;omega) (X Y 0)).setCell (p:=⟨ss,3,none⟩) (by show w2.heap.size≤ss;omega) (G A4 0 c4)).setCell (p:=⟨ss,4,none⟩) (by show w2.heap.size≤ss;omega) (G none 0 0)).setCell (p:=⟨ss,5,none⟩) (by show w2.heap.size≤ss;omega) (G A5 fs4.length k5)
 have hb15:=hb2.trans (hb25.mono (by omega))
 have hx5:=(((hx4.set_ 2 (X Y 0)).set_ 3 (G A4 0 c4)).set_ 4 (G none 0 0)).set_ 5 (G A5 fs4.length k5)
 have hlms:=hD1.sure.lt
 have hlod:=hS2.lod
 have hlof:=hS2.lof
 go_ret2
 refine⟨ss,lg,ms',f1,f2,sp,sd,sf,rfl,hf,by omega,hms,by omega,by omega,by omega,by omega,hD1.made hb15,hL1.made hb15,(hS2.made hb25).low (by omega),⟨by omega,_,_,_,_,hx5⟩,hF1.made hb15 (by omega)⟩
end
section
open Go.RowKit Go.Maps
structure StoreAt (w:World)(base ss lg sp sd sf d mn ms size Q ops f1 f2 s:Nat)(L:List Nat)(gen:Nat)(bl:List Be)(fm:List (Tu×Fl)):Prop where
 sto:StoAt w base ss lg sp
 st:StAt w base sp sd sf gen bl fm
 dk:DiskAt w base d mn ms (diskL Q ops f1 f2 L s 3)
 lg:LogAt w base lg d size 3 2 [1] false
 nef:f1≠f2
 mm:mn≠sf
 md:mn≠sd
 s1:ms≠sf
 s2:ms≠sd
section
variable {w w':World}{base ss lg sp sd sf d mn ms size Q ops f1 f2 s:Nat}{L:List Nat}{gen:Nat}{bl:List Be}{fm:List (Tu×Fl)}
theorem StoreAt.made (h:StoreAt w base ss lg sp sd sf d mn ms size Q ops f1 f2 s L gen bl fm)(hb:Below w.heap.size w w'):StoreAt w' base ss lg sp sd sf d mn ms size Q ops f1 f2 s L gen bl fm:=
 {h with sto:=h.sto.made hb,st:=h.st.made hb,dk:=h.dk.made hb,lg:=h.lg.made hb}
end
theorem wok_put (base sp sd sf gen mn:Nat)(bl:List Be)(fm:List (Tu×Fl))(f:Fl)(hf:FlOk f)(hlen:fm.length < 256):WOk (fun _=>True) base sp sd sf gen gen bl bl fm (mput fm f.k f) 1 (putB f).length (putB f) (recC 1 f 0 (G none 0 0)) mn where
 env:=fun _ _ _ _=>trivial
 may:=fun W _=>recmay_put f hf W
 app:=fun base2 sp2 sd2 sf2 W _ hS=>(apply_put base2 sp2 sd2 sf2 gen bl fm f hf W hS hlen).mono fun _ _ ⟨h1,_,h3⟩=>⟨h1,h3.below⟩
 enc:=fun W _=>recenc_put f hf W
 into:=fun W _=>(recin_put f W).mono fun _ W' ⟨h1,h2⟩=>⟨_,h1,h2,fun h=>(apply_put base sp sd sf gen bl fm f hf W' h hlen).mono fun _ _ ⟨g1,g2,g3⟩=>⟨g1,g2,g3.mono (by simp) (by simp)⟩⟩
theorem wok_del (base sp sd sf gen mn:Nat)(bl:List Be)(fm:List (Tu×Fl))(k:Tu)(hk:TuOk k)(hmay:mayTu k=true):WOk (fun _=>True) base sp sd sf gen gen bl bl fm (mdel fm k) 2 (tupB k).length (tupB k) (recD k) mn where
 env:=fun _ _ _ _=>trivial
 may:=fun W _=>recmay_del k hmay W
 app:=fun base2 sp2 sd2 sf2 W _ hS=>(apply_del base2 sp2 sd2 sf2 gen bl fm k hk hmay W hS).mono fun _ _ ⟨h1,_,h3⟩=>⟨h1,h3.below⟩
 enc:=fun W _=>recenc_del k hk hmay W
 into:=fun W _=>(recin_del k W).mono fun _ W' ⟨h1,h2⟩=>⟨_,h1,h2,fun h=>(apply_del base sp sd sf gen bl fm k hk hmay W' h).mono fun _ _ ⟨g1,g2,g3⟩=>⟨g1,g2,g3.mono (by simp) (by simp)⟩⟩
theorem wok_gen (base sp sd sf gen gn mn b0:Nat)(bl:List Be)(fm:List (Tu×Fl))(hgn:gn≤1000000)(A:Option Addr)(c:Nat)(l:List Be)(hok:BesOk l)(hmay:MayBs l.length l):WOk (fun W=>W.ownsRow b0 34 3 (G A l.length c) l.length (bks l)) base sp sd sf gen gn bl l fm fm 3 (genB gn l).length (genB gn l) (recG (gn:Int) (G A l.length c)) mn where
 env:=fun W W' h hf=>hf.own h (by decide)
 may:=fun W h=>recmay_gen gn hgn A l.length c W.heap.size l W (Reads.of_own h) (nR _) hmay.1 (beOk_of_may rfl hmay)
 app:=fun base2 sp2 sd2 sf2 W h hS=>(apply_gen base2 sp2 sd2 sf2 gen bl fm gn hgn A l.length c W.heap.size l W (Reads.of_own h) (nR _) hok hmay (own_capp h).1 (fun e=>own_nilz h e) hS).mono fun _ _ ⟨h1,_,h3⟩=>⟨h1,h3.below⟩
 enc:=fun W h=>recenc_gen gn hgn A l.length c W.heap.size l W (Reads.of_own h) (nR _) hmay.1 (beOk_of_may rfl hmay) (fun b hb=>(hok b hb).2.1)
 into:=fun W h=>(recin_gen (gn:Int) A l.length c W.heap.size l W (Reads.of_own h) (nR _) (by have:=hmay.1;omega) (fun e=>own_nilz h e)).mono fun _ W' ⟨A',c',h1,h2,h3⟩=>⟨_,h1,h3,fun hS=>(apply_gen base sp sd sf gen bl fm gn hgn A' l.length c' W'.heap.size l W' (Reads.of_own h2) (nR _) hok hmay (own_capp h2).1 (fun e=>own_nilz h2 e) hS).mono fun _ _ ⟨g1,g2,g3⟩=>⟨g1,g2,g3.mono (by simp) (by simp)⟩⟩
section
variable (base ss lg sp sd sf d mn ms size Q ops f1 f2 s:Nat)(L:List Nat)(gen:Nat)(bl:List Be)(fm:List (Tu×Fl))(w:World)
theorem stoput_ok (h:StoreAt w base ss lg sp sd sf d mn ms size Q ops f1 f2 s L gen bl fm)(f:Fl)(hf:FlOk f)(hlen:fm.length < 256)(hbl:bl.length≤1000)(hops:ops≤900000000000)(hfit:L.length=0∨L.length + 43≤size)(hQ:L.length + 69≤Q)(hL:43 + L.length≤1048576):
  Calls Pg 110 #[PT (some ⟨ss,0,none⟩),.agg (recC 1 f 0 (G none 0 0))] w fun e w'=>e=rT (X Y 0)∧StoreAt w' base ss lg sp sd sf d mn ms size Q (ops + 1) f1 f2 s (L++frameB 1 3 (putB f)) gen bl (mput fm f.k f)∧Fr KW [mn,sf] base w w':=
 (stowrite_any (fun _=>True) base ss lg sp sd sf gen gen d mn ms size Q ops f1 f2 s 1 (putB f).length (putB f) L bl bl fm (mput fm f.k f) _ _ _ _ _ _ _ _ _ _ _ _ _ w trivial (wok_put base sp sd sf gen mn bl fm f hf hlen) h.sto h.st h.dk h.lg hbl h.nef hops (by omega) (putB_all f) (by rw[putB_length];omega) (by rw[putB_length];omega) (by rw[putB_length];omega) (by rw[putB_length];omega) h.mm h.md h.s1).mono
  fun _ _ ⟨g1,g2,g3,g4,g5,g6⟩=>⟨g1,{h with sto:=g5,st:=g4,dk:=g2,lg:=g3},g6⟩
theorem stodel_ok (h:StoreAt w base ss lg sp sd sf d mn ms size Q ops f1 f2 s L gen bl fm)(k:Tu)(hk:TuOk k)(hmay:mayTu k=true)(hbl:bl.length≤1000)(hops:ops≤900000000000)(hfit:L.length=0∨L.length + 29≤size)(hQ:L.length + 55≤Q)(hL:29 + L.length≤1048576):
  Calls Pg 110 #[PT (some ⟨ss,0,none⟩),.agg (recD k)] w fun e w'=>e=rT (X Y 0)∧StoreAt w' base ss lg sp sd sf d mn ms size Q (ops + 1) f1 f2 s (L++frameB 2 3 (tupB k)) gen bl (mdel fm k)∧Fr KW [mn,sf] base w w':=
 (stowrite_any (fun _=>True) base ss lg sp sd sf gen gen d mn ms size Q ops f1 f2 s 2 (tupB k).length (tupB k) L bl bl fm (mdel fm k) _ _ _ _ _ _ _ _ _ _ _ _ _ w trivial (wok_del base sp sd sf gen mn bl fm k hk hmay) h.sto h.st h.dk h.lg hbl h.nef hops (by omega) (tupB_all k) (by rw[tupB_length];omega) (by rw[tupB_length];omega) (by rw[tupB_length];omega) (by rw[tupB_length];omega) h.mm h.md h.s1).mono
  fun _ _ ⟨g1,g2,g3,g4,g5,g6⟩=>⟨g1,{h with sto:=g5,st:=g4,dk:=g2,lg:=g3},g6⟩
theorem stogen_ok (h:StoreAt w base ss lg sp sd sf d mn ms size Q ops f1 f2 s L gen bl fm)(gn:Nat)(hgn:gn≤1000000)(A:Option Addr)(c b0:Nat)(l:List Be)(ho:w.ownsRow b0 34 3 (G A l.length c) l.length (bks l))(hok:BesOk l)(hmay:MayBs l.length l)(hbl:bl.length≤1000)(hops:ops≤900000000000)(hfit:L.length=0∨L.length + (21 + l.length * 7)≤size)(hQ:L.length + (47 + l.length * 7)≤Q)(hL:21 + l.length * 7 + L.length≤1048576):
  Calls Pg 110 #[PT (some ⟨ss,0,none⟩),.agg (recG (gn:Int) (G A l.length c))] w fun e w'=>e=rT (X Y 0)∧StoreAt w' base ss lg sp sd sf d mn ms size Q (ops + 1) f1 f2 s (L++frameB 3 3 (genB gn l)) gn l fm∧Fr KW [mn,sf] base w w':=
 (stowrite_any _ base ss lg sp sd sf gen gn d mn ms size Q ops f1 f2 s 3 (genB gn l).length (genB gn l) L bl l fm fm _ _ _ _ _ _ _ _ _ _ _ _ _ w ho (wok_gen base sp sd sf gen gn mn b0 bl fm hgn A c l hok hmay) h.sto h.st h.dk h.lg hbl h.nef hops (by omega) (genB_all gn l) (by rw[genB_length];have:=hmay.1;omega) (by rw[genB_length];omega) (by rw[genB_length];omega) (by rw[genB_length];omega) h.mm h.md h.s1).mono
  fun _ _ ⟨g1,g2,g3,g4,g5,g6⟩=>⟨g1,{h with sto:=g5,st:=g4,dk:=g2,lg:=g3},g6⟩
end
end
section
open Go.RowKit Go.Maps
def KY:List TypeId:=KD++[175]
theorem stosync_ok (base ss lg sp sd sf d mn ms size Q ops f1 f2 s:Nat)(L:List Nat)(gen:Nat)(bl:List Be)(fm:List (Tu×Fl))(w:World)(h:StoreAt w base ss lg sp sd sf d mn ms size Q ops f1 f2 s L gen bl fm)(hbl:bl.length≤1000)(hfm:fm.length≤1000000)(hops:ops≤900000000000):
  Calls Pg 47 #[PT (some ⟨ss,0,none⟩)] w fun e w'=>e=rT (X Y 0)∧StoreAt w' base ss lg sp sd sf d mn ms size Q (ops + 1) f1 f2 L.length L gen bl fm∧Fr KY [mn] base w w':=by
 have H:=jH h
 have CS:=jH (logsync_ok base lg d mn ms size Q ops f1 f2 s 3 L w h.dk h.lg h.nef hops)
 obtain⟨hss,u2,u3,u4,u5,hb⟩:=h.sto
 obtain⟨c0,c1⟩:=hb.c2
 have HB:=jH (aI hss hb)
 clear h hb hss
 go_enter func47,ntmps47
 go_wp2_with fail
 refine CS.out.mono ?_
 rintro e w1 ⟨rfl,hD1,hF1⟩
 have hb1:=hF1.blk _ _ _ HB.out.2 (by decide)
 have hS1:=H.out.st.fr hF1 (by decide) (by decide) (by have:=H.out.md;simp;exact fun e=>this e.symm) (by have:=H.out.mm;simp;exact fun e=>this e.symm)
 have hL1:=H.out.lg.fr hF1 (by decide) (by decide)
 have CV:=jH (stview_ok base sp sd sf gen bl fm w1 hS1 hbl hfm)
 obtain⟨-,d1⟩:=hb1.c2
 have H1:=jH (aI hD1 (aI hF1 (aI hb1 (aI hS1 hL1))))
 clear hD1 hF1 hb1 hS1 hL1 c0 c1 CS
 go_wp2_with fail
 refine CV.out.mono ?_
 rintro e w4 ⟨A4,c4,v4,fs4,rfl,-,-,hown4,hb4⟩
 obtain⟨A5,k5,rfl⟩:=own_slice hown4
 have hx4:=H1.out.2.2.1.below hb4 H1.out.2.2.1.lt
 obtain⟨-,-,z2,z3,z4,z5⟩:=hx4.f6
 obtain⟨-,-,y2,y3,y4,y5⟩:=hx4.c6
 have HX:=jH (aI hx4 hb4)
 clear hx4 hb4 hown4 CV d1
 go_wp2_with fail
 go_ret
 obtain⟨hx4,hb4⟩:=HX.out
 obtain⟨hD1,hF1,hb1,hS1,hL1⟩:=H1.out
 have hx5:=(((hx4.set_ 2 (X Y gen)).set_ 3 (G A4 bl.length c4)).set_ 4 (G none 0 0)).set_ 5 (G A5 fs4.length k5)
 have f1':Fr [175] [] base w1 w4:=Fr.of_below _ _ hb4 hS1.hi
 have f5:=(((f1'.set_ hx4 (by simp) HB.out.1 2 (X Y gen)).set_ (hx4.set_ 2 _) (by simp) HB.out.1 3 (G A4 bl.length c4)).set_ ((hx4.set_ 2 _).set_ 3 _) (by simp) HB.out.1 4 (G none 0 0)).set_ (((hx4.set_ 2 _).set_ 3 _).set_ 4 _) (by simp) HB.out.1 5 (G A5 fs4.length k5)
 refine⟨rfl,{H.out with sto:=⟨HB.out.1,_,_,_,_,hx5⟩,st:=hS1.fr f5 (by decide) (by decide) (by simp) (by simp),dk:=hD1.fr f5 (by decide) (by decide) (by decide) (by decide) (by simp) (by simp),lg:=hL1.fr f5 (by decide) (by decide)},(hF1.mono (by decide) (by simp)).trans (f5.mono (by decide) (by simp))⟩
def balC (slots fl idle seg quota d ss tp chp dp gen:Nat)(bs:Value)(now:Nat):Array Value:=
 #[X Z 168364297,X Y slots,X Y fl,X Y idle,X Y 1500,X Y seg,X Y quota,X Y 3,PT (some ⟨d,0,none⟩),PT (some ⟨ss,0,none⟩),PT (some ⟨tp,0,none⟩),PT (some ⟨chp,0,none⟩),PT (some ⟨dp,0,none⟩),X Y gen,bs,X Y now,X Y 0,bL false,bL false]
theorem keep_non (l:List Be):keepBe (fun b:Be=>(fun _:Int=>false) b.id) l=l:=by unfold keepBe;simp
theorem But.fr {p:Nat}{w w':World}{t:TypeId}{cs:Array Value}{base:Nat}(h:But p w w')(hp:Blk w p t cs)(hb:base≤p):Fr [t] [] base w w':=by
 refine⟨h.below hb (nT hb (Nat.le_of_lt hp.lt)),fun g t' cs' h0 ht=>h.blk h0 (fun e=>?_),fun b es c h0 _=>(h.block b (Array.getElem?_eq_some_iff.1 h0).1 (fun e=>?_)).trans h0⟩
 ·subst e
  have h1:w.heap[g]? =some (.cells cs t (0,0)):=hp
  have h2:w.heap[g]? =some (.cells cs' t' (0,0)):=h0
  rw[h1] at h2
  injection h2 with h2
  injection h2 with _ h3
  exact ht (by simp[h3])
 ·subst e
  have h1:w.heap[b]? =some (.cells cs t (0,0)):=hp
  rw[h1] at h0
  cases h0
theorem Ch.fr {w w':World}{p slots base:Nat}{l:List Be}{t:List Int}{made:Int}{K:List TypeId}{M:List Nat}(h:Ch w p slots l t made)(hf:Fr K M base w w')(h1:269∉K)(h2:34∉K)(h3:3∉K):Ch w' p slots l t made:=by
 obtain⟨A,n,c,A2,c2,g1,g2,g3,g4⟩:=h
 exact⟨A,n,c,A2,c2,hf.blk _ _ _ g1 h1,hf.own g2 h2,hf.own g3 h3,g4⟩
theorem bchoose_ok (base b0 bp slots fl idle seg quota d ss tp chp dp gen now:Nat)(A:Option Addr)(c:Nat)(bl l0:List Be)(t0:List Int)(made:Int)(dm qp qm:Nat)(w:World)
  (hb:Blk w bp 69 (balC slots fl idle seg quota d ss tp chp dp gen (G A bl.length c) now))(ho:w.ownsRow b0 34 3 (G A bl.length c) bl.length (bks bl))(hch:Ch w chp slots l0 t0 made)(hd:Dr0 w base dp dm qp qm)(hm:mayN slots=true)(hok:BesOk bl)(hmay:MayBs bl.length bl)(hmd:0≤made∧made≤1000000):
  Calls Pg 92 #[PT (some ⟨bp,0,none⟩)] w fun e w'=>e=rT (tU #[])∧Ch w' chp slots bl (tableF bl slots) (made + 1)∧But chp w w':=by
 have CS:=set_yes chp slots l0 t0 made (.func (.func 185) #[PT (some ⟨dp,0,none⟩)] #[]) (fun b=>(fun _:Int=>false) b.id) A bl.length c w.drew.heap.size bl w.drew (hch.below (bR _ _).drew) hm (Reads.of_own ho).drew (nR _) hok (own_capp ho).1 (fun e=>own_nilz ho e) hmay hmd (fun W hW=>
  gwo_meth 185 (PT (some ⟨dp,0,none⟩)) (fun _=>false) (enters_of func185 (by kernel_rfl) rfl) A bl.length c W.heap.size bl W (Reads.of_own (own_below (World.ownsRow.drew ho) hW)) (nR _) (by have:=hmay.1;omega) (fun e=>own_nilz ho e) (fun W' id hW'=>dris0 base dp dm qp qm id W' ((hd.made ((bR _ _).drew.trans hW)).made hW')))
 rw[keep_non] at CS
 have HS:=jH CS
 have hne:bp≠chp:=by obtain⟨cs,hk⟩:=hch.blk;exact hb.ne_ hk (by decide)
 have c0:w.drew.cell? ⟨bp,11,none⟩=some (PT (some ⟨chp,0,none⟩))∧w.drew.cell? ⟨bp,12,none⟩=some (PT (some ⟨dp,0,none⟩))∧w.drew.cell? ⟨bp,14,none⟩=some (G A bl.length c):=⟨by have:=hb.drew.cell 11;simpa [balC] using this,by have:=hb.drew.cell 12;simpa [balC] using this,by have:=hb.drew.cell 14;simpa [balC] using this⟩
 have HB:=jH hb
 clear hb ho hch hd CS
 go_enter func92,ntmps92
 go_wp2_with fail
 go_region_held3 (fun wS=>wS.cell? ⟨bp,11,none⟩=some (PT (some ⟨chp,0,none⟩))∧wS.cell? ⟨bp,12,none⟩=some (PT (some ⟨dp,0,none⟩))∧wS.cell? ⟨bp,14,none⟩=some (G A bl.length c)) (first|with_reducible exact c0|with_reducible exact e0|fail)
  (first
   |(go_at_call 184;(with_reducible refine HS.out.mono ?_);rintro e w1 ⟨rfl,hc1,hbut⟩;have k1:=hbut.blk HB.out.drew hne;have e0:w1.cell? ⟨bp,11,none⟩=some (PT (some ⟨chp,0,none⟩))∧w1.cell? ⟨bp,12,none⟩=some (PT (some ⟨dp,0,none⟩))∧w1.cell? ⟨bp,14,none⟩=some (G A bl.length c):=⟨by {have:=k1.cell 11;simpa [balC] using this},by {have:=k1.cell 12;simpa [balC] using this},by {have:=k1.cell 14;simpa [balC] using this}⟩))
 have HF:Hid (Ch w1 chp slots bl (tableF bl slots) (made + 1)∧But chp w w1):=⟨hc1,(But.of_below (bR w.heap.size w).drew).trans hbut⟩
 clear hc1 hbut k1 e0
 go_wp2
 go_end0
 exact⟨rfl,HF.out⟩
theorem recB_of {w:World}{q bp:Nat}{t1 t2:TypeId}{v0 v1 v2 v3 v4 v5 v6 v7 v8 v9 v10 v11 v12 v13:Value}{slots fl idle seg quota d ss tp chp dp gen now:Nat}{bs:Value}(hx:Blk w q t1 #[v0,v1,v2,v3,v4,v5,v6,v7,v8,v9,v10,v11,v12,v13])(hb:Blk w bp t2 (balC slots fl idle seg quota d ss tp chp dp gen bs now)):w.cell? ⟨q,0,none⟩=some v0∧w.cell? ⟨q,1,none⟩=some v1∧w.cell? ⟨q,2,none⟩=some v2∧w.cell? ⟨q,3,none⟩=some v3∧w.cell? ⟨q,4,none⟩=some v4∧w.cell? ⟨q,5,none⟩=some v5∧w.cell? ⟨q,6,none⟩=some v6∧w.cell? ⟨q,7,none⟩=some v7∧w.cell? ⟨q,8,none⟩=some v8∧w.cell? ⟨q,9,none⟩=some v9∧w.cell? ⟨q,10,none⟩=some v10∧w.cell? ⟨q,11,none⟩=some v11∧w.cell? ⟨q,12,none⟩=some v12∧w.cell? ⟨q,13,none⟩=some v13∧w.cell? ⟨bp,9,none⟩=some (PT (some ⟨ss,0,none⟩))∧w.cell? ⟨bp,17,none⟩=some (bL false):=
 ⟨hx.cell 0,hx.cell 1,hx.cell 2,hx.cell 3,hx.cell 4,hx.cell 5,hx.cell 6,hx.cell 7,hx.cell 8,hx.cell 9,hx.cell 10,hx.cell 11,hx.cell 12,hx.cell 13,by have:=hb.cell 9;simpa [balC] using this,by have:=hb.cell 17;simpa [balC] using this⟩
theorem bwrite_any (base bp slots fl idle seg quota d ss tp chp dp gen now:Nat)(bs:Value)(M:List Nat)(Q:World→World→Prop)(v0 v1 v2 v3 v4 v5 v6 v7 v8 v9 v10 v11 v12 v13:Value)(w:World)
  (hb:Blk w bp 69 (balC slots fl idle seg quota d ss tp chp dp gen bs now))(hbase:base≤w.heap.size)
  (CW:∀W,Below w.heap.size w W→Calls Pg 110 #[PT (some ⟨ss,0,none⟩),aG #[v0,v1,v2,v3,v4,v5,v6,v7,v8,v9,v10,v11,v12,v13]] W fun e w'=>e=rT (X Y 0)∧Q W w'∧Fr KW M base W w'):
  Calls Pg 42 #[PT (some ⟨bp,0,none⟩),aG #[v0,v1,v2,v3,v4,v5,v6,v7,v8,v9,v10,v11,v12,v13]] w fun e w'=>e=rT (tU #[])∧(∃W,Below w.heap.size w W∧Q W w')∧Fr KW M base w w':=by
 have hx:=Blk.new w 119 #[v0,v1,v2,v3,v4,v5,v6,v7,v8,v9,v10,v11,v12,v13]
 have hb0:=(bR w.heap.size w).alloc (nR _) (cL #[v0,v1,v2,v3,v4,v5,v6,v7,v8,v9,v10,v11,v12,v13] 119)
 have hbb:=hb.below hb0 hb.lt
 have CC:=jH (CW (w.alloc (cL #[v0,v1,v2,v3,v4,v5,v6,v7,v8,v9,v10,v11,v12,v13] 119)).drew hb0.drew)
 obtain⟨q,hq⟩:∃q,q=w.heap.size:=⟨_,rfl⟩
 rw[←hq] at hx hb0
 have d0:=recB_of hx.drew hbb.drew
 have e17:(w.alloc (cL #[v0,v1,v2,v3,v4,v5,v6,v7,v8,v9,v10,v11,v12,v13] 119)).cell? ⟨bp,17,none⟩=some (bL false):=by have:=hbb.cell 17;simpa [balC] using this
 have H:=jH (aI hx (aI hb0 (aI hbb hq)))
 clear hb CW hx hb0 hbb
 go_enter func42,ntmps42
 go_wp2_with fail
 rw[←hq]
 generalize w.alloc (cL #[v0,v1,v2,v3,v4,v5,v6,v7,v8,v9,v10,v11,v12,v13] 119)=w1 at *
 clear hq
 go_region_held3 (fun wS=>wS.cell? ⟨q,0,none⟩=some v0∧wS.cell? ⟨q,1,none⟩=some v1∧wS.cell? ⟨q,2,none⟩=some v2∧wS.cell? ⟨q,3,none⟩=some v3∧wS.cell? ⟨q,4,none⟩=some v4∧wS.cell? ⟨q,5,none⟩=some v5∧wS.cell? ⟨q,6,none⟩=some v6∧wS.cell? ⟨q,7,none⟩=some v7∧wS.cell? ⟨q,8,none⟩=some v8∧wS.cell? ⟨q,9,none⟩=some v9∧wS.cell? ⟨q,10,none⟩=some v10∧wS.cell? ⟨q,11,none⟩=some v11∧wS.cell? ⟨q,12,none⟩=some v12∧wS.cell? ⟨q,13,none⟩=some v13∧wS.cell? ⟨bp,9,none⟩=some (PT (some ⟨ss,0,none⟩))∧wS.cell? ⟨bp,17,none⟩=some (bL false)) (first|with_reducible exact d0|with_reducible exact d1|fail)
  (first
   |(go_at_call 110;(with_reducible refine CC.out.mono ?_);rintro e w2 ⟨rfl,hQ,hF⟩;have d1:=recB_of (hF.blk _ _ _ H.out.1.drew (by decide)) (hF.blk _ _ _ H.out.2.2.1.drew (by decide))))
 have HF:Hid ((∃W,Below w.heap.size w W∧Q W w2)∧Fr KW M base w w2):=by
  obtain⟨h1,h2,h3,h4⟩:=H.out
  rw[h4] at h2
  exact⟨⟨_,h2.drew,hQ⟩,(Fr.of_below KW M h2.drew hbase).trans hF⟩
 clear hQ hF d1 d0 CC
 go_wp2
 go_end0
 exact⟨rfl,HF.out⟩
theorem bnext_ok (base bp slots fl idle seg quota d ss tp chp dp gen now:Nat)(bs:Value)(M:List Nat)(Q:World→World→Prop)(A:Option Addr)(n c:Nat)(w:World)
  (hb:Blk w bp 69 (balC slots fl idle seg quota d ss tp chp dp gen bs now))(hbase:base≤w.heap.size)(hlo:base≤bp)(hgen:gen + 1≤1000000)
  (CW:∀W,Fr [69] [] base w W→Calls Pg 110 #[PT (some ⟨ss,0,none⟩),.agg (recG ((gen + 1:Nat):Int) (G A n c))] W fun e w'=>e=rT (X Y 0)∧Q W w'∧Fr KW M base W w'):
  Calls Pg 115 #[PT (some ⟨bp,0,none⟩),G A n c] w fun e w'=>e=rT (tU #[])∧(∃W,Fr [69] [] base w W∧Q W w')∧Blk w' bp 69 (balC slots fl idle seg quota d ss tp chp dp (gen + 1) (G A n c) now)∧Fr (KW++[69]) M base w w':=by
 have hw:IntKind.i64.wrap ((gen:Int) + 1)=((gen + 1:Nat):Int):=by unfold IntKind.wrap;simp[IntKind.bits,IntKind.signed];omega
 have hmn:min (((gen + 1:Nat):Int)) 1000000=((gen + 1:Nat):Int):=by omega
 have c13:=hb.cell 13
 have z13:=hb.frozen 13
 have c14:=hb.cell 14
 have z14:=hb.frozen 14
 simp only[balC,ga,gz,gN] at c13 c14
 have hb2:Blk ((w.setCell ⟨bp,13,none⟩ (X Y (gen + 1:Nat))).setCell ⟨bp,14,none⟩ (G A n c)) bp 69 (balC slots fl idle seg quota d ss tp chp dp (gen + 1) (G A n c) now):=(hb.set_ 13 _).set_ 14 _
 have hf2:Fr [69] [] base w ((w.setCell ⟨bp,13,none⟩ (X Y (gen + 1:Nat))).setCell ⟨bp,14,none⟩ (G A n c)):=((Fr.refl _ _ base w).set_ hb (by simp) hlo 13 _).set_ (hb.set_ 13 _) (by simp) hlo 14 _
 have H:=jH (aI hb2 hf2)
 have HC:=jH CW
 clear hb hb2 hf2 CW
 go_enter func115,ntmps115
 go_wp2_with fail
 rw[show min ((gen:Int) + 1) 1000000=((gen + 1:Nat):Int) by omega]
 generalize (w.setCell ⟨bp,13,none⟩ (X Y (gen + 1:Nat))).setCell ⟨bp,14,none⟩ (G A n c)=w1 at H⊢
 have hs1:=H.out.2.size
 have CB:=jH (bwrite_any base bp slots fl idle seg quota d ss tp chp dp (gen + 1) now (G A n c) M Q _ _ _ _ _ _ _ _ _ _ _ _ _ _ w1 H.out.1 (nT hbase hs1) (fun W hW=>HC.out W (H.out.2.made hW (nT hbase hs1))))
 refine CB.out.mono ?_
 rintro e w2 ⟨rfl,⟨W,hW,hQ⟩,hF⟩
 have HF:Hid ((∃W,Fr [69] [] base w W∧Q W w2)∧Blk w2 bp 69 (balC slots fl idle seg quota d ss tp chp dp (gen + 1) (G A n c) now)∧Fr (KW++[69]) M base w w2):=
  ⟨⟨W,H.out.2.made hW (nT hbase hs1),hQ⟩,hF.blk _ _ _ H.out.1 (by decide),(H.out.2.mono (by simp) (by simp)).trans (hF.mono (fun t h=>List.mem_append_left _ h) (fun _ h=>h))⟩
 clear CB hQ hF HC
 go_wp2
 go_end0
 exact⟨rfl,HF.out⟩
end
section
open Go.RowKit
def primeAt (z:Int):Nat:=[3,7,13,61,127,251].getD (u64n z % 6) 3
def cfgC (slots flows:Nat):Array Value:=#[X Z 168364297,X Y slots,X Y flows,X Y 51,X Y 1500,X Y 316,X Y 32000,X Y 3]
theorem infoCfg:(Pg.info? 61).map (·.size)=some 8:=by kernel_rfl
theorem cfg_any (z:Int)(fl:Nat)(hfl:fl < 20)(w:World):Calls Pg 15 #[X Y z,X Y fl,X Y 50,X Y 300,X Y 30000,X Y 2] w fun e w'=>e=rT (.agg (cfgC (primeAt z) fl))∧Below w.heap.size w w':=by
 have e0:=u64_wrap z
 have hj:u64n z % 6 < 6:=Nat.mod_lt _ (by omega)
 have e1:((u64n z:Nat):Int).tmod 6=((u64n z % 6:Nat):Int):=by rw[Int.tmod_eq_emod_of_nonneg (by omega)];omega
 have e2:IntKind.u64.wrap ((u64n z % 6:Nat):Int)=((u64n z % 6:Nat):Int):=by rw[IntKind.wrap_u64];omega
 have e3:IntKind.i64.wrap ((u64n z % 6:Nat):Int)=((u64n z % 6:Nat):Int):=by rw[IntWalk.i64_in _ (by omega)]
 have hp:primeAt z=[3,7,13,61,127,251].getD (u64n z % 6) 3:=rfl
 obtain⟨pz,hpz⟩:∃pz,primeAt z=pz:=⟨_,rfl⟩
 rw[hpz] at hp⊢
 clear hpz
 generalize u64n z=u at *
 obtain⟨j,hjj⟩:∃j,u % 6=j:=⟨_,rfl⟩
 rw[hjj] at hj e1 e2 e3 hp
 clear hjj
 have g1:IntKind.u64.wrap (fl:Int)=(fl:Int):=by rw[IntKind.wrap_u64];omega
 have g2:(fl:Int).tmod 20=(fl:Int):=by rw[Int.tmod_eq_emod_of_nonneg (by omega)];omega
 have g3:IntKind.i64.wrap (fl:Int)=(fl:Int):=by rw[IntWalk.i64_in _ (by omega)]
 unfold cfgC
 have:j=0∨j=1∨j=2∨j=3∨j=4∨j=5:=by omega
 rcases this with rfl|rfl|rfl|rfl|rfl|rfl
 all_goals
  simp only[show ((0:Nat):Int)=0 from rfl,show ((1:Nat):Int)=1 from rfl,show ((2:Nat):Int)=2 from rfl,show ((3:Nat):Int)=3 from rfl,show ((4:Nat):Int)=4 from rfl,show ((5:Nat):Int)=5 from rfl] at e1 e2 e3
  simp at hp
  subst hp
  go_enter func15,ntmps15
  go_wp2_with fail
  refine bodyPost_ret (results_cell_row rfl _ _ w.heap.size 61 _ (0,0) _ rfl ((Blk.new w 61 _).alloc _) underlying61 rfl infoCfg) rfl ?_
  exact⟨rfl,((bR w.heap.size w).alloc (nR _) _).alloc (by simp) _⟩
theorem bwithin_yes (n a b:Nat)(h1:a≤n)(h2:n≤b)(w:World):Calls Pg 84 #[X Y n,X Y a,X Y b] w fun e w'=>e=rT (bL true)∧w=w':=by
 have d1:decide ((a:Int)≤(n:Int))=true:=decide_eq_true (by omega)
 have d2:decide ((n:Int)≤(b:Int))=true:=decide_eq_true (by omega)
 go_enter func84,ntmps84
 go_wp2_with fail
 go_ret
 exact⟨rfl,rfl⟩
def cfgA (slots flows idle seg quota:Nat):Array Value:=#[X Z 168364297,X Y slots,X Y flows,X Y idle,X Y 1500,X Y seg,X Y quota,X Y 3]
structure CfgOk (slots flows idle seg quota:Nat):Prop where
 a1:slots∈[3,7,13,61,127,251]
 a2:flows≤256
 a3:1≤idle
 a4:idle≤1099511627776
 a5:16≤seg
 a6:seg≤1048576
 a7:quota≤1000000
 a8:1000≤quota
theorem bmay_ok (slots flows idle seg quota:Nat)(h:CfgOk slots flows idle seg quota)(w:World):Calls Pg 29 #[.agg (cfgA slots flows idle seg quota)] w fun e w'=>e=rT (bL true)∧Below w.heap.size w w':=by
 obtain⟨h1,h2,h3,h4,h5,h6,h7,h8⟩:=h
 have hm:mayN slots=true:=by
  simp at h1
  rcases h1 with rfl|rfl|rfl|rfl|rfl|rfl<;>decide
 have hs:slots≤1000000:=by
  simp at h1
  omega
 have CM:=jH (may_any slots hs)
 rw[hm] at CM
 have hb:=(bR w.heap.size w).alloc (nR _) (cL (cfgA slots flows idle seg quota) 61)
 have C1:=jH (bwithin_yes flows 0 256 (by omega) h2)
 have C2:=jH (bwithin_yes 1500 0 2000 (by omega) (by omega))
 have C3:=jH (bwithin_yes seg 16 1048576 h5 h6)
 have C4:=jH (bwithin_yes quota 0 67108864 (by omega) (by omega))
 have C5:=jH (bwithin_yes 3 1 3 (by omega) (by omega))
 have d1:decide ((1:Int)≤(idle:Int))=true:=decide_eq_true (by omega)
 have d2:decide ((idle:Int)≤1099511627776)=true:=decide_eq_true (by omega)
 simp only[show ((0:Nat):Int)=0 from rfl,show ((256:Nat):Int)=256 from rfl,show ((1500:Nat):Int)=1500 from rfl,show ((2000:Nat):Int)=2000 from rfl,show ((16:Nat):Int)=16 from rfl,show ((1048576:Nat):Int)=1048576 from rfl,show ((67108864:Nat):Int)=67108864 from rfl,show ((3:Nat):Int)=3 from rfl,show ((1:Nat):Int)=1 from rfl] at C1 C2 C3 C4 C5
 unfold cfgA at *
 clear h1 hm
 go_enter func29,ntmps29
 go_wp2_with fail
 refine(CM.out _).mono ?_
 rintro e w1 ⟨rfl,rfl⟩
 go_wp2_with fail
 refine(C1.out _).mono ?_
 rintro e w1 ⟨rfl,rfl⟩
 go_wp2_with fail
 refine(C2.out _).mono ?_
 rintro e w1 ⟨rfl,rfl⟩
 go_wp2_with fail
 refine(C3.out _).mono ?_
 rintro e w1 ⟨rfl,rfl⟩
 go_wp2_with fail
 refine(C4.out _).mono ?_
 rintro e w1 ⟨rfl,rfl⟩
 go_wp2_with fail
 refine(C5.out _).mono ?_
 rintro e w1 ⟨rfl,rfl⟩
 go_wp2_with fail
 go_ret
 exact⟨rfl,hb⟩
theorem first_ok (w:World):Calls Pg 24 #[] w fun e w'=>e=rT (.agg (cfgA 13 8 30 200 20000))∧Below w.heap.size w w':=by
 go_enter func24,ntmps24
 go_wp2_with fail
 refine bodyPost_ret (results_cell_row rfl _ _ w.heap.size 61 _ (0,0) _ rfl (Blk.new w 61 _) underlying61 rfl infoCfg) rfl ?_
 exact⟨rfl,(bR w.heap.size w).alloc (nR _) _⟩
end
section
open Go.RowKit Go.Maps
theorem bahead_ok (bp slots fl idle seg quota d ss tp chp dp gen now:Nat)(bs:Value)(k:Nat)(hk:k≤1000000)(ht:now + k≤1099511627776)(w:World)
  (hb:Blk w bp 69 (balC slots fl idle seg quota d ss tp chp dp gen bs now)):
  Calls Pg 111 #[PT (some ⟨bp,0,none⟩),X Y k,X Y 0] w fun e w'=>e=rT (tU #[X Y (now + k:Nat),bL true])∧w'=w:=by
 have hw:IntKind.i64.wrap ((now:Int) + (k:Int))=((now + k:Nat):Int):=by unfold IntKind.wrap;simp[IntKind.bits,IntKind.signed];omega
 have d1:decide (((now + k:Nat):Int)≤1099511627776)=true:=decide_eq_true (by omega)
 have c15:=hb.cell 15
 simp only[balC,ga,gz,gN] at c15
 have CW:=bwithin_yes k 0 1000000 (by omega) hk
 rw[show ((1000000:Nat):Int)=1000000 from rfl,show ((0:Nat):Int)=0 from rfl] at CW
 have HW:=jH CW
 clear hb CW
 go_enter func111,ntmps111
 go_wp2_with fail
 refine(HW.out w).mono ?_
 rintro e w1 ⟨rfl,rfl⟩
 go_wp2_with fail
 go_ret2
 refine⟨?_,rfl⟩
 have d2:decide ((now:Int) + (k:Int)≤1099511627776)=true:=decide_eq_true (by omega)
 show Ending.returned (tU #[X Y ((now:Int) + (k:Int)),bL (decide ((now:Int) + (k:Int)≤1099511627776))])=_
 rw[d2,Int.natCast_add]
end
section
open Go.RowKit
def PicksAt (w:World)(B pk:Nat):Prop:=∃(A:Option Addr) (n c:Nat) (l:List Nat),Blk w pk 23 #[G A n c]∧Reads w B 1 A n (bv l)∧n≤c∧n≤1099511627776∧AllB l
theorem grown_setP (w:World)(pk:Nat)(u:Value):But pk w (w.setCell ⟨pk,0,none⟩ u):=
 ⟨rfl,rfl,rfl,by simp,fun k _ hk=>Below.heap_setCell w ⟨pk,0,none⟩ u k (fun e=>hk e)⟩
theorem pick_any (pk B m:Nat)(w:World)(hm:m≤1099511627776)(h:PicksAt w B pk)(hB:B≤pk):
  Calls Pg 33 #[X Y m,PT (some ⟨pk,0,none⟩)] w fun e w'=>∃x:Nat,x≤m∧e=rT (X Y x)∧PicksAt w' B pk∧But pk w w':=by
 obtain⟨A,n,c,l,hb,hr,hnc,hn,ha⟩:=h
 have c0:=hb.c1
 have f0:=hb.frozen 0
 by_cases h0:n=0
 ·have HX:Hid (PicksAt w B pk):=⟨A,n,c,l,hb,hr,hnc,hn,ha⟩
  subst h0
  clear hb hr
  go_enter func33,ntmps33
  go_wp2_with fail
  go_ret
  exact⟨0,Nat.zero_le _,rfl,HX.out,But.of_below (bR _ _)⟩
 ·obtain⟨b,off,rfl,hbB,hcl⟩:=hr.plain (by omega) (by omega)
  have hl:l.length=n:=by have:=hr.length;omega
  obtain⟨x,hx⟩:∃x,l[0]? =some x:=⟨_,List.getElem?_eq_getElem (by omega)⟩
  have hx256:x < 256:=ha x (List.mem_of_getElem? hx)
  have cx:=hcl 0 (X .u8 x) (by simp[bv,hx])
  have hcut:=hr.cut (k:=1) (cap:=c) (by omega) hnc
  rw[Nat.add_zero] at cx
  have hn0:((n:Int)==0)=false:=by simp;omega
  have w1:IntKind.i64.wrap ((m:Int) + 1)=((m + 1:Nat):Int):=by rw[IntWalk.i64_in _ (by omega)];omega
  have HH:=jH (aI hb (aI hcut ha))
  clear hcl hr hx hcut hb
  go_enter func33,ntmps33
  go_wp2_with fail
  all_goals
   go_ret
   obtain⟨k1,k2,k3⟩:=HH.out
   have hbd:bv (l.drop 1)=(bv l).drop (1 * 1):=by simp[bv]
   have hsb:=(bR B w).setCell (p:=⟨pk,0,none⟩) (by show B≤pk;omega)
   have hbut:=grown_setP w pk
   refine⟨x % (m + 1),by have:=Nat.mod_lt x (show 0 < m + 1 by omega);omega,by push_cast;rfl,?_,hbut _⟩
  all_goals
   have h1:=HH.out.2.1
   first|rw[if_neg (by assumption)] at h1|rw[if_pos rfl] at h1|rw[if_pos (by assumption)] at h1
   first
    |exact⟨_,n - 1,0,l.drop 1,HH.out.1.set_ 0 _,by rw[hbd];exact h1.below (hsb _),by omega,by omega,fun y hy=>HH.out.2.2 y (List.mem_of_mem_drop hy)⟩
    |exact⟨_,n - 1,c - 1,l.drop 1,HH.out.1.set_ 0 _,by rw[hbd];exact h1.below (hsb _),by omega,by omega,fun y hy=>HH.out.2.2 y (List.mem_of_mem_drop hy)⟩
end
section
open Go.Shelf
def sfz6_ren:Go.Shelf.Ren:=⟨fun|6=>36|8=>94|9=>95|11=>186|13=>188|12=>187|23=>301|24=>302|14=>292|15=>293|16=>294|17=>295|18=>296|19=>297|20=>298|21=>299|22=>300|25=>399|26=>400|27=>401|28=>402|29=>403|30=>404|31=>441|n=>n,fun|26=>9|28=>108|24=>82|0=>0|3=>3|37=>224|48=>32|50=>53|4=>4|40=>386|39=>385|45=>49|5=>5|9=>9|51=>459|55=>463|57=>494|58=>371|33=>184|n=>n,fun|n=>n⟩
theorem sfz6:Go.Proofs.SlLaysZ.n6 Pg sfz6_ren:={
 mixed:=by kernel_rfl
 f6:=⟨Tryz.f36.name,by decide,func36.trans (congrArg some (by kernel_rfl))⟩
 f8:=⟨Tryz.f94.name,by decide,func94.trans (congrArg some (by kernel_rfl))⟩
 f11:=⟨Tryz.f186.name,by decide,func186.trans (congrArg some (by kernel_rfl))⟩
 t0:=underlying0
 a0:=Tryz.isAgg0
 z0:=Tryz.sizeOf0
 v0:=Tryz.zeroValue0
 t24:=underlying82
 a24:=Tryz.isAgg82
 z24:=Tryz.sizeOf82
 v24:=Tryz.zeroValue82
 t26:=underlying9
 a26:=Tryz.isAgg9
 z26:=Tryz.sizeOf9
 v26:=Tryz.zeroValue9
 t28:=underlying108
 a28:=Tryz.isAgg108
 z28:=Tryz.sizeOf108
 v28:=Tryz.zeroValue108
 i26:=by kernel_rfl}
def sfm6_ren:Go.Shelf.Ren:=⟨fun|6=>95|8=>188|9=>187|19=>301|20=>302|21=>292|22=>293|23=>294|24=>295|25=>296|26=>297|27=>298|28=>299|29=>300|36=>399|31=>400|32=>401|37=>402|38=>403|39=>404|41=>441|n=>n,fun|27=>82|29=>9|3=>3|32=>224|26=>82|0=>0|44=>32|46=>53|4=>4|36=>386|35=>385|41=>49|5=>5|9=>9|53=>459|57=>463|63=>494|64=>371|n=>n,fun|n=>n⟩
theorem sfm6:Go.Proofs.SlLaysM.n6 Pg sfm6_ren:={
 mixed:=by kernel_rfl
 f6:=⟨Tryz.f95.name,by decide,func95.trans (congrArg some (by kernel_rfl))⟩
 f8:=func188.trans (congrArg some (by kernel_rfl))
 f9:=⟨Tryz.f187.name,by decide,func187.trans (congrArg some (by kernel_rfl))⟩
 f19:=func301.trans (congrArg some (by kernel_rfl))
 f20:=func302.trans (congrArg some (by kernel_rfl))
 f21:=⟨Tryz.f292.name,by decide,func292.trans (congrArg some (by kernel_rfl))⟩
 f22:=⟨Tryz.f293.name,by decide,func293.trans (congrArg some (by kernel_rfl))⟩
 f23:=⟨Tryz.f294.name,by decide,func294.trans (congrArg some (by kernel_rfl))⟩
 f24:=⟨Tryz.f295.name,by decide,func295.trans (congrArg some (by kernel_rfl))⟩
 f25:=⟨Tryz.f296.name,by decide,func296.trans (congrArg some (by kernel_rfl))⟩
 f26:=⟨Tryz.f297.name,by decide,func297.trans (congrArg some (by kernel_rfl))⟩
 f27:=⟨Tryz.f298.name,by decide,func298.trans (congrArg some (by kernel_rfl))⟩
 f28:=⟨Tryz.f299.name,by decide,func299.trans (congrArg some (by kernel_rfl))⟩
 f29:=⟨Tryz.f300.name,by decide,func300.trans (congrArg some (by kernel_rfl))⟩
 f31:=func400.trans (congrArg some (by kernel_rfl))
 f32:=func401.trans (congrArg some (by kernel_rfl))
 f36:=⟨Tryz.f399.name,by decide,func399.trans (congrArg some (by kernel_rfl))⟩
 f37:=⟨Tryz.f402.name,by decide,func402.trans (congrArg some (by kernel_rfl))⟩
 f38:=⟨Tryz.f403.name,by decide,func403.trans (congrArg some (by kernel_rfl))⟩
 f39:=⟨Tryz.f404.name,by decide,func404.trans (congrArg some (by kernel_rfl))⟩
 f41:=⟨Tryz.f441.name,by decide,func441.trans (congrArg some (by kernel_rfl))⟩
 t0:=underlying0
 a0:=Tryz.isAgg0
 z0:=Tryz.sizeOf0
 v0:=Tryz.zeroValue0
 t3:=underlying3
 a3:=Tryz.isAgg3
 z3:=Tryz.sizeOf3
 v3:=Tryz.zeroValue3
 t4:=underlying4
 a4:=Tryz.isAgg4
 z4:=Tryz.sizeOf4
 v4:=Tryz.zeroValue4
 t5:=underlying5
 a5:=Tryz.isAgg5
 z5:=Tryz.sizeOf5
 v5:=Tryz.zeroValue5
 t9:=underlying9
 a9:=Tryz.isAgg9
 z9:=Tryz.sizeOf9
 v9:=Tryz.zeroValue9
 t26:=underlying82
 a26:=Tryz.isAgg82
 z26:=Tryz.sizeOf82
 v26:=Tryz.zeroValue82
 t27:=underlying82
 a27:=Tryz.isAgg82
 z27:=Tryz.sizeOf82
 v27:=Tryz.zeroValue82
 t29:=underlying9
 a29:=Tryz.isAgg9
 z29:=Tryz.sizeOf9
 v29:=Tryz.zeroValue9
 t32:=underlying224
 a32:=Tryz.isAgg224
 z32:=Tryz.sizeOf224
 v32:=Tryz.zeroValue224
 t35:=underlying385
 a35:=Tryz.isAgg385
 z35:=Tryz.sizeOf385
 v35:=Tryz.zeroValue385
 t36:=underlying386
 a36:=Tryz.isAgg386
 z36:=Tryz.sizeOf386
 v36:=Tryz.zeroValue386
 t41:=underlying49
 a41:=Tryz.isAgg49
 z41:=Tryz.sizeOf49
 v41:=Tryz.zeroValue49
 t44:=underlying32
 a44:=Tryz.isAgg32
 z44:=Tryz.sizeOf32
 v44:=Tryz.zeroValue32
 t46:=underlying53
 a46:=Tryz.isAgg53
 z46:=Tryz.sizeOf53
 v46:=Tryz.zeroValue53
 t53:=underlying459
 a53:=Tryz.isAgg459
 z53:=Tryz.sizeOf459
 v53:=Tryz.zeroValue459
 t57:=underlying463
 a57:=Tryz.isAgg463
 z57:=Tryz.sizeOf463
 v57:=Tryz.zeroValue463
 t63:=underlying494
 a63:=Tryz.isAgg494
 z63:=Tryz.sizeOf494
 v63:=Tryz.zeroValue494
 t64:=underlying371
 a64:=Tryz.isAgg371
 z64:=Tryz.sizeOf371
 v64:=Tryz.zeroValue371}
end
section
open Go.RowKit Go.Maps Go.Shelf Go.Sort
def bts (s:ByteArray):List UInt8:=s.data.toList
theorem enc_bts (s:ByteArray):encStr (bts s)=.string s:=rfl
def kbs (m:List (ByteArray×Nat)):List (List UInt8):=m.map fun p=>bts p.1
theorem keysf_in (n l Bm b:Nat)(hn:1≤n)(m:List (ByteArray×Nat))(J:List (List UInt8)→World→Prop)
  (hY:∀pre x W,J pre W→pre.length < m.length→YieldAt Fence.wide (n - 1) Pg l #[encStr x] W fun e W'=>e=rT (bL true)∧J (pre++[x]) W'∧KeepsWalks W W')
  (W:World)(hJ:AbidesFrom W.heap.size J)(hm:W.cell? ⟨Bm,0,none⟩=some (.map (some b)))(hown:MapIs W Value.string okS encP b m)(h0:J [] W):
  CallsIn Fence.wide n Pg 96 #[.func (.yield l) #[] #[],PT (some ⟨Bm,0,none⟩)] W fun e W'=>(∃v,e=rT v)∧∃xs,xs.Perm (kbs m)∧J xs W':=by
 obtain⟨w1,hrange,hit,hb1,hs1⟩:=hown.range (P:=Pg) (t:=97) underlying97
 have HJ0:Hid (J [] w1):=hJ [] W w1 none h0 ⟨hb1.os,hb1.tape,hb1.output,hb1.size,fun k hk _=>hb1.block k hk⟩ (fun r e=>by cases e)
 have HI:=jH hit
 clear hit hb1 hs1 h0
 refine callsIn_of_wp func96 rfl trivial ?_ rfl
 simp only[ntmps96,List.size_toArray,List.length_cons,List.length_nil,Nat.reduceAdd,Nat.reduceSub,Array.replicate_succ,Array.replicate_zero,List.push_toArray,List.append_toArray,List.nil_append,List.cons_append]
 gi_wp2
 gi_loopg [3] m.length (fun gk _ wr=>∃(left pre:List (ByteArray×Nat)),Hid (left.length=gk)∧Hid ((pre++left).Perm m)∧Hid (IterIs wr Value.string okS encP W.heap.size b m left)∧Hid (J (kbs pre) wr))
 case atStart=>exact⟨m,[],rfl,(by show List.Perm _ _;simp),HI.out,HJ0.out⟩
 case round=>
  obtain⟨left,pre,hgk,hpm,hit,hJs⟩:=hrel
  rcases hit.out.next (P:=Pg) 0 with⟨hnil,hrun0⟩|⟨p,left',w2,hperm,hpmm,hrun0,hit2,hbut,hs2,hent⟩
  ·have hrun:∀ty,(Instr.next (PT (some ⟨W.heap.size,0,none⟩)) false ty).run Pg wr=.ok (tU #[bL false]) wr:=fun ty=>hrun0
   have HP:Hid (pre.Perm m):=by show List.Perm _ _;have:=hpm.out;rwa [hnil,List.append_nil] at this
   clear hrun0 hnil
   gi_wp2
   go_end0
   exact⟨⟨_,rfl⟩,kbs pre,HP.out.map _,hJs.out⟩
  ·have hrun:∀ty,(Instr.next (PT (some ⟨W.heap.size,0,none⟩)) false ty).run Pg wr=.ok (tU #[bL true,.string p.1,encP p.2]) w2:=fun ty=>hrun0
   have hJ2:J (kbs pre) w2:=hJ _ wr w2 (some W.heap.size) hJs.out hbut.grownBy (fun r e=>by
    cases e
    obtain⟨_,_,_,es,clock,seen,c0,since,g1,_⟩:=hit.out
    exact⟨nR _,_,g1,rfl⟩)
   have HM:=jH hm
   obtain⟨fx,bx⟩:=p
   unfold encP at hrun hent
   dsimp only at hrun hent
   have hlt:(kbs pre).length < m.length:=by
    have h1:=hpm.out.length_eq
    have h2:=hperm.length_eq
    simp[kbs] at h1 h2⊢
    omega
   have hlen:left'.length + 1=gk:=by rw[←hgk.out,hperm.length_eq];rfl
   have HL:=jH hlen
   obtain⟨fn,tmps,assign,body,hy,hR⟩:=hY (kbs pre) (bts fx) _ hJ2 hlt
   try rw[enc_bts] at hy
   try rw[enc_bts] at hR
   have HP2:Hid (((pre++[(fx,bx)])++left').Perm m):=by
    show List.Perm _ _
    refine List.Perm.trans ?_ hpm.out
    rw[List.append_assoc]
    exact hperm.symm.append_left pre
   have HI2:=jH hit2
   clear hrun0 hrange hlt hlen hJ2 hperm hpmm hit2 hbut hs2
   gi_wp2
   refine hR.mono ?_
   rintro e W3 ⟨rfl,hJ3,hk3⟩
   have HE:Hid (IterIs W3 Value.string okS encP W.heap.size b m left'∧J (kbs (pre++[(fx,bx)])) W3):=by
    refine⟨iter_walks HI2.out hk3,?_⟩
    unfold kbs
    rw[List.map_append]
    exact hJ3
   clear hJ3 hk3 hy hR
   gi_wp2
   go_roundg (gk - 1)
   case measure=>have:=HL.out;omega
   case rel=>exact⟨left',_,(by show _=_;have:=HL.out;omega),HP2,HE.out.1,HE.out.2⟩
theorem keysf_gives (n Bm b:Nat)(hn:1≤n)(m:List (ByteArray×Nat))(w:World)(hBm:Bm < w.heap.size)(hm:w.cell? ⟨Bm,0,none⟩=some (.map (some b)))(hown:MapIs w Value.string okS encP b m):
  SeqGives Fence.wide n Pg 96 #[PT (some ⟨Bm,0,none⟩)] encStr (fun ss=>ss.Perm (kbs m)) m.length w:=fun l J W hW hJ hY h0=>
 keysf_in n l Bm b hn m J hY W hJ ((hW.cell (p:=⟨Bm,0,none⟩) hBm).trans hm) (hown.below hW hown.lt) h0
theorem sortsS (m:Nat):AnyZ.SortsIn Pg sfz6_ren Fence.wide m:=
 ⟨fun blk off cap ss W hH hblk hsz=>callsIn_wide.2 (AnyM.slices_Sort_string sfm6 blk off cap ss W hH hblk hsz),
 fun p cap W=>callsIn_wide.2 (AnyM.slices_Sort_string_none sfm6 p cap W)⟩
def namesS (m:List (ByteArray×Nat)):List (List UInt8):=(kbs m).mergeSort fun x y=>decide (x≤y)
theorem sorted_perm {a b:List (List UInt8)}(h:a.Perm b):a.mergeSort (fun x y=>decide (x≤y))=b.mergeSort (fun x y=>decide (x≤y)):=by
 have tr:∀x y z:List UInt8,decide (x≤y)=true→decide (y≤z)=true→decide (x≤z)=true:=fun x y z h1 h2=>decide_eq_true (List.le_trans (of_decide_eq_true h1) (of_decide_eq_true h2))
 have tot:∀x y:List UInt8,(decide (x≤y)||decide (y≤x))=true:=fun x y=>by
  rcases List.le_total x y with h|h
  ·simp[h]
  ·simp[h]
 have p1:=List.pairwise_mergeSort tr tot a
 have p2:=List.pairwise_mergeSort tr tot b
 refine List.Perm.eq_of_pairwise ?_ p1 p2 (((List.mergeSort_perm a _).trans h).trans (List.mergeSort_perm b _).symm)
 intro x y _ _ h1 h2
 exact List.le_antisymm (of_decide_eq_true h1) (of_decide_eq_true h2)
theorem sortedf_any (Bm b:Nat)(m:List (ByteArray×Nat))(hlen:m.length≤100000)(w:World)(hBm:Bm < w.heap.size)(hm:w.cell? ⟨Bm,0,none⟩=some (.map (some b)))(hown:MapIs w Value.string okS encP b m):
  Calls Pg 36 #[.func (.func 96) #[] #[PT (some ⟨Bm,0,none⟩)]] w fun e w'=>∃v,e=rT v∧w'.ownsRow w.heap.size 9 1 v (namesS m).length ((namesS m).map encStr)∧Below w.heap.size w w':=by
 have cS:=AnyZ.sorted_in sfz6 Fence.wide 6 trivial trivial trivial trivial rfl (by omega) (sortsS _) (enters_of func95 (by kernel_rfl) rfl) 96 #[PT (some ⟨Bm,0,none⟩)] trivial (enters_of func96 (by kernel_rfl) rfl) _ m.length (by unfold maxLen;omega) (by omega) w (keysf_gives _ Bm b (by omega) m w hBm hm hown)
 refine((callsIn_wide (n:=6)).1 cS).mono ?_
 rintro e w' ⟨v,ss,rfl,hS,hrow,_,hb⟩
 have hl:(namesS m).length=ss.length:=by rw[namesS,List.length_mergeSort];exact hS.length_eq.symm
 refine⟨v,rfl,?_,hb⟩
 rw[hl,namesS,←sorted_perm hS]
 exact hrow
theorem keysf_any (b:Nat)(w:World):
  Calls Pg 37 #[.map (some b)] w fun e w'=>e=rT (.func (.func 96) #[] #[PT (some ⟨w.heap.size,0,none⟩)])∧w'=w.alloc (cL #[.map (some b)] 97):=by
 go_enter func37,ntmps37
 go_wp2
 go_ret
 exact⟨rfl,rfl⟩
theorem names_ok (base d mn ms:Nat)(D:PDisk)(hlen:D.now.length≤100000)(w:World)(h:DiskAt w base d mn ms D):
  Calls Pg 68 #[PT (some ⟨d,0,none⟩)] w fun e w'=>∃v,e=rT v∧w'.ownsRow w.heap.size 9 1 v (namesS D.now).length ((namesS D.now).map encStr)∧Below w.heap.size w w':=by
 obtain⟨cv,hb,hc⟩:=h.blk
 obtain⟨-,c1⟩:=hb.c2
 have CK:=jH (keysf_any mn w)
 have hb0:Below w.heap.size w (w.alloc (cL #[.map (some mn)] 97)):=(bR _ _).alloc (nR _) _
 have CS:=jH (sortedf_any w.heap.size mn D.now hlen (w.alloc (cL #[.map (some mn)] 97)) (by simp) ((Blk.new w 97 #[.map (some mn)]).cell 0) (h.now.below hb0 h.now.lt))
 have H1:=jH hb0
 clear h hb hc hb0
 go_enter func68,ntmps68
 go_wp2_with fail
 refine CK.out.mono ?_
 rintro e w' ⟨rfl,rfl⟩
 clear CK
 go_wp2_with fail
 refine CS.out.mono ?_
 rintro e w' ⟨v,rfl,hown,hb⟩
 have HX:=jH (aI (own_base hown H1.out.size) (H1.out.trans (hb.mono H1.out.size)))
 clear hown hb CS H1
 go_wp2_with fail
 go_ret
 exact⟨v,rfl,HX.out⟩
end
section
open Go.RowKit
theorem own_prefix {w:World}{base n c k:Nat}{A:Option Addr}{e:TypeId}{xs:List Value}(h:w.ownsRow base e 1 (G A n c) n xs)(hk:k≤n):w.ownsRow base e 1 (G A k c) k (xs.take k):=by
 have hl:=h.1
 refine⟨by rw[List.length_take];omega,?_⟩
 rcases h.2 with⟨h',h0⟩|⟨g',cap',cur,h',hb,hg,hnc,hcm,hcs,htake⟩
 ·have hk0:k=0:=by omega
  subst hk0
  injection h' with h1 h2 h3
  subst h1 h3
  exact .inl ⟨rfl,rfl⟩
 ·injection h' with h1 h2 h3
  subst h1 h3
  refine .inr ⟨g',c,cur,rfl,hb,hg,by omega,hcm,hcs,?_⟩
  rw[←htake,List.take_take,Nat.mul_one,Nat.mul_one,Nat.min_eq_left hk]
theorem cut_file {w:World}{base:Nat}{fs:List (Nat×PFile)}{f:Nat}{p:PFile}(h:FilesAt w base fs)(hp:mget fs f=some p):
  ∃A c,Blk w f 111 #[G A p.b.length c,X Y p.sure]∧p.b.length≤c∧p.sure≤p.b.length∧p.b.length≤1048576∧base≤f∧
   ∀(K:List TypeId) (M:List Nat) (base':Nat) (w1:World) (k:Nat),Fr K M base' w w1→111∉K→5∉K→k≤p.b.length→
    FilesAt ((w1.setCell ⟨f,0,none⟩ (G A k c)).setCell ⟨f,1,none⟩ (X Y k)) base (mput fs f ⟨p.b.take k,k⟩):=by
 obtain⟨R,hR,hd⟩:=h
 obtain⟨a1,a2,a3,a4,a5,a6⟩:=hR f p hp
 obtain⟨A,c,eR⟩:=own_slice a3
 have ew:=eR
 rw[eR] at a2 a3
 refine⟨A,c,a2,(own_capp a3).1,a4,a5,a1,fun K M base' w1 k hf n1 n2 hk=>?_⟩
 have b2:=hf.blk _ _ _ a2 n1
 have b3:=own_prefix (hf.own a3 n2) hk
 have hbv:(bv p.b).take k=bv (p.b.take k):=by simp[bv]
 rw[hbv] at b3
 have hlk:(p.b.take k).length=k:=by rw[List.length_take];omega
 refine files_put f (G A k c) _ (R:=R) ?_ hd a1 ((b2.set_ 0 _).set_ 1 _) ?_ (by dsimp only;omega) (by dsimp only;omega) (fun x hx=>a6 x (List.mem_of_mem_take hx)) ?_
 ·intro g q hq hne
  obtain⟨c1,c2,c3,c4,c5,c6⟩:=hR g q hq
  exact⟨c1,((hf.blk _ _ _ c2 n1).far (p:=⟨f,0,none⟩) hne _).far (p:=⟨f,1,none⟩) hne _,own_set_far (own_set_far (hf.own c3 n2) b2 (by decide) 0 _) (b2.set_ 0 _) (by decide) 1 _,c4,c5,c6⟩
 ·dsimp only
  rw[hlk]
  exact own_set_far (own_set_far b3 b2 (by decide) 0 _) (b2.set_ 0 _) (by decide) 1 _
 ·intro g q hq hne
  have:=hd g f q p hq hp hne
  rw[ew] at this
  rcases this with h|h
  ·exact .inl h
  ·refine .inr ?_
   cases A<;>exact h
theorem fr_pick {w w':World}{base pk:Nat}{cs:Array Value}(hb:Blk w pk 23 cs)(hk:But pk w w')(h1:base≤pk)(h2:base≤w.heap.size):Fr [23] [] base w w':=by
 refine⟨⟨hk.os,hk.tape,hk.output,hk.size,fun k hkb=>hk.block k (by omega) (by omega)⟩,fun g t c hg ht=>?_,fun b es c hbm _=>?_⟩
 ·have hne:g≠pk:=fun e=>by
   subst e
   have h1:w.heap[g]? =some (.cells c t (0,0)):=hg
   have h2:w.heap[g]? =some (.cells cs 23 (0,0)):=hb
   rw[h1] at h2
   injection h2 with h2
   injection h2 with _ h3 _
   exact ht (by rw[h3];simp)
  exact(hk.block g hg.lt hne).trans hg
 ·have hne:b≠pk:=fun e=>by
   subst e
   have h2:w.heap[b]? =some (.cells cs 23 (0,0)):=hb
   rw[hbm] at h2
   cases h2
  exact(hk.block b (Array.getElem?_eq_some_iff.1 hbm).1 hne).trans hbm
theorem PicksAt.fr {w w':World}{B pk base:Nat}{K:List TypeId}{M:List Nat}(h:PicksAt w B pk)(hf:Fr K M base w w')(hB:B≤base)(h1:23∉K):PicksAt w' B pk:=by
 obtain⟨A,n,c,l,k1,k2,k3⟩:=h
 exact⟨A,n,c,l,hf.blk _ _ _ k1 h1,k2.below (hf.below.mono hB),k3⟩
end
section
open Go.RowKit Go.Maps
theorem frvs_get (v:Nat):∀(fs:List (Nat×List Nat)) (hs:List (Option Addr×Nat)) (j k:Nat) (l:List Nat) (h:Option Addr×Nat),fs[j]? =some (k,l)→hs[j]? =some h→
  (frvs v fs hs)[j * 3]? =some (X Y k)∧(frvs v fs hs)[j * 3 + 1]? =some (X Y v)∧(frvs v fs hs)[j * 3 + 2]? =some (G h.1 l.length h.2)
 |[],_,_,_,_,_,h,_=>by simp at h
 |_::_,[],_,_,_,_,_,h=>by simp at h
 |f::fs,g::hs,0,k,l,h,h1,h2=>by
  simp at h1 h2
  subst h1 h2
  exact⟨rfl,rfl,rfl⟩
 |f::fs,g::hs,j + 1,k,l,h,h1,h2=>by
  have ih:=frvs_get v fs hs j k l h (by simpa using h1) (by simpa using h2)
  have e:∀i,(frvs v (f::fs) (g::hs))[(j + 1) * 3 + i]? =(frvs v fs hs)[j * 3 + i]?:=by
   intro i
   rw[show (j + 1) * 3 + i=j * 3 + i + 1 + 1 + 1 from by omega]
   rfl
  have e0:=e 0
  simp only[Nat.add_zero] at e0
  rw[e0,e 1,e 2]
  exact ih
theorem FrsAt.get {w:World}{base v c:Nat}{A:Option Addr}{fs:List (Nat×List Nat)}(h:FrsAt w base v A c fs){j k:Nat}{l:List Nat}(hj:fs[j]? =some (k,l)):
  ∃(b off:Nat) (A1:Option Addr) (c1:Nat),A=some ⟨b,off,none⟩∧w.cell? ⟨b,off + j * 3,none⟩=some (X Y k)∧w.cell? ⟨b,off + (j * 3 + 1),none⟩=some (X Y v)∧w.cell? ⟨b,off + (j * 3 + 2),none⟩=some (G A1 l.length c1)∧w.ownsRow base 5 1 (G A1 l.length c1) l.length (bv l):=by
 obtain⟨hs,h1,h2,h3⟩:=h
 have hlt:=(List.getElem?_eq_some_iff.1 hj).1
 obtain⟨x,hx⟩:∃x,hs[j]? =some x:=⟨_,List.getElem?_eq_getElem (by omega)⟩
 obtain⟨g0,g1,g2⟩:=frvs_get v fs hs j k l x hj hx
 obtain⟨b,off,hA,_,hc⟩:=(Reads.of_own h2).plain (by omega) (by omega)
 exact⟨b,off,x.1,x.2,hA,hc _ _ g0,hc _ _ g1,hc _ _ g2,h3 j _ x hj hx⟩
theorem FrsAt.fr {w w':World}{base base' v c:Nat}{A:Option Addr}{fs:List (Nat×List Nat)}{K:List TypeId}{M:List Nat}(h:FrsAt w base v A c fs)(hf:Fr K M base' w w')(h1:284∉K)(h2:5∉K):FrsAt w' base v A c fs:=by
 obtain⟨hs,g1,g2,g3⟩:=h
 exact⟨hs,g1,hf.own g2 h1,fun i f x hf2 hx=>hf.own (g3 i f x hf2 hx) h2⟩
theorem sscan_ok (base d mn ms f V nx sp:Nat)(D:PDisk)(p:PFile)(fs:List (Nat×List Nat))(A:Option Addr)(c B:Nat)(K:List TypeId)(M:List Nat)(J:Nat→World→Prop)(w:World)
  (hD:DiskAt w base d mn ms D)(hm:mget D.now (nameS 1)=some f)(hp:mget D.fs f=some p)(hpb:p.b=logB V fs)(hok:FrOk fs)(hV:V≤255)(hr:Reads w B 1 A 1 (nv [1]))(hB:B≤w.heap.size)
  (k1:284∉K)(k2:5∉K)(k3:259∉K)(hJ0:J 0 w)(hJb:∀j W W',J j W→Below W.heap.size W W'→J j W')
  (hstep:∀(j k:Nat) (l:List Nat) (A1:Option Addr) (c1:Nat) (W:World),fs[j]? =some (k,l)→J j W→Reads W W.heap.size 1 A1 l.length (bv l)→(A1=none→c1=0)→
   Calls Pg 99 #[aG #[PT (some ⟨sp,0,none⟩)],aG #[X Y k,X Y V,G A1 l.length c1]] W fun e W'=>e=rT (X Y 0)∧J (j + 1) W'∧Fr K M base W W'):
  Calls Pg 191 #[PT (some ⟨d,0,none⟩),aG #[X Y V,X Y nx,G A 1 c],X Y 0,.func (.func 99) #[aG #[PT (some ⟨sp,0,none⟩)]] #[]] w fun e w'=>e=rT (tU #[X Y p.b.length,X Y 0])∧J fs.length w'∧Fr K M base w w':=by
 have hnil:∀W,(binOp .eql 190 (.func (.func 99) #[aG #[PT (some ⟨sp,0,none⟩)]] #[]) .nilFunc).run Pg W=.ok (bL false) W:=fun W=>by kernel_rfl
 have eg:∀args w,(callFunc 99 args).run Pg w=.ok (.enter 99 args) w:=enters_of func99 (by kernel_rfl) rfl
 obtain⟨b,off,rfl,hbB,hc⟩:=hr.plain (by omega) (by omega)
 obtain⟨q,hq⟩:∃q,q=w.heap.size:=⟨_,rfl⟩
 have hb0:Below w.heap.size w (w.alloc (cL #[X Y V,X Y nx,G (some ⟨b,off,none⟩) 1 c] 259)):=(bR _ _).alloc (nR _) _
 have hq1:Blk (w.alloc (cL #[X Y V,X Y nx,G (some ⟨b,off,none⟩) 1 c] 259)) q 259 #[X Y V,X Y nx,G (some ⟨b,off,none⟩) 1 c]:=hq▸Blk.new w _ _
 obtain⟨-,-,x2⟩:=hq1.c3
 have hc0:(w.alloc (cL #[X Y V,X Y nx,G (some ⟨b,off,none⟩) 1 c] 259)).cell? ⟨b,off,none⟩=some (X Y 1):=by
  have h1:=hc 0 (X Y 1) rfl
  rw[Nat.add_zero] at h1
  exact(hb0.cell (p:=⟨b,off,none⟩) (by show b < w.heap.size;omega)).trans h1
 have hDh:=hD.hi
 have H1:=jH (aI (hD.made hb0) (aI (hJb 0 w _ hJ0 hb0) (aI hb0 (aI hq1 hDh))))
 clear hD hJ0 hb0 hq1 hr hc hbB hB hDh
 go_enter func191,ntmps191
 go_wp2_with fail
 rw[←hq]
 have HE:=jH hq
 clear hq
 generalize (w.alloc (cL #[X Y V,X Y nx,G (some ⟨b,off,none⟩) 1 c] 259))=w1 at *
 refine(name_any 1 (by omega) (by omega) w1).mono ?_
 rintro e w2 ⟨rfl,hb2⟩
 go_wp2_with fail
 have hrd:readP D (nameS 1)=some p.b:=by unfold readP;rw[hm,Option.map_some,fileOf_some hp]
 have CR:=jH (read_disk base d mn ms D (nameS 1) w2 (H1.out.1.made hb2) (by show (nameS 1).size≤4096;decide))
 rw[hrd] at CR
 refine CR.out.mono ?_
 rintro e w3 ⟨⟨A3,c3,rfl,hown,h20,-⟩,hb3⟩
 obtain⟨m,hm0⟩:∃m,m=p.b.length:=⟨_,rfl⟩
 rw[←hm0] at hown h20⊢
 rw[hpb] at hown
 have H3:Hid (J 0 w3∧Below w.heap.size w w3∧Blk w3 q 259 #[X Y V,X Y nx,G (some ⟨b,off,none⟩) 1 c]∧w3.ownsRow w3.heap.size 5 1 (G none 0 0) 0 []∧base≤w.heap.size):=by
  obtain⟨g1,g2,g3,g4,g5⟩:=H1.out
  have s1:=g3.size
  have s2:=hb2.size
  exact⟨hJb _ _ _ (hJb _ _ _ g2 hb2) hb3,(g3.trans (hb2.mono s1)).trans (hb3.mono (by omega)),(g4.below hb2 g4.lt).below hb3 (by have:=g4.lt;omega),World.ownsRow_nil _ _ _ _,g5⟩
 have CS:=jH (scan_ok V fs A3 m c3 w3.heap.size w3 hok hV (Reads.of_own hown) (nR _) (own_capp hown).1 h20)
 have HM:=jH hm0
 clear hown hb2 hb3 H1 CR hrd hm0 x2 hc0
 go_wp2_with fail
 refine CS.out.mono ?_
 rintro e w4 ⟨A4,c4,rfl,hF,hb4⟩
 have H4:Hid (J 0 w4∧FrsAt w4 w3.heap.size V A4 c4 fs∧Blk w4 q 259 #[X Y V,X Y nx,G (some ⟨b,off,none⟩) 1 c]∧Fr K M base w w4):=by
  obtain⟨g1,g2,g3,-,g5⟩:=H3.out
  exact⟨hJb _ _ _ g1 hb4,hF,g3.below hb4 g3.lt,Fr.of_below K M (g2.trans (hb4.mono g2.size)) g5⟩
 have HB:=jH H3.out.2.2.2.2
 clear hF hb4 CS H3
 go_wp2_with fail
 have hfl:fs.length≤1048576:=by have h1:=logB_len V fs;have h2:=HM.out;rw[hpb] at h2;omega
 go_loopg [49] fs.length (fun gk at_ wr=>∃(j:Nat),at_=X Y j∧Hid (j + gk=fs.length)∧Hid (J j wr∧FrsAt wr w3.heap.size V A4 c4 fs∧Blk wr q 259 #[X Y V,X Y nx,G (some ⟨b,off,none⟩) 1 c]∧Fr K M base w wr))
 case atStart=>exact⟨0,rfl,(by show _=_;omega),H4.out⟩
 case round=>
  clear H4
  obtain⟨j,rfl,hgk,hrel⟩:=hrel
  by_cases hlt:j < fs.length
  ·obtain⟨⟨k,l⟩,hfj⟩:∃x,fs[j]? =some x:=⟨_,List.getElem?_eq_getElem hlt⟩
   obtain⟨b4,o4,A1,c1,rfl,y0,y1,y2,ho⟩:=hrel.out.2.1.get hfj
   rw[←Nat.add_assoc] at y1 y2
   obtain⟨q6,hq6⟩:∃q6,q6=wr.heap.size:=⟨_,rfl⟩
   have hb6:Below wr.heap.size wr (wr.alloc (cL #[X Y k,X Y V,G A1 l.length c1] 284)):=(bR _ _).alloc (nR _) _
   have hx6:Blk (wr.alloc (cL #[X Y k,X Y V,G A1 l.length c1] 284)) q6 284 #[X Y k,X Y V,G A1 l.length c1]:=hq6▸Blk.new wr _ _
   have hm6:=hrel.out.2.2.1.alloc (cL #[X Y k,X Y V,G A1 l.length c1] 284)
   obtain⟨z0,z1,z2⟩:=hx6.c3
   have x0:=hm6.c1
   have H6:(fun Vv:World=>Hid (J j Vv∧FrsAt Vv w3.heap.size V (some ⟨b4,o4,none⟩) c4 fs∧Blk Vv q 259 #[X Y V,X Y nx,G (some ⟨b,off,none⟩) 1 c]∧Fr K M base w Vv∧Vv.ownsRow w3.heap.size 5 1 (G A1 l.length c1) l.length (bv l))) (wr.alloc (cL #[X Y k,X Y V,G A1 l.length c1] 284)):=by
    obtain⟨g1,g2,g3,g4⟩:=hrel.out
    exact⟨hJb _ _ _ g1 hb6,g2.below hb6,hm6,g4.made hb6 (by have:=g4.size;have:=HB.out;omega),own_below ho hb6⟩
   clear hx6 hm6 hb6 hrel ho
   rw[hq6] at z0 z1 z2
   clear hq6
   go_wp2_with fail
   refine(hstep j k l A1 c1 _ hfj H6.out.1 (Reads.of_own H6.out.2.2.2.2) (fun e=>own_nil0 H6.out.2.2.2.2 e)).mono ?_
   rintro e w7 ⟨rfl,hJ7,hf7⟩
   have H7:Hid (J (j + 1) w7∧FrsAt w7 w3.heap.size V (some ⟨b4,o4,none⟩) c4 fs∧Blk w7 q 259 #[X Y V,X Y nx,G (some ⟨b,off,none⟩) 1 c]∧Fr K M base w w7):=⟨hJ7,H6.out.2.1.fr hf7 k1 k2,hf7.blk _ _ _ H6.out.2.2.1 k3,H6.out.2.2.2.1.trans hf7⟩
   clear hJ7 hf7 H6 z0 z1 z2 x0 y0 y1 y2
   go_wp2_with fail
   go_roundg (gk - 1)
   case measure=>have h1:=hgk.out;omega
   case rel=>exact⟨j + 1,by go_num,(by show _=_;have:=hgk.out;omega),H7.out⟩
  ·have hj:j=fs.length:=by have:=hgk.out;omega
   have hdL:decide ((j:Int) < (fs.length:Int))=false:=decide_eq_false (by omega)
   have HX:Hid (J fs.length wr∧Fr K M base w wr):=by
    rw[←hj]
    exact⟨hrel.out.1,hrel.out.2.2.2⟩
   clear hj hrel
   go_wp2_with fail
   go_ret2
   exact⟨by rw[←HM.out];rfl,HX.out⟩
end
section
open Go.RowKit
theorem open1_ok (base lg d mn ms size Q ops f1 f2 s V a0 a1 a2:Nat)(L:List Nat)(w:World)(h0:Blk w a0 3 #[X Y L.length])(h1:Blk w a1 171 #[PT (some ⟨lg,0,none⟩)])
  (hD:DiskAt w base d mn ms (diskL Q ops f1 f2 L s V))(hL:LogAt w base lg d size V 2 [1] false):
  Calls Pg 192 #[PT (some ⟨a0,0,none⟩),PT (some ⟨a1,0,none⟩),PT (some ⟨a2,0,none⟩)] w fun e w'=>e=rT (X Y 0)∧Below w.heap.size w w':=by
 have c0:w.drew.cell? ⟨a0,0,none⟩=some (X Y L.length)∧w.drew.cell? ⟨a1,0,none⟩=some (PT (some ⟨lg,0,none⟩)):=⟨by have:=h0.cell 0;simpa using this,by have:=h1.cell 0;simpa using this⟩
 have hB:a0 < w.heap.size∧a1 < w.heap.size:=⟨h0.lt,h1.lt⟩
 have hLd:=hL.made (bR w.heap.size w).drew
 have C1:=jH (last_any base lg d size V 2 [1] false 1 w.drew hLd (by simp) rfl (by omega) (by omega))
 have H:=jH (aI hD hL)
 have HC:=jH (fun W (hb:Below w.heap.size w W)=>logbytes_any base lg d mn ms size V 2 f1 [1] false _ _ (nameS 1) W (hL.made hb) (hD.made hb) (okS_of_named (nameS_ok 1)) diskL_now diskL_file)
 dsimp only at HC
 clear h0 h1 hD hL hLd
 generalize L.length=m at *
 go_enter func192,ntmps192
 go_wp2_with fail
 go_region_held3 (fun wS=>wS.cell? ⟨a0,0,none⟩=some (X Y m)∧wS.cell? ⟨a1,0,none⟩=some (PT (some ⟨lg,0,none⟩))) (first|with_reducible exact c0|with_reducible exact e0|with_reducible exact g0|fail)
  (first
   |(go_at_call 194;(with_reducible refine C1.out.mono ?_);rintro e w1 ⟨rfl,hb1⟩;have e0:w1.cell? ⟨a0,0,none⟩=some (X Y m)∧w1.cell? ⟨a1,0,none⟩=some (PT (some ⟨lg,0,none⟩)):=⟨(hb1.cell hB.1).trans c0.1,(hb1.cell hB.2).trans c0.2⟩;have C2:=HC.out w1 ((bR w.heap.size w).drew.trans hb1))
   |(go_at_call 193;(with_reducible refine C2.mono ?_);rintro e w2 ⟨rfl,hb2⟩;have g0:w2.cell? ⟨a0,0,none⟩=some (X Y m)∧w2.cell? ⟨a1,0,none⟩=some (PT (some ⟨lg,0,none⟩)):=⟨(hb2.cell (Nat.lt_of_lt_of_le hB.1 hb1.size)).trans e0.1,(hb2.cell (Nat.lt_of_lt_of_le hB.2 hb1.size)).trans e0.2⟩))
 all_goals
  have HE:=jH (((bR w.heap.size w).drew.trans hb1).trans (hb2.mono hb1.size))
  clear C2 hb1 hb2 HC
  go_wp2_with fail
  go_ret
  exact⟨rfl,HE.out⟩
theorem open2_ok (base lg d mn ms size Q ops f1 f2 s V bd bl:Nat)(L:List Nat)(w:World)(hd:Blk w bd 63 #[PT (some ⟨d,0,none⟩)])(hl:Blk w bl 171 #[PT (some ⟨lg,0,none⟩)])
  (hD:DiskAt w base d mn ms (diskL Q ops f1 f2 L s V))(hL:LogAt w base lg d size V 2 [1] false)(hne:f1≠f2)(hops:ops≤900000000000):
  Calls Pg 196 #[PT (some ⟨bd,0,none⟩),PT (some ⟨bl,0,none⟩)] w fun e w'=>e=rT (X Y 0)∧DiskAt w' base d mn ms (diskL Q (ops + 1) f1 f2 L L.length V)∧Fr KD [mn] base w w':=by
 have c0:w.drew.cell? ⟨bl,0,none⟩=some (PT (some ⟨lg,0,none⟩))∧w.drew.cell? ⟨bd,0,none⟩=some (PT (some ⟨d,0,none⟩)):=⟨by have:=hl.cell 0;simpa using this,by have:=hd.cell 0;simpa using this⟩
 have hB:bl < w.heap.size∧bd < w.heap.size:=⟨hl.lt,hd.lt⟩
 have hLd:=hL.made (bR w.heap.size w).drew
 have C1:=jH (last_any base lg d size V 2 [1] false 1 w.drew hLd (by simp) rfl (by omega) (by omega))
 have HAP:=jH (fun W (hW:DiskAt W base d mn ms (diskL Q ops f1 f2 L s V))=>sync_any base d mn ms (diskL Q ops f1 f2 L s V) (nameS 1) W hW hops (okS_of_named (nameS_ok 1)))
 rw[syncP_ok rfl diskL_now diskL_file] at HAP
 dsimp only at HAP
 rw[diskL_sync hne] at HAP
 have H:=jH (aI hD (aI hl hd))
 clear hl hD hL hLd hd
 go_enter func196,ntmps196
 go_wp2_with fail
 go_region_held3 (fun wS=>wS.cell? ⟨bl,0,none⟩=some (PT (some ⟨lg,0,none⟩))∧wS.cell? ⟨bd,0,none⟩=some (PT (some ⟨d,0,none⟩))) (first|with_reducible exact c0|with_reducible exact e0|with_reducible exact g0|fail)
  (first
   |(go_at_call 194;(with_reducible refine C1.out.mono ?_);rintro e w1 ⟨rfl,hb1⟩;have hb01:=(bR w.heap.size w).drew.trans hb1;have e0:w1.cell? ⟨bl,0,none⟩=some (PT (some ⟨lg,0,none⟩))∧w1.cell? ⟨bd,0,none⟩=some (PT (some ⟨d,0,none⟩)):=⟨(hb1.cell hB.1).trans c0.1,(hb1.cell hB.2).trans c0.2⟩;have C2:=HAP.out w1 (H.out.1.made hb01))
   |(go_at_call 172;(with_reducible refine C2.mono ?_);rintro e w2 ⟨rfl,hD2,hf2⟩;have g0:w2.cell? ⟨bl,0,none⟩=some (PT (some ⟨lg,0,none⟩))∧w2.cell? ⟨bd,0,none⟩=some (PT (some ⟨d,0,none⟩)):=⟨by {have:=(hf2.blk _ _ _ (H.out.2.1.below hb01 hB.1) (by decide)).cell 0;simpa using this},by {have:=(hf2.blk _ _ _ (H.out.2.2.below hb01 hB.2) (by decide)).cell 0;simpa using this}⟩))
 all_goals
  have HE:=jH (aI hD2 ((Fr.of_below KD [mn] hb01 H.out.1.hi).trans (hf2.mono (by decide) (by simp))))
  clear C2 hb1 hb01 hD2 hf2
  go_wp2_with fail
  go_ret
  exact⟨rfl,HE.out.1,HE.out.2⟩
end
end Go.Proofs.YtgjnoccflmjheaaGreatDoor
