import Derived.Below
import Derived.Laws.OwnMore
import Derived.Deep.AppendLies
import Derived.Deep.Draws
import Derived.Laws.Rows
import Derived.Maps.AppendAt
import Derived.RegionTactic
import Derived.OwnWalk
import Derived.BigFrame
import Derived.Laws.IdiomStrings
import Derived.Laws.Bits64
import Derived.BigQuiet
import Derived.Test.YtgjnoccflmjheaaGreatDoorRows
import Derived.WalkKit
import Derived.WalkSpells
import Derived.WalkLawsBesides
import Derived.Outline
import Derived.LoopTactic
import Derived.Lib.Hide
import Derived.Laws.BitsAllLaws
import Derived.Laws.ShiftsVarLaws
import Derived.ProofKit
import Derived.OpenShut
import Derived.ChangeOld
import Derived.SizedLaws
import Derived.Lib.SmallJoins
import Derived.Laws.BytesString
import Derived.Laws.Strings
import Derived.BigRegion
import Derived.Deep.LoopGhost
import Derived.Deep.Slices
import Derived.Deep.Fields
import Derived.ChangeSame
import Derived.Deep.Cut
import Derived.Shelf.Abstract
import Derived.Lib.SliceRun
import Derived.Laws.IdiomCopy
import Derived.Maps.Keyed
import Derived.Maps.OwnSet
import Derived.Maps.RangeRun
import Derived.Shelf.SlLaysF0
import Derived.StillTailTactics
import Derived.Sort.Grow
import Derived.Deep.RegionLaw
import Derived.Deep.RegionHeld3
import Derived.Deep.QuietTactic
import Derived.Shelf.SlMaps.Clone
import Derived.Deep.DeepCutAuto
import Derived.Lib.MinMax
import Derived.Deep.RegionWith
namespace Go.Proofs.YtgjnoccflmjheaaGreatDoor
set_option linter.unusedVariables false
set_option linter.unusedSimpArgs false
set_option maxHeartbeats 8000000
set_option maxRecDepth 100000
open Value renaming int→X,slice→G,pointer→PT,bool→bL,agg→aG,tuple→tU
open Obj renaming cells→cL
open Ending renaming returned→rT
open Go.Proofs.Tryz
open Go.Proofs.Tryz renaming prog→Pg
open RowKit.Below renaming refl→bR
open IntKind renaming i64→Y,u32→Z
open List renaming getElem?_toArray→ga,getElem?_cons_zero→gz,getElem?_cons_succ→gN
open Lib renaming hid→jH
open Nat renaming le_refl→nR,le_trans→nT,le_succ→nS
open And renaming intro→aI
section
def fo (s:Nat):Nat:=if s=0 then 0 else (s - 1) % 65535 + 1
theorem kE (s:Nat):fo s≤65535:=by unfold fo;split<;>omega
theorem sO {s:Nat}(h:s≤65535):fo s=s:=by unfold fo;split<;>omega
theorem sN {s:Nat}(h:65535 < s):fo (s / 65536 + s % 65536)=fo s:=by unfold fo;split<;>split<;>omega
theorem kF (a b:Nat):fo (fo a + b)=fo (a + b):=by unfold fo;split<;>split<;>(try split)<;>omega
theorem BS (a:Nat):fo (fo a)=fo a:=by have:=kF a 0;simpa using this
theorem BU (a:Nat):fo (a + (65535 - fo a))=65535:=by unfold fo;split<;>split<;>omega
def ed:List Nat→Nat
 |[]=>0
 |[x]=>x * 256
 |x::y::r=>x * 256 + y + ed r
def ay (l:List Nat):Prop:=∀x∈l,x < 256
theorem mz:∀(k:Nat) (a b:List Nat),a.length=2 * k→ed (a++b)=ed a + ed b
 |0,a,b,h=>by
  have:a=[]:=List.eq_nil_of_length_eq_zero (by omega)
  subst this;simp[ed]
 |k + 1,[],b,h=>by simp at h
 |k + 1,[x],b,h=>by simp at h;omega
 |k + 1,x::y::r,b,h=>by
  simp only[List.cons_append,ed]
  rw[mz k r b (by simp at h;omega)]
  omega
theorem pG (l:List Nat)(k:Nat)(h:2 * k + 1 < l.length):ed (l.take (2 * (k + 1)))=ed (l.take (2 * k)) + (l[2 * k] * 256 + l[2 * k + 1]):=by
 have e:l.take (2 * (k + 1))=l.take (2 * k)++[l[2 * k],l[2 * k + 1]]:=by
  rw[show 2 * (k + 1)=2 * k + 1 + 1 from by omega,List.take_succ_eq_append_getElem h,List.take_succ_eq_append_getElem (show 2 * k < l.length from by omega),List.append_assoc]
  rfl
 rw[e,mz k _ _ (by simp;omega)]
 simp[ed]
theorem pH (l:List Nat)(k:Nat)(h:2 * k + 1=l.length):ed l=ed (l.take (2 * k)) + l[2 * k] * 256:=by
 have e:l=l.take (2 * k)++[l[2 * k]]:=by
  have:=List.take_succ_eq_append_getElem (l:=l) (i:=2 * k) (by omega)
  rw[←this,List.take_of_length_le (by omega)]
 conv=>lhs;rw[e]
 rw[mz k _ _ (by simp;omega)]
 simp[ed]
def dE (s:Nat)(b:List Nat):Nat:=fo (s + ed b)
def jI (s:Nat):Nat:=65535 - fo s
def eh (b:List Nat):Nat:=65535 - fo (ed b)
def jK (x old now:Nat):Nat:=65535 - fo ((65535 - x) + (65535 - old) + now)
theorem lC (s:Nat)(b:List Nat):dE s b≤65535:=kE _
theorem nK (b:List Nat):eh b < 65536:=by unfold eh;omega
theorem Cd (x o n:Nat):jK x o n < 65536:=by unfold jK;omega
theorem rK (b:List Nat):jI (dE 0 b)=eh b:=by unfold jI dE eh;rw[BS];simp
def iR (c:Nat):Nat:=if c % 2=1 then (c / 2) ^^^ 2197175160 else c / 2
def hG:Nat→Nat→Nat
 |0,c=>c
 |j + 1,c=>iR (hG j c)
def ix (c x:Nat):Nat:=hG 8 (c ^^^ x)
def tC (l:List Nat):Nat:=l.foldl ix 4294967295
def bV (l:List Nat):Nat:=4294967295 - tC l
theorem jQ {a b:Nat}(ha:a < 4294967296)(hb:b < 4294967296):a ^^^ b < 4294967296:=Nat.xor_lt_two_pow (n:=32) (by omega) (by omega)
theorem Dp {c:Nat}(h:c < 4294967296):iR c < 4294967296:=by
 unfold iR
 split
 ·exact jQ (by omega) (by omega)
 ·omega
theorem tD (j:Nat){c:Nat}(h:c < 4294967296):hG j c < 4294967296:=by
 induction j with
 |zero=>exact h
 |succ j ih=>exact Dp ih
theorem Do {c x:Nat}(h:c < 4294967296)(hx:x < 256):ix c x < 4294967296:=tD 8 (jQ h (by omega))
theorem oJ {f:Nat→Nat→Nat}(hf:∀c x,c < 4294967296→x < 256→f c x < 4294967296):∀(l:List Nat) (c:Nat),ay l→c < 4294967296→l.foldl f c < 4294967296
 |[],_,_,h=>h
 |x::r,c,hb,h=>oJ hf r (f c x) (fun y hy=>hb y (List.mem_cons_of_mem _ hy)) (hf c x h (hb x (List.mem_cons_self ..)))
theorem sM {f:Nat→Nat→Nat}(l:List Nat)(k c:Nat)(h:k < l.length):(l.take (k + 1)).foldl f c=f ((l.take k).foldl f c) l[k]:=by
 rw[List.take_succ_eq_append_getElem h,List.foldl_append];rfl
theorem ay.take {l:List Nat}(h:ay l)(k:Nat):ay (l.take k):=fun x hx=>h x (List.mem_of_mem_take hx)
theorem ay.drop {l:List Nat}(h:ay l)(k:Nat):ay (l.drop k):=fun x hx=>h x (List.mem_of_mem_drop hx)
theorem ay.append {a b:List Nat}(h:ay a)(k:ay b):ay (a++b):=fun x hx=>(List.mem_append.1 hx).elim (h x) (k x)
theorem tB (l:List Nat):bV l < 4294967296:=by unfold bV;omega
def ko (c x:Nat):Nat:=(c ^^^ x) * 16777619 % 4294967296
def iH (seed:Nat)(l:List Nat):Nat:=l.foldl ko (seed ^^^ 2166136261)
def lJ (c:Nat):Nat:=let d:=(c ^^^ c / 32768) * 2246822507 % 4294967296;d ^^^ d / 8192
def ff (seed:Nat)(l:List Nat):Nat:=lJ (iH seed l)
theorem zu (c x:Nat):ko c x < 4294967296:=Nat.mod_lt _ (by omega)
theorem zr {seed:Nat}{l:List Nat}(h:seed < 4294967296)(hl:ay l):iH seed l < 4294967296:=oJ (fun _ _ _ _=>zu _ _) l _ hl (jQ h (by omega))
theorem zt (c:Nat):lJ c < 4294967296:=by
 have:(c ^^^ c / 32768) * 2246822507 % 4294967296 < 4294967296:=Nat.mod_lt _ (by omega)
 exact jQ this (by omega)
theorem nU (seed:Nat)(l:List Nat):ff seed l < 4294967296:=zt _
end
section
open Go.RowKit
theorem tP (a:Addr)(n:Nat):(a.add n).block=a.block:=by unfold Addr.add;split<;>rfl
theorem Fg (a:Addr)(i j:Nat):(a.add i).add j=a.add (i + j):=by
 unfold Addr.add
 by_cases hi:i=0<;>by_cases hj:j=0<;>simp[hi,hj,Nat.add_assoc]
def Reads (w:World)(B size:Nat)(A:Option Addr)(n:Nat)(xs:List Value):Prop:=
 xs.length=n * size∧(0 < n→∃ad,A=some ad∧ad.block < B∧∀j u,xs[j]? =some u→w.cell? (ad.add j)=some u)
section
variable {w w':World}{B B' size n:Nat}{A:Option Addr}{xs:List Value}
theorem Reads.none_:Reads w B size A 0 []:=⟨by simp,fun h=>absurd h (by omega)⟩
theorem Reads.at_ {k:Nat}(h:Reads w B 1 A n xs)(hk:k < n):∃ad u,A=some ad∧ad.block < B∧xs[k]? =some u∧w.cell? (ad.add k)=some u:=by
 obtain⟨ad,e,hb,hc⟩:=h.2 (by omega)
 have hl:k < xs.length:=by have:=h.1;omega
 exact⟨ad,xs[k],e,hb,List.getElem?_eq_getElem hl,hc k _ (List.getElem?_eq_getElem hl)⟩
theorem Reads.keep (h:Reads w B size A n xs)(hk:∀p:Addr,p.block < B→w'.cell? p=w.cell? p):Reads w' B size A n xs:=
 ⟨h.1,fun hn=>by
  obtain⟨ad,e,hb,hc⟩:=h.2 hn
  exact⟨ad,e,hb,fun j u hu=>(hk _ (by rw[tP];exact hb)).trans (hc j u hu)⟩⟩
theorem Reads.more (h:Reads w B size A n xs)(hB:B≤B'):Reads w B' size A n xs:=
 ⟨h.1,fun hn=>by
  obtain⟨ad,e,hb,hc⟩:=h.2 hn
  exact⟨ad,e,by omega,hc⟩⟩
theorem Reads.below (h:Reads w B size A n xs)(hb:Below B w w'):Reads w' B size A n xs:=h.keep fun _ hp=>hb.cell hp
theorem Reads.drew (h:Reads w B size A n xs):Reads w.drew B size A n xs:=h
theorem Reads.alloc (h:Reads w B size A n xs)(hB:B≤w.heap.size)(o:Obj):Reads (w.alloc o) B size A n xs:=h.keep fun p hp=>World.cell?_alloc_lt w o p (by omega)
theorem Reads.setCell (h:Reads w B size A n xs){p:Addr}(hB:B≤p.block)(u:Value):Reads (w.setCell p u) B size A n xs:=
 h.keep fun q hq=>World.cell?_setCell_other w p q u (fun e=>by subst e;omega)
theorem Reads.cut (h:Reads w B size A n xs){k cap:Nat}(hk:k≤n)(hc:n≤cap):
  Reads w B size (if cap=k then A else A.map (·.add (k * size))) (n - k) (xs.drop (k * size)):=by
 refine⟨by rw[List.length_drop,h.1,Nat.sub_mul],fun hn=>?_⟩
 obtain⟨ad,rfl,hb,hcell⟩:=h.2 (by omega)
 rw[if_neg (by omega)]
 refine⟨ad.add (k * size),rfl,by rw[tP];exact hb,fun j u hu=>?_⟩
 rw[Fg]
 exact hcell _ u (by rw[←hu,List.getElem?_drop])
theorem Reads.of_own {aa:Nat}{e:TypeId}{c:Nat}(h:w.ownsRow aa e size (G A n c) n xs):Reads w w.heap.size size A n xs:=by
 refine⟨h.1,fun hn=>?_⟩
 obtain⟨g,cap,hv,_,au⟩:=h.form hn
 have hA:A=some ⟨g,0,none⟩:=by injection hv
 subst hA
 exact⟨_,rfl,au,h.cells (g:=g) rfl⟩
end
def ab (w:World)(g:Nat)(t:TypeId)(cs:Array Value):Prop:=w.heap[g]? =some (.cells cs t (0,0))
section
variable {w w':World}{g:Nat}{t:TypeId}{cs:Array Value}
theorem ab.lt (h:ab w g t cs):g < w.heap.size:=by
 rcases Nat.lt_or_ge g w.heap.size with au|hge
 ·exact au
 ·unfold ab at h;rw[Array.getElem?_eq_none hge] at h;cases h
theorem ab.cell (h:ab w g t cs)(i:Nat):w.cell? ⟨g,i,none⟩=cs[i]?:=cell_of_row w g i cs t (0,0) h
theorem ab.frozen (h:ab w g t cs)(i:Nat):w.frozen? ⟨g,i,none⟩=false:=by
 unfold ab at h
 simp[World.frozen?,h]
theorem ab.new (w:World)(t:TypeId)(cs:Array Value):ab (w.alloc (.cells cs t)) w.heap.size t cs:=heap_alloc_new w _
theorem ab.drew (h:ab w g t cs):ab w.drew g t cs:=h
theorem ab.drewN (h:ab w g t cs)(n:Nat):ab (w.drewN n) g t cs:=h
theorem ab.alloc (h:ab w g t cs)(o:Obj):ab (w.alloc o) g t cs:=(Below.heap_alloc w o g h.lt).trans h
theorem ab.set_ (h:ab w g t cs)(i:Nat)(u:Value):ab (w.setCell ⟨g,i,none⟩ u) g t (cs.setIfInBounds i u):=by
 unfold ab at h⊢
 simp[World.setCell,Array.getElem?_modify,h]
theorem ab.far (h:ab w g t cs){p:Addr}(hp:g≠p.block)(u:Value):ab (w.setCell p u) g t cs:=(Below.heap_setCell w p u g hp).trans h
theorem ab.below {B:Nat}(h:ab w g t cs)(hb:Below B w w')(hg:g < B):ab w' g t cs:=(hb.block g hg).trans h
theorem ab.grown {row:Option Nat}(h:ab w g t cs)(hb:w.grownBy w' row)(hg:some g≠row):ab w' g t cs:=(hb.block g h.lt hg).trans h
theorem ab.ne_ {g':Nat}{t':TypeId}{cs':Array Value}(h:ab w g t cs)(h':ab w g' t' cs')(az:t≠t'):g≠g':=by
 rintro rfl
 unfold ab at h h'
 rw[h] at h'
 injection h' with h'
 injection h' with _ ht
 exact az ht
theorem dj {aa:Nat}{e:TypeId}{size n:Nat}{v:Value}{xs:List Value}(h:w.ownsRow aa e size v n xs)(hg:ab w g t cs)(az:e≠t):v.ownBlock≠some g:=by
 rcases h.2 with⟨rfl,_⟩|⟨g',cap,cur,rfl,_,hh,_⟩
 ·simp[Value.ownBlock]
 ·intro he
  have:g'=g:=by simpa [Value.ownBlock] using he
  subst this
  exact ab.ne_ (t:=e) hh hg az rfl
end
section
variable {P:Program}(w:World)
theorem xv (aa:Nat)(t ty e:TypeId)(i:TypeInfo)(size:Nat)(ht:P.underlying t=some (.slice e))(hi:P.info? e=some i)
  (v:Value)(n:Nat)(xs:List Value)(hown:w.ownsRow aa e size v n xs)(c:Nat):(Builtin.append_ #[t,t] ty #[v,G none 0 c]).run P w=.ok v w:=by
 rcases hown.2 with⟨rfl,rfl⟩|⟨g,cap,cur,rfl,_,_,hnc,_⟩
 ·simp[Builtin.append_,run_underlying ht,sizeOf,typeInfo,hi,Builtin.lenOf,Builtin.firstCells]
 ·simp[Builtin.append_,run_underlying ht,sizeOf,typeInfo,hi,Builtin.lenOf,Builtin.firstCells,hnc,storeCells]
theorem xx (aa:Nat)(t ty e:TypeId)(i:TypeInfo)(z:Value)(size bytes:Nat)(ht:P.underlying t=some (.slice e))(hi:P.info? e=some i)(hz:i.zero=some z)
  (hsize:i.size=size)(hby:i.bytes=bytes)(hzs:z.cells.size=size)(hsz:0 < size)
  (v:Value)(n:Nat)(xs:List Value)(hown:w.ownsRow aa e size v n xs)
  (B:Nat)(A:Option Addr)(m c:Nat)(news:List Value)(hr:Reads w B size A m news)(h1:∀u∈news,u.oneCell'=true)
  (h63:n + m≤maxLen)(eB:(n + m) * bytes≤140737488355328)(an:aa≤w.heap.size):
  ∃v' w',(Builtin.append_ #[t,t] ty #[v,G A m c]).run P w=.ok v' w'∧w'.ownsRow aa e size v' (n + m) (xs++news)∧w.grownBy w' v.ownBlock∧
   (v'.ownBlock=v.ownBlock∨v'.ownBlock=some w.heap.size):=by
 rcases A with _|ad
 ·have hm:m=0:=by
   rcases Nat.eq_zero_or_pos m with h0|h0
   ·exact h0
   ·obtain⟨ad,h,_⟩:=hr.2 h0
    cases h
  subst hm
  have hn:news=[]:=List.eq_nil_of_length_eq_zero (by simpa using hr.1)
  subst hn
  exact⟨v,w,xv w aa t ty e i size ht hi v n xs hown c,by simpa using hown,World.grownBy.refl w _,.inl rfl⟩
 ·have hcells:∀j u,news[j]? =some u→w.cell? (ad.add j)=some u:=by
   intro j u hu
   rcases Nat.eq_zero_or_pos m with h0|h0
   ·subst h0
    have hn:news=[]:=List.eq_nil_of_length_eq_zero (by simpa using hr.1)
    subst hn
    simp at hu
   ·obtain⟨ad',h,_,hc⟩:=hr.2 h0
    injection h with h
    subst h
    exact hc j u hu
  obtain⟨v',w',hrun,h2,h3,_,h5⟩:=run_append_own_at (P:=P) w aa t ty e i z size bytes ht hi hz hsize hby hzs hsz v n xs hown ad m c news hr.1 hcells h1 h63 eB an
  exact⟨v',w',hrun,h2,h3,h5⟩
theorem kV {o:Oper}{a:Act}{K:Act→World→Prop}{Q:Exit→Act→World→Prop}(s x:Operand)(t:TypeId)
  (ho:o.op=.call {callee:=.builtin .append,args:=#[s,x],argTypes:=#[t,t]})
  (aa:Nat)(e:TypeId)(i:TypeInfo)(z:Value)(size bytes:Nat)(ht:P.underlying t=some (.slice e))(hi:P.info? e=some i)(hz:i.zero=some z)
  (hsize:i.size=size)(hby:i.bytes=bytes)(hzs:z.cells.size=size)(hsz:0 < size)
  (v:Value)(n:Nat)(xs:List Value)(hs:a.eval s=v)(hown:w.ownsRow aa e size v n xs)
  (B:Nat)(A:Option Addr)(m c:Nat)(news:List Value)(hx:a.eval x=G A m c)(hr:Reads w B size A m news)(h1:∀u∈news,u.oneCell'=true)
  (h63:n + m≤maxLen)(eB:(n + m) * bytes≤140737488355328)(an:aa≤w.heap.size)
  (h:∀v' w',w'.ownsRow aa e size v' (n + m) (xs++news)→w.grownBy w' v.ownBlock→(v'.ownBlock=v.ownBlock∨v'.ownBlock=some w.heap.size)→K (a.put o.dst v') w'):o.wp P a w K Q:=by
 obtain⟨v',w',hrun,h2,h3,h4⟩:=xx (P:=P) w aa t o.type e i z size bytes ht hi hz hsize hby hzs hsz v n xs hown B A m c news hr h1 h63 eB an
 unfold Oper.wp execOp
 simp only[ho,resolve,invoke,builtin,Sem.run_bind,Sem.run_pure,Result.andThen_ok,List.map_toArray,List.map_cons,List.map_nil,hs,hx,hrun]
 exact h v' w' h2 h3 h4
theorem jR {ops:Array Oper}{rest:List Oper}{o:Oper}{a:Act}{Q:Exit→Act→World→Prop}(hgd:Region.wanted o (yielded ops a.tmps)=true)(s x:Operand)(t:TypeId)
  (ho:o.op=.call {callee:=.builtin .append,args:=#[s,x],argTypes:=#[t,t]})
  (aa:Nat)(e:TypeId)(i:TypeInfo)(z:Value)(size bytes:Nat)(ht:P.underlying t=some (.slice e))(hi:P.info? e=some i)(hz:i.zero=some z)
  (hsize:i.size=size)(hby:i.bytes=bytes)(hzs:z.cells.size=size)(hsz:0 < size)
  (v:Value)(n:Nat)(xs:List Value)(hs:a.eval s=v)(hown:w.ownsRow aa e size v n xs)
  (B:Nat)(A:Option Addr)(m c:Nat)(news:List Value)(hx:a.eval x=G A m c)(hr:Reads w B size A m news)(h1:∀u∈news,u.oneCell'=true)
  (h63:n + m≤maxLen)(eB:(n + m) * bytes≤140737488355328)(an:aa≤w.heap.size)
  (h:∀v' w',w'.ownsRow aa e size v' (n + m) (xs++news)→w.grownBy w' v.ownBlock→(v'.ownBlock=v.ownBlock∨v'.ownBlock=some w.heap.size)→wpList P ops Q rest (a.put o.dst v') w'):wpList P ops Q (o::rest) a w:=
 BigFrame.wpList_want hgd fun _ hK=>kV w s x t ho aa e i z size bytes ht hi hz hsize hby hzs hsz v n xs hs hown B A m c news hx hr h1 h63 eB an fun v' w' h2 h3 h4=>hK _ _ (h v' w' h2 h3 h4)
end
theorem kr {w':World}{g aa n:Nat}{e:TypeId}{cs:Array Value}{xs:List Value}(hh:ab w' g e cs)(hb:aa≤g)(hm:n≤maxLen)(hs:cs.size=n)(hx:cs.toList=xs):w'.ownsRow aa e 1 (G (some ⟨g,0,none⟩) n n) n xs:=by
 subst hs hx
 exact⟨by simp,.inr ⟨g,_,cs,rfl,hb,hh,nR _,hm,by simp,List.take_of_length_le (by simp)⟩⟩
theorem ab.new_ {w:World}{g:Nat}{t:TypeId}{cs:Array Value}(hg:g=w.heap.size):ab (w.alloc (.cells cs t)) g t cs:=by subst hg;exact ab.new w t cs
theorem cu {p:Prop}(h:Hid p):p:=h
theorem cw {p:Prop}(h:p):Hid p:=h
def bv (l:List Nat):List Value:=l.map fun x:Nat=>X .u8 x
theorem el (l:List Nat):(bv l).length=l.length:=by simp[bv]
theorem kL {l:List Nat}{j:Nat}(h:j < l.length):(bv l)[j]? =some (X .u8 (l[j]:Nat)):=by simp[bv,h]
theorem lZ (a b:List Nat):bv (a++b)=bv a++bv b:=by simp[bv]
theorem oY (l:List Nat):∀u∈bv l,u.oneCell'=true:=by
 intro u hu
 obtain⟨_,_,rfl⟩:=List.mem_map.1 hu
 rfl
theorem D8:bv []=[]:=rfl
theorem gJ {w:World}{B:Nat}{A:Option Addr}{n:Nat}{l:List Nat}(h:Reads w B 1 A n (bv l)){j:Nat}(hj:j < n):
  ∃(ad:Addr) (hl:j < l.length),A=some ad∧w.cell? (ad.add j)=some (X .u8 (l[j]:Nat)):=by
 obtain⟨ad,u,ha,_,hx,hc⟩:=h.at_ hj
 have hl:j < l.length:=by have:=h.1;rw[el] at this;omega
 rw[kL hl] at hx
 cases hx
 exact⟨ad,hl,ha,hc⟩
theorem Reads.length {w:World}{B:Nat}{A:Option Addr}{n:Nat}{l:List Nat}(h:Reads w B 1 A n (bv l)):l.length=n:=by have:=h.1;rw[el] at this;omega
theorem Reads.take {w:World}{B:Nat}{A:Option Addr}{n k:Nat}{xs:List Value}(h:Reads w B 1 A n xs)(hk:k≤n):Reads w B 1 A k (xs.take k):=by
 have hl:=h.1
 refine⟨by simp;omega,fun hn=>?_⟩
 obtain⟨ad,rfl,hb,hc⟩:=h.2 (by omega)
 refine⟨ad,rfl,hb,fun j u hu=>hc j u ?_⟩
 have hj:j < k:=by
  have:=(List.getElem?_eq_some_iff.1 hu).1
  simp at this
  omega
 rwa [List.getElem?_take_of_lt hj] at hu
theorem Reads.takeb {w:World}{B:Nat}{A:Option Addr}{n k:Nat}{l:List Nat}(h:Reads w B 1 A n (bv l))(hk:k≤n):Reads w B 1 A k (bv (l.take k)):=by
 have:=h.take hk
 rwa [show (bv l).take k=bv (l.take k) from by simp[bv]] at this
theorem fy {w:World}{aa n c:Nat}{e:TypeId}{A:Option Addr}{xs:List Value}(h:w.ownsRow aa e 1 (G A n c) n xs)(hn:0 < n):∃g,A=some ⟨g,0,none⟩∧aa≤g∧g < w.heap.size:=by
 obtain⟨g,cap,hv,hg,au⟩:=h.form hn
 injection hv with hA
 exact⟨g,hA,hg,au⟩
theorem Reads.plain {w:World}{B size n:Nat}{A:Option Addr}{xs:List Value}(h:Reads w B size A n xs)(hn:0 < n)(hs:0 < size):∃b off,A=some ⟨b,off,none⟩∧b < B∧∀j u,xs[j]? =some u→w.cell? ⟨b,off + j,none⟩=some u:=by
 obtain⟨⟨b,off,spot⟩,ha,hb,hc⟩:=h.2 hn
 have hl:0 < xs.length:=by rw[h.1];exact Nat.mul_pos hn hs
 have h0:=hc 0 _ (List.getElem?_eq_getElem hl)
 rw[Addr.add_zero'] at h0
 have hsp:spot=none:=by
  cases spot with
  |none=>rfl
  |some s=>
   unfold World.cell? at h0
   split at h0
   ·simp at h0
   ·cases h0
 subst hsp
 refine⟨b,off,ha,hb,fun j u hu=>?_⟩
 have:=hc j u hu
 rwa [Addr.add_lit] at this
theorem aB {w:World}{aa n size g:Nat}{e t:TypeId}{v:Value}{xs:List Value}{cs:Array Value}(h:w.ownsRow aa e size v n xs)(hb:ab w g t cs)(az:e≠t)(i:Nat)(u:Value):
  (w.setCell ⟨g,i,none⟩ u).ownsRow aa e size v n xs:=
 h.kept (row:=some g) ⟨rfl,rfl,rfl,by simp,fun k _ hk=>heap_setCell_other w ⟨g,i,none⟩ k u (fun e=>hk (by simp[e]))⟩ (.inr (dj h hb az))
theorem aJ {w w':World}{aa n size:Nat}{e:TypeId}{v:Value}{xs:List Value}(h:w.ownsRow aa e size v n xs)(hb:Below w.heap.size w w'):w'.ownsRow aa e size v n xs:=by
 refine⟨h.1,?_⟩
 rcases h.2 with hn|⟨g,cap,cur,rfl,hg,hgg,rest⟩
 ·exact .inl hn
 ·exact .inr ⟨g,cap,cur,rfl,hg,by rw[hb.block g (Array.getElem?_eq_some_iff.1 hgg).1];exact hgg,rest⟩
theorem jA {w:World}{aa n c g:Nat}{e:TypeId}{l:List Nat}(h:w.ownsRow aa e 1 (G (some ⟨g,0,none⟩) n c) n (bv l))(j:Nat)(hj:j < n)(hl:j < l.length):w.cell? ⟨g,j,none⟩=some (X .u8 (l[j]:Nat)):=by
 rw[h.cellAt j (by omega),kL hl]
theorem kh {w:World}{aa n c g:Nat}{e:TypeId}{l:List Nat}(h:w.ownsRow aa e 1 (G (some ⟨g,0,none⟩) n c) n (bv l))(j x:Nat):
  (w.setCell ⟨g,j,none⟩ (X .u8 x)).ownsRow aa e 1 (G (some ⟨g,0,none⟩) n c) n (bv (l.set j x)):=by
 have:=(h.stored j (X .u8 x)).1
 rwa [show (bv l).set j (X .u8 x)=bv (l.set j x) from by simp[bv,List.map_set]] at this
theorem dQ (w:World)(e:TypeId)(fr:Nat×Nat)(C:Array Value)(n B g:Nat)(hn:C.size=n)(hB:B=w.heap.size + 1)(hg:g=w.heap.size)(xs:List Value)(hx:C.toList=xs):
  Reads (w.alloc (.cells C e fr)) B 1 (some ⟨g,0,none⟩) n xs:=by
 subst hn hB hg hx
 refine⟨by simp,fun _=>⟨_,rfl,Nat.lt_succ_self _,fun j u hu=>?_⟩⟩
 have hj:(⟨w.heap.size,0,none⟩:Addr).add j=⟨w.heap.size,j,none⟩:=by unfold Addr.add;split<;>simp_all
 rw[hj,World.cell?_alloc_mark]
 simpa using hu
theorem cV {w:World}{aa size n:Nat}{e:TypeId}{v:Value}{xs:List Value}(h:w.ownsRow aa e size v n xs):∃A c,v=G A n c:=by
 rcases h.2 with⟨rfl,rfl⟩|⟨g,cap,cur,rfl,_⟩
 ·exact⟨_,_,rfl⟩
 ·exact⟨_,_,rfl⟩
theorem ee {P:Program}{w:World}{ops:Array Oper}{rest:List Oper}{o:Oper}{a:Act}{Q:Exit→Act→World→Prop}(hw:Region.wanted o (yielded ops a.tmps)=true)(s x:Operand)(t:TypeId)
  (ho:o.op=.call {callee:=.builtin .append,args:=#[s,x],argTypes:=#[t,t]})
  (e:TypeId)(hi:(P.info? e).map (fun i=>(i.zero,i.size,i.bytes))=some (some (X .u8 0),1,1))(ht:P.underlying t=some (.slice e))
  (aa:Nat)(v:Value)(n:Nat)(l:List Nat)(hs:a.eval s=v)(hown:w.ownsRow aa e 1 v n (bv l))
  (B:Nat)(A:Option Addr)(m c:Nat)(news:List Nat)(hx:a.eval x=G A m c)(hr:Reads w B 1 A m (bv news))
  (k:Nat)(hk:n + m=k)(eB:k≤140737488355328)(an:aa≤w.heap.size)
  (h:∀A' c' w',w'.ownsRow aa e 1 (G A' k c') k (bv (l++news))→Below aa w w'→w.grownBy w' v.ownBlock→((Value.slice A' k c').ownBlock=v.ownBlock∨(Value.slice A' k c').ownBlock=some w.heap.size)→wpList P ops Q rest (a.put o.dst (G A' k c')) w'):
  wpList P ops Q (o::rest) a w:=by
 subst hk
 obtain⟨i0,hi0,hz0,hz1,hz2⟩:=info_parts hi
 refine jR w hw s x t ho aa e i0 _ 1 1 ht hi0 hz0 hz1 hz2 rfl (by omega) v n (bv l) hs hown B A m c (bv news) hx hr (oY _) (by unfold maxLen;omega) (by omega) an ?_
 intro v' w' h1 h2 h3
 obtain⟨A',c',rfl⟩:=cV h1
 rw[←lZ] at h1
 exact h A' c' w' h1 ((bR _ _).grown h2 an (fun k hk=>(hown.lt k hk).1)) h2 h3
theorem eL {P:Program}{w:World}{ops:Array Oper}{o:Oper}{a:Act}{K:Act→World→Prop}{Q:Exit→Act→World→Prop}{E:Prop}(hw:Region.wanted o (yielded ops a.tmps)=true)(s x:Operand)(t:TypeId)
  (ho:o.op=.call {callee:=.builtin .append,args:=#[s,x],argTypes:=#[t,t]})
  (e:TypeId)(hi:(P.info? e).map (fun i=>(i.zero,i.size,i.bytes))=some (some (X .u8 0),1,1))(ht:P.underlying t=some (.slice e))
  (aa:Nat)(v:Value)(n:Nat)(l:List Nat)(hs:a.eval s=v)(hown:w.ownsRow aa e 1 v n (bv l))
  (B:Nat)(A:Option Addr)(m c:Nat)(news:List Nat)(hx:a.eval x=G A m c)(hr:Reads w B 1 A m (bv news))
  (k:Nat)(hk:n + m=k)(eB:k≤140737488355328)(an:aa≤w.heap.size)
  (h:∀A' c' w',w'.ownsRow aa e 1 (G A' k c') k (bv (l++news))→Below aa w w'→w.grownBy w' v.ownBlock→((Value.slice A' k c').ownBlock=v.ownBlock∨(Value.slice A' k c').ownBlock=some w.heap.size)→K (a.put o.dst (G A' k c')) w'):
  if Region.wanted o (yielded ops a.tmps)=true then Oper.wp P o a w K Q else E:=by
 subst hk
 obtain⟨i0,hi0,hz0,hz1,hz2⟩:=info_parts hi
 rw[if_pos hw]
 refine kV w s x t ho aa e i0 _ 1 1 ht hi0 hz0 hz1 hz2 rfl (by omega) v n (bv l) hs hown B A m c (bv news) hx hr (oY _) (by unfold maxLen;omega) (by omega) an ?_
 intro v' w' h1 h2 h3
 obtain⟨A',c',rfl⟩:=cV h1
 rw[←lZ] at h1
 exact h A' c' w' h1 ((bR _ _).grown h2 an (fun k hk=>(hown.lt k hk).1)) h2 h3
theorem pK {P:Program}{w:World}{ops:Array Oper}{rest:List Oper}{o:Oper}{a:Act}{Q:Exit→Act→World→Prop}(hw:Region.wanted o (yielded ops a.tmps)=true)(s x:Operand)(t:TypeId)
  (ho:o.op=.call {callee:=.builtin .append,args:=#[s,x],argTypes:=#[t,t]})
  (e:TypeId)(z:Value)(hi:(P.info? e).map (fun i=>(i.zero,i.size,i.bytes))=some (some z,1,8))(hzc:z.cells.size=1)(ht:P.underlying t=some (.slice e))
  (aa:Nat)(v:Value)(n:Nat)(xs:List Value)(hs:a.eval s=v)(hown:w.ownsRow aa e 1 v n xs)
  (B:Nat)(A:Option Addr)(m c:Nat)(news:List Value)(hx:a.eval x=G A m c)(hr:Reads w B 1 A m news)(h1:∀u∈news,u.oneCell'=true)
  (k:Nat)(hk:n + m=k)(eB:k≤1099511627776)(an:aa≤w.heap.size)
  (h:∀A' c' w',w'.ownsRow aa e 1 (G A' k c') k (xs++news)→Below aa w w'→w.grownBy w' v.ownBlock→((Value.slice A' k c').ownBlock=v.ownBlock∨(Value.slice A' k c').ownBlock=some w.heap.size)→wpList P ops Q rest (a.put o.dst (G A' k c')) w'):
  wpList P ops Q (o::rest) a w:=by
 subst hk
 obtain⟨i0,hi0,hz0,hz1,hz2⟩:=info_parts hi
 refine jR w hw s x t ho aa e i0 _ 1 8 ht hi0 hz0 hz1 hz2 hzc (by omega) v n xs hs hown B A m c news hx hr h1 (by unfold maxLen;omega) (by omega) an ?_
 intro v' w' h1 h2 h3
 obtain⟨A',c',rfl⟩:=cV h1
 exact h A' c' w' h1 ((bR _ _).grown h2 an (fun k hk=>(hown.lt k hk).1)) h2 h3
end
section
open Go.RowKit
variable {w:World}{p:Nat}{t:TypeId}{v0 v1 v2 v3 v4 v5 v6 v7 v8 v9 v10 v11 v12 v13 v14 v15 v16 v17 v18 v19:Value}{l:List Value}{cs:Array Value}
theorem ab.c1 (h:ab w p t (v0::l).toArray):w.cell? ⟨p,0,none⟩=some v0:=h.cell 0
theorem ab.c2 (h:ab w p t (v0::v1::l).toArray):w.cell? ⟨p,0,none⟩=some v0∧w.cell? ⟨p,1,none⟩=some v1:=⟨h.cell 0,h.cell 1⟩
theorem ab.c3 (h:ab w p t (v0::v1::v2::l).toArray):w.cell? ⟨p,0,none⟩=some v0∧w.cell? ⟨p,1,none⟩=some v1∧w.cell? ⟨p,2,none⟩=some v2:=⟨h.cell 0,h.cell 1,h.cell 2⟩
theorem ab.c4 (h:ab w p t (v0::v1::v2::v3::l).toArray):w.cell? ⟨p,0,none⟩=some v0∧w.cell? ⟨p,1,none⟩=some v1∧w.cell? ⟨p,2,none⟩=some v2∧w.cell? ⟨p,3,none⟩=some v3:=⟨h.cell 0,h.cell 1,h.cell 2,h.cell 3⟩
theorem ab.c5 (h:ab w p t (v0::v1::v2::v3::v4::l).toArray):w.cell? ⟨p,0,none⟩=some v0∧w.cell? ⟨p,1,none⟩=some v1∧w.cell? ⟨p,2,none⟩=some v2∧w.cell? ⟨p,3,none⟩=some v3∧w.cell? ⟨p,4,none⟩=some v4:=⟨h.cell 0,h.cell 1,h.cell 2,h.cell 3,h.cell 4⟩
theorem ab.c6 (h:ab w p t (v0::v1::v2::v3::v4::v5::l).toArray):w.cell? ⟨p,0,none⟩=some v0∧w.cell? ⟨p,1,none⟩=some v1∧w.cell? ⟨p,2,none⟩=some v2∧w.cell? ⟨p,3,none⟩=some v3∧w.cell? ⟨p,4,none⟩=some v4∧w.cell? ⟨p,5,none⟩=some v5:=⟨h.cell 0,h.cell 1,h.cell 2,h.cell 3,h.cell 4,h.cell 5⟩
theorem ab.c7 (h:ab w p t (v0::v1::v2::v3::v4::v5::v6::l).toArray):w.cell? ⟨p,0,none⟩=some v0∧w.cell? ⟨p,1,none⟩=some v1∧w.cell? ⟨p,2,none⟩=some v2∧w.cell? ⟨p,3,none⟩=some v3∧w.cell? ⟨p,4,none⟩=some v4∧w.cell? ⟨p,5,none⟩=some v5∧w.cell? ⟨p,6,none⟩=some v6:=⟨h.cell 0,h.cell 1,h.cell 2,h.cell 3,h.cell 4,h.cell 5,h.cell 6⟩
theorem ab.c8 (h:ab w p t (v0::v1::v2::v3::v4::v5::v6::v7::l).toArray):w.cell? ⟨p,0,none⟩=some v0∧w.cell? ⟨p,1,none⟩=some v1∧w.cell? ⟨p,2,none⟩=some v2∧w.cell? ⟨p,3,none⟩=some v3∧w.cell? ⟨p,4,none⟩=some v4∧w.cell? ⟨p,5,none⟩=some v5∧w.cell? ⟨p,6,none⟩=some v6∧w.cell? ⟨p,7,none⟩=some v7:=⟨h.cell 0,h.cell 1,h.cell 2,h.cell 3,h.cell 4,h.cell 5,h.cell 6,h.cell 7⟩
theorem ab.c11 (h:ab w p t (v0::v1::v2::v3::v4::v5::v6::v7::v8::v9::v10::l).toArray):w.cell? ⟨p,0,none⟩=some v0∧w.cell? ⟨p,1,none⟩=some v1∧w.cell? ⟨p,2,none⟩=some v2∧w.cell? ⟨p,3,none⟩=some v3∧w.cell? ⟨p,4,none⟩=some v4∧w.cell? ⟨p,5,none⟩=some v5∧w.cell? ⟨p,6,none⟩=some v6∧w.cell? ⟨p,7,none⟩=some v7∧w.cell? ⟨p,8,none⟩=some v8∧w.cell? ⟨p,9,none⟩=some v9∧w.cell? ⟨p,10,none⟩=some v10:=⟨h.cell 0,h.cell 1,h.cell 2,h.cell 3,h.cell 4,h.cell 5,h.cell 6,h.cell 7,h.cell 8,h.cell 9,h.cell 10⟩
theorem ab.c14 (h:ab w p t (v0::v1::v2::v3::v4::v5::v6::v7::v8::v9::v10::v11::v12::v13::l).toArray):w.cell? ⟨p,0,none⟩=some v0∧w.cell? ⟨p,1,none⟩=some v1∧w.cell? ⟨p,2,none⟩=some v2∧w.cell? ⟨p,3,none⟩=some v3∧w.cell? ⟨p,4,none⟩=some v4∧w.cell? ⟨p,5,none⟩=some v5∧w.cell? ⟨p,6,none⟩=some v6∧w.cell? ⟨p,7,none⟩=some v7∧w.cell? ⟨p,8,none⟩=some v8∧w.cell? ⟨p,9,none⟩=some v9∧w.cell? ⟨p,10,none⟩=some v10∧w.cell? ⟨p,11,none⟩=some v11∧w.cell? ⟨p,12,none⟩=some v12∧w.cell? ⟨p,13,none⟩=some v13:=⟨h.cell 0,h.cell 1,h.cell 2,h.cell 3,h.cell 4,h.cell 5,h.cell 6,h.cell 7,h.cell 8,h.cell 9,h.cell 10,h.cell 11,h.cell 12,h.cell 13⟩
theorem ab.f3 (h:ab w p t cs):w.frozen? ⟨p,0,none⟩=false∧w.frozen? ⟨p,1,none⟩=false∧w.frozen? ⟨p,2,none⟩=false:=⟨h.frozen 0,h.frozen 1,h.frozen 2⟩
theorem ab.f4 (h:ab w p t cs):w.frozen? ⟨p,0,none⟩=false∧w.frozen? ⟨p,1,none⟩=false∧w.frozen? ⟨p,2,none⟩=false∧w.frozen? ⟨p,3,none⟩=false:=⟨h.frozen 0,h.frozen 1,h.frozen 2,h.frozen 3⟩
theorem ab.f5 (h:ab w p t cs):w.frozen? ⟨p,0,none⟩=false∧w.frozen? ⟨p,1,none⟩=false∧w.frozen? ⟨p,2,none⟩=false∧w.frozen? ⟨p,3,none⟩=false∧w.frozen? ⟨p,4,none⟩=false:=⟨h.frozen 0,h.frozen 1,h.frozen 2,h.frozen 3,h.frozen 4⟩
theorem ab.f6 (h:ab w p t cs):w.frozen? ⟨p,0,none⟩=false∧w.frozen? ⟨p,1,none⟩=false∧w.frozen? ⟨p,2,none⟩=false∧w.frozen? ⟨p,3,none⟩=false∧w.frozen? ⟨p,4,none⟩=false∧w.frozen? ⟨p,5,none⟩=false:=⟨h.frozen 0,h.frozen 1,h.frozen 2,h.frozen 3,h.frozen 4,h.frozen 5⟩
theorem ab.f7 (h:ab w p t cs):w.frozen? ⟨p,0,none⟩=false∧w.frozen? ⟨p,1,none⟩=false∧w.frozen? ⟨p,2,none⟩=false∧w.frozen? ⟨p,3,none⟩=false∧w.frozen? ⟨p,4,none⟩=false∧w.frozen? ⟨p,5,none⟩=false∧w.frozen? ⟨p,6,none⟩=false:=⟨h.frozen 0,h.frozen 1,h.frozen 2,h.frozen 3,h.frozen 4,h.frozen 5,h.frozen 6⟩
theorem ab.f9 (h:ab w p t cs):w.frozen? ⟨p,0,none⟩=false∧w.frozen? ⟨p,1,none⟩=false∧w.frozen? ⟨p,2,none⟩=false∧w.frozen? ⟨p,3,none⟩=false∧w.frozen? ⟨p,4,none⟩=false∧w.frozen? ⟨p,5,none⟩=false∧w.frozen? ⟨p,6,none⟩=false∧w.frozen? ⟨p,7,none⟩=false∧w.frozen? ⟨p,8,none⟩=false:=⟨h.frozen 0,h.frozen 1,h.frozen 2,h.frozen 3,h.frozen 4,h.frozen 5,h.frozen 6,h.frozen 7,h.frozen 8⟩
theorem ab.f11 (h:ab w p t cs):w.frozen? ⟨p,0,none⟩=false∧w.frozen? ⟨p,1,none⟩=false∧w.frozen? ⟨p,2,none⟩=false∧w.frozen? ⟨p,3,none⟩=false∧w.frozen? ⟨p,4,none⟩=false∧w.frozen? ⟨p,5,none⟩=false∧w.frozen? ⟨p,6,none⟩=false∧w.frozen? ⟨p,7,none⟩=false∧w.frozen? ⟨p,8,none⟩=false∧w.frozen? ⟨p,9,none⟩=false∧w.frozen? ⟨p,10,none⟩=false:=⟨h.frozen 0,h.frozen 1,h.frozen 2,h.frozen 3,h.frozen 4,h.frozen 5,h.frozen 6,h.frozen 7,h.frozen 8,h.frozen 9,h.frozen 10⟩
theorem ab.f19 (h:ab w p t cs):w.frozen? ⟨p,0,none⟩=false∧w.frozen? ⟨p,1,none⟩=false∧w.frozen? ⟨p,2,none⟩=false∧w.frozen? ⟨p,3,none⟩=false∧w.frozen? ⟨p,4,none⟩=false∧w.frozen? ⟨p,5,none⟩=false∧w.frozen? ⟨p,6,none⟩=false∧w.frozen? ⟨p,7,none⟩=false∧w.frozen? ⟨p,8,none⟩=false∧w.frozen? ⟨p,9,none⟩=false∧w.frozen? ⟨p,10,none⟩=false∧w.frozen? ⟨p,11,none⟩=false∧w.frozen? ⟨p,12,none⟩=false∧w.frozen? ⟨p,13,none⟩=false∧w.frozen? ⟨p,14,none⟩=false∧w.frozen? ⟨p,15,none⟩=false∧w.frozen? ⟨p,16,none⟩=false∧w.frozen? ⟨p,17,none⟩=false∧w.frozen? ⟨p,18,none⟩=false:=⟨h.frozen 0,h.frozen 1,h.frozen 2,h.frozen 3,h.frozen 4,h.frozen 5,h.frozen 6,h.frozen 7,h.frozen 8,h.frozen 9,h.frozen 10,h.frozen 11,h.frozen 12,h.frozen 13,h.frozen 14,h.frozen 15,h.frozen 16,h.frozen 17,h.frozen 18⟩
end
section
open Go.RowKit
theorem gU {k:IntKind}{a b:Int}(h:a=b):Ending.returned (.int k a)=rT (.int k b):=by rw[h]
theorem pF (n a:Nat)(ha:a < 2 ^ n):(2 ^ n - 1) ^^^ a=2 ^ n - 1 - a:=by
 have e:2 ^ n - 1 - a=2 ^ n - (a + 1):=by omega
 rw[e]
 apply Nat.eq_of_testBit_eq
 intro i
 rw[Nat.testBit_xor,Nat.testBit_two_pow_sub_one,Nat.testBit_two_pow_sub_succ ha]
 by_cases h:i < n
 ·simp[h]
 ·have:a.testBit i=false:=Nat.testBit_lt_two_pow (Nat.lt_of_lt_of_le ha (Nat.pow_le_pow_right (by omega) (by omega)))
  simp[h,this]
theorem lH (a:Nat)(ha:a≤65535):bits BinOp.xor IntKind.u16 IntKind.u16.max (a:Int)=((65535 - a:Nat):Int):=by
 have h:=u16_xor_nat 65535 a (by omega) (by omega)
 have e:(65535 ^^^ a:Nat)=65535 - a:=pF 16 a (by omega)
 rw[e] at h
 exact h
theorem yU (a:Nat)(ha:a < 4294967296):bits BinOp.xor IntKind.u32 IntKind.u32.max (a:Int)=((4294967295 - a:Nat):Int):=by
 have h:=u32_xor_nat 4294967295 a (by omega) (by omega)
 have e:(4294967295 ^^^ a:Nat)=4294967295 - a:=pF 32 a (by omega)
 rw[e] at h
 exact h
theorem add_succ (a:Addr)(k:Nat):a.add (k + 1)=⟨a.block,a.off + (k + 1),none⟩:=by simp[Addr.add]
end
section
open Go.ChangeShapes Go.WideShapes Go.ChangeAt Go.RowKit
structure pC (w:World)(a:Option Addr)(n c:Nat)(l:List Nat):Prop where
 len:l.length=n
 all:ay l
 le:n≤c
 reach:c≤140737488351232
 reads:Reads w w.heap.size 1 a n (bv l)
 some_:0 < c→∃x,a=some x
theorem wf_u8 {z:Int}(h:(Lit.int .u8 z).wf=true):0≤z∧z < 256:=by
 have:0≤z∧z≤255:=by simpa [Lit.wf,IntKind.min,IntKind.max,IntKind.signed,IntKind.bits] using h
 omega
theorem wf_u32 {z:Int}(h:(Lit.int .u32 z).wf=true):0≤z∧z < 4294967296:=by
 have:0≤z∧z≤4294967295:=by simpa [Lit.wf,IntKind.min,IntKind.max,IntKind.signed,IntKind.bits] using h
 omega
theorem wf_i64 {z:Int}(h:(Lit.int .i64 z).wf=true):-9223372036854775808≤z∧z≤9223372036854775807:=by
 simpa [Lit.wf,IntKind.min,IntKind.max,IntKind.signed,IntKind.bits] using h
theorem rL {z:Int}(h:(Lit.int .u32 z).wf=true):∃n:Nat,z=n∧n < 4294967296:=⟨z.toNat,by have:=wf_u32 h;omega,by have:=wf_u32 h;omega⟩
section
variable {H:Type}{enc:TypeId×Value→H}{P:Program}{W:World}{t e:TypeId}{d:DataW H}{ps:List MemPlace}
theorem jq {v:Value}(h:DataW.Trod enc P W 0 (fun _=>true) true t v d ps):∀x∈ps,x.block < W.heap.size:=by
 obtain⟨m,hm⟩:=h
 exact DataW.trod_lt m _ _ _ hm
theorem yJ {a:Option Addr}{n c j:Nat}{ts:List TypeId}{ds:List (DataW H)}(U:P.underlying t=some (.slice e))(Ue:P.underlying e=some (.int .u8))(hc:P.cellsOf e=1)(hb:P.bytesOf e=1)
  (hz:(DataW.weightsEach P ts ds).all (·≤reachBytes)=true)(ht:ts[j]? =some t)(hd:ds[j]? =some d)
  (h:DataW.Trod enc P W 0 (fun _=>true) true t (G a n c) d ps):∃l:List Nat,pC W a n c l:=by
 have au:=jq h
 obtain⟨fuel,hf⟩:=h
 rcases open_ints U Ue hc hf with⟨hcs,_⟩|⟨x,l,c',zs,hcs,_,hl,hm,hzl,hx,hcell,hwz⟩
 ·simp[Value.cells] at hcs
  obtain⟨rfl,rfl,rfl⟩:=hcs
  exact⟨[],rfl,(by intro x hx;cases hx),nR _,by decide,Reads.none_,by omega⟩
 ·simp[Value.cells] at hcs
  obtain⟨rfl,rfl,rfl⟩:=hcs
  simp only[if_true] at hzl
  have hreach:c≤reachBytes:=by
   simp only[Prod.mk.injEq] at hx
   obtain⟨rfl,_⟩:=hx
   have:=sized_slice hz ht hd U
   rw[hb] at this
   simp[lits] at this
   omega
  refine⟨(zs.take n).map Int.toNat,by simp;omega,?_,hl,hreach,?_,fun _=>⟨_,rfl⟩⟩
  ·intro y hy
   obtain⟨z,hz',rfl⟩:=List.mem_map.1 hy
   have:=wf_u8 (hwz z (List.mem_of_mem_take hz'))
   omega
  ·refine⟨by simp[bv];omega,fun hn=>⟨x,rfl,?_,fun k u hu=>?_⟩⟩
   ·have hc0:=hcell 0 (by omega)
    rw[Addr.add_zero'] at hc0
    exact World.block_lt_of_cell? W x hc0
   ·have hk:k < n:=by
     have:=(List.getElem?_eq_some_iff.1 hu).1
     simp[bv] at this
     omega
    rw[hcell k (by omega)]
    have hw:=wf_u8 (hwz _ (List.getElem_mem (l:=zs) (n:=k) (by omega)))
    simp[bv,hk,show k < zs.length by omega] at hu
    rw[←hu]
    simp[List.getD,show k < zs.length by omega]
    omega
end
def eJ (l:List Nat):ByteArray:=⟨(l.map UInt8.ofNat).toArray⟩
theorem qI (l:List Nat):(eJ l).toList=l.map UInt8.ofNat:=by simp[eJ]
theorem mI {x:Nat}(h:x < 256):(UInt8.ofNat x).toNat=x:=by rw[UInt8.toNat_ofNat'];omega
theorem sc:∀(l m:List Nat),ay l→ay m→l.map UInt8.ofNat=m.map UInt8.ofNat→l=m
 |[],[],_,_,_=>rfl
 |[],_::_,_,_,h=>by simp at h
 |_::_,[],_,_,h=>by simp at h
 |x::r,y::t,hl,hm,h=>by
  simp only[List.map_cons,List.cons.injEq] at h
  have hx:=hl x (List.mem_cons_self ..)
  have hy:=hm y (List.mem_cons_self ..)
  have e:=congrArg UInt8.toNat h.1
  rw[mI hx,mI hy] at e
  have:x=y:=e
  rw[this,sc r t (fun z hz=>hl z (List.mem_cons_of_mem _ hz)) (fun z hz=>hm z (List.mem_cons_of_mem _ hz)) h.2]
theorem vK {l m:List Nat}(hl:ay l)(hm:ay m):((eJ l).toList==(eJ m).toList)=decide (l=m):=by
 rw[qI,qI]
 by_cases h:l=m
 ·subst h;simp
 ·have:l.map UInt8.ofNat≠m.map UInt8.ofNat:=fun e=>h (sc l m hl hm e)
  simp[h,this]
theorem lq {P:Program}{w:World}{B n c:Nat}{A:Option Addr}{l:List Nat}(src dst e:TypeId)(hs:P.underlying src=some (.slice e))(he:P.underlying e=some (.int .u8))(hd:P.underlying dst=some .string)
  (hr:Reads w B 1 A n (bv l))(ha:ay l):(convert src dst (G A n c)).run P w=.ok (.string (eJ l)) w:=by
 have ax:=hr.length
 rcases A with _|ad
 ·have h0:n=0:=by
   rcases Nat.eq_zero_or_pos n with h|h
   ·exact h
   ·obtain⟨_,h',_⟩:=hr.2 h
    cases h'
  subst h0
  have:l=[]:=List.eq_nil_of_length_eq_zero ax
  subst this
  rw[run_convert_bytes_string w src dst e none 0 c hs he hd]
  rfl
 ·have:=run_convert_bytes_back (P:=P) w src dst e ad c (l.map UInt8.ofNat) hs he hd (fun j hj=>by
   have hjl:j < l.length:=by simpa using hj
   obtain⟨ad',_,e',hc⟩:=gJ hr (j:=j) (by omega)
   cases e'
   rw[hc]
   have hb:=ha _ (List.getElem_mem hjl)
   rw[List.getElem_map,mI hb])
  simp only[List.length_map,ax] at this
  exact this
end
section
open Go.RowKit
structure Be where
 id:Int
 addr:Nat
 weight:Int
def Be.cells (b:Be):List Value:=[X Y b.id,X Z b.addr,X Y b.weight]
def aC (l:List Be):List Value:=l.flatMap Be.cells
theorem l7 (l:List Be):(aC l).length=l.length * 3:=by
 induction l with
 |nil=>rfl
 |cons b r ih=>simp[aC,Be.cells] at *;omega
theorem tS:∀(l:List Be) (j:Nat) (h:j < l.length),(aC l)[j * 3]? =some (X Y l[j].id)∧(aC l)[j * 3 + 1]? =some (X Z (l[j].addr))∧(aC l)[j * 3 + 2]? =some (X Y l[j].weight)
 |[],_,h=>by simp at h
 |b::r,0,_=>⟨rfl,rfl,rfl⟩
 |b::r,j + 1,h=>by
  have ih:=tS r j (by simpa using h)
  have e:∀k,(aC (b::r))[(j + 1) * 3 + k]? =(aC r)[j * 3 + k]?:=by
   intro k
   rw[show (j + 1) * 3 + k=j * 3 + k + 1 + 1 + 1 from by omega]
   rfl
  have e0:=e 0
  simp only[Nat.add_zero] at e0
  rw[e0,e 1,e 2]
  exact ih
def dD (l:List Be):Prop:=∀b∈l,(-9223372036854775808≤b.id∧b.id≤9223372036854775807)∧b.addr < 4294967296∧(-9223372036854775808≤b.weight∧b.weight≤9223372036854775807)
theorem Reads.be {w:World}{B:Nat}{A:Option Addr}{n:Nat}{l:List Be}(h:Reads w B 3 A n (aC l)){j:Nat}(hj:j < n):
  ∃(b off:Nat) (hl:j < l.length),A=some ⟨b,off,none⟩∧w.cell? ⟨b,off + j * 3,none⟩=some (X Y l[j].id)∧w.cell? ⟨b,off + j * 3 + 1,none⟩=some (X Z (l[j].addr))∧w.cell? ⟨b,off + j * 3 + 2,none⟩=some (X Y l[j].weight):=by
 obtain⟨b,off,ha,_,hc⟩:=h.plain (by omega) (by omega)
 have hl:j < l.length:=by have:=h.1;rw[l7] at this;omega
 obtain⟨h0,h1,h2⟩:=tS l j hl
 exact⟨b,off,hl,ha,hc _ _ h0,hc _ _ h1,hc _ _ h2⟩
theorem Reads.be_length {w:World}{B:Nat}{A:Option Addr}{n:Nat}{l:List Be}(h:Reads w B 3 A n (aC l)):l.length=n:=by have:=h.1;rw[l7] at this;omega
def dy (l:List Be)(j:Nat):Prop:=∃h:j < l.length,0≤l[j].id∧l[j].id≤65535∧1≤l[j].weight∧l[j].weight≤10∧∀(_:0 < j),(l[j - 1]'(by omega)).id < l[j].id
def gP (n:Nat)(l:List Be):Prop:=0 < n∧n≤16∧∀j,j < n→dy l j
def kS (n:Nat)(l:List Be)(e:Ending):Prop:=∃b:Bool,e=rT (.bool b)∧(b=true↔gP n l)
theorem nY {n:Nat}{l:List Be}(h:¬gP n l):kS n l (rT (bL false)):=⟨false,rfl,by simp[h]⟩
theorem zz {n:Nat}{l:List Be}(h:gP n l):kS n l (rT (bL true)):=⟨true,rfl,by simp[h]⟩
theorem zx (A:Option Addr)(n c B:Nat)(l:List Be)(w:World)(hr:Reads w B 3 A n (aC l))(hB:B≤w.heap.size)(hok:dD l)(hn:n≤46912496118442)(hnc:n≤c):
  Calls Pg 284 #[G A n c] w fun e w'=>kS n l e∧Below w.heap.size w w':=by
 have ax:=hr.be_length
 by_cases h0:n=0
 ·subst h0
  go_enter func284,ntmps284
  go_wp2
  go_ret
  exact⟨nY (fun h=>by have:=h.1;omega),bR _ _⟩
 by_cases h16:16 < n
 ·have ao:((n:Int)==0)=false:=by simp;omega
  go_enter func284,ntmps284
  go_wp2
  go_ret
  exact⟨nY (fun h=>by have:=h.2.1;omega),bR _ _⟩
 have ao:((n:Int)==0)=false:=by simp;omega
 go_enter func284,ntmps284
 go_wp2
 go_loopw [15] (fun i wr=>∃k:Nat,k≤n∧i=X Y k∧Hid (∀j,j < k→dy l j)∧Below w.heap.size w wr) (fun i _=>n - (intOf i).toNat)
 case atStart=>exact⟨0,by omega,rfl,(fun j h=>by omega),bR _ _⟩
 case round=>
  obtain⟨k,hk,rfl,hall,hbr⟩:=hrel
  by_cases hkn:k < n
  ·obtain⟨b,off,hl,rfl,hc0,hc1,hc2⟩:=(hr.below (hbr.mono hB)).be hkn
   have hp:∃y:Int,0 < k→wr.cell? ⟨b,off + (k - 1) * 3,none⟩=some (X Y y)∧Hid (∃h:k - 1 < l.length,l[k - 1].id=y):=by
    by_cases h:0 < k
    ·obtain⟨b',off',hl',e,hc',_⟩:=(hr.below (hbr.mono hB)).be (j:=k - 1) (by omega)
     cases e
     exact⟨_,fun _=>⟨hc',hl',rfl⟩⟩
    ·exact⟨0,fun h'=>absurd h' h⟩
   obtain⟨y,hy⟩:=hp
   have hdec:Hid (dy l k↔0≤l[k].id∧l[k].id≤65535∧1≤l[k].weight∧l[k].weight≤10∧(0 < k→y < l[k].id)):=by
    constructor
    ·rintro⟨_,h1,h2,h3,h4,h5⟩
     refine⟨h1,h2,h3,h4,fun h=>?_⟩
     obtain⟨_,e⟩:=(hy h).2.out
     rw[←e];exact h5 h
    ·rintro⟨h1,h2,h3,h4,h5⟩
     refine⟨hl,h1,h2,h3,h4,fun h=>?_⟩
     obtain⟨_,e⟩:=(hy h).2.out
     rw[e];exact h5 h
   have hbad:Hid (¬dy l k→kS n l (rT (bL false))):=fun h=>nY (fun hm=>h (hm.2.2 k hkn))
   have hgood:Hid (dy l k→∀j,j < k + 1→dy l j):=by
    intro h j hj
    by_cases e:j=k
    ·subst e;exact h
    ·exact hall.out j (by omega)
   have hbl:=hok _ (List.getElem_mem hl)
   generalize l[k].id=x at *
   generalize l[k].weight=wt at *
   generalize l[k].addr=ad at *
   obtain⟨ae,_,al⟩:=hbl
   have hsz:=hbr.size
   have hbox:Below w.heap.size w (wr.alloc (cL #[X Y x,X Z ad,X Y wt] 34)):=hbr.alloc hsz _
   have dc:(wr.alloc (cL #[X Y x,X Z ad,X Y wt] 34)).cell? ⟨wr.heap.size,0,none⟩=some (X Y x):=(ab.new wr _ _).cell 0
   have hd2:(wr.alloc (cL #[X Y x,X Z ad,X Y wt] 34)).cell? ⟨wr.heap.size,2,none⟩=some (X Y wt):=(ab.new wr _ _).cell 2
   have hy2:0 < k→(wr.alloc (cL #[X Y x,X Z ad,X Y wt] 34)).cell? ⟨b,off + (k - 1) * 3,none⟩=some (X Y y):=fun h=>by
    have h1:=(hy h).1
    rw[World.cell?_alloc_lt _ _ _ (World.block_lt_of_cell? wr _ h1)]
    exact h1
   have HY:=jH hy2
   clear hy hy2
   go_wp2
   generalize wr.alloc (cL #[X Y x,X Z ad,X Y wt] 34)=w2 at *
   have hcase:(x < 0∧Hid (¬dy l k))∨(0≤x∧65535 < x∧Hid (¬dy l k))∨(0≤x∧x≤65535∧wt < 1∧Hid (¬dy l k))∨(0≤x∧x≤65535∧1≤wt∧10 < wt∧Hid (¬dy l k))∨
     (0≤x∧x≤65535∧1≤wt∧wt≤10∧0 < k∧x≤y∧Hid (¬dy l k))∨(0≤x∧x≤65535∧1≤wt∧wt≤10∧0 < k∧y < x∧Hid (dy l k))∨(0≤x∧x≤65535∧1≤wt∧wt≤10∧k=0∧Hid (dy l k)):=by
    have hd:=hdec.out
    unfold Hid
    rw[hd]
    omega
   rcases hcase with⟨q1,hno⟩|⟨q1,q2,hno⟩|⟨q1,q2,q3,hno⟩|⟨q1,q2,q3,q4,hno⟩|⟨q1,q2,q3,q4,hk0,q5,hno⟩|⟨q1,q2,q3,q4,hk0,q5,hyes⟩|⟨q1,q2,q3,q4,rfl,hyes⟩
   ·have d1:decide (x < 0)=true:=decide_eq_true (by omega)
    clear q1
    go_quiet (fail)
    go_wp2
    go_ret
    exact⟨hbad.out hno.out,hbox.trans ⟨rfl,rfl,rfl,nR _,fun _ _=>rfl⟩⟩
   ·have d1:decide (x < 0)=false:=decide_eq_false (by omega)
    have d2:decide (65535 < x)=true:=decide_eq_true (by omega)
    clear q1 q2
    go_quiet (fail)
    go_wp2
    go_ret
    exact⟨hbad.out hno.out,hbox.trans ⟨rfl,rfl,rfl,nR _,fun _ _=>rfl⟩⟩
   ·have d1:decide (x < 0)=false:=decide_eq_false (by omega)
    have d2:decide (65535 < x)=false:=decide_eq_false (by omega)
    have d3:decide (wt < 1)=true:=decide_eq_true (by omega)
    clear q1 q2 q3
    go_quiet (fail)
    go_wp2
    go_ret
    exact⟨hbad.out hno.out,hbox.trans ⟨rfl,rfl,rfl,nR _,fun _ _=>rfl⟩⟩
   ·have d1:decide (x < 0)=false:=decide_eq_false (by omega)
    have d2:decide (65535 < x)=false:=decide_eq_false (by omega)
    have d3:decide (wt < 1)=false:=decide_eq_false (by omega)
    have d4:decide (10 < wt)=true:=decide_eq_true (by omega)
    clear q1 q2 q3 q4
    go_quiet (fail)
    go_wp2
    go_ret
    exact⟨hbad.out hno.out,hbox.trans ⟨rfl,rfl,rfl,nR _,fun _ _=>rfl⟩⟩
   ·have d1:decide (x < 0)=false:=decide_eq_false (by omega)
    have d2:decide (65535 < x)=false:=decide_eq_false (by omega)
    have d3:decide (wt < 1)=false:=decide_eq_false (by omega)
    have d4:decide (10 < wt)=false:=decide_eq_false (by omega)
    have d5:decide (x≤y)=true:=decide_eq_true (by omega)
    have d6:decide (0 < (k:Int))=true:=decide_eq_true (by omega)
    have hcy:=HY.out hk0
    obtain⟨j,hj,hjk⟩:∃j:Nat,k - 1=j∧j < n:=⟨k - 1,rfl,by omega⟩
    have e1:IntKind.i64.wrap ((k:Int) - 1)=(j:Int):=by rw[IntWalk.i64_in _ (by omega)];omega
    rw[hj] at hcy
    clear hj
    clear q1 q2 q3 q4 q5
    go_quiet (fail)
    go_wp2
    go_ret
    exact⟨hbad.out hno.out,hbox.trans ⟨rfl,rfl,rfl,nR _,fun _ _=>rfl⟩⟩
   ·have d1:decide (x < 0)=false:=decide_eq_false (by omega)
    have d2:decide (65535 < x)=false:=decide_eq_false (by omega)
    have d3:decide (wt < 1)=false:=decide_eq_false (by omega)
    have d4:decide (10 < wt)=false:=decide_eq_false (by omega)
    have d5:decide (x≤y)=false:=decide_eq_false (by omega)
    have d6:decide (0 < (k:Int))=true:=decide_eq_true (by omega)
    have hcy:=HY.out hk0
    obtain⟨j,hj,hjk⟩:∃j:Nat,k - 1=j∧j < n:=⟨k - 1,rfl,by omega⟩
    have e1:IntKind.i64.wrap ((k:Int) - 1)=(j:Int):=by rw[IntWalk.i64_in _ (by omega)];omega
    rw[hj] at hcy
    clear hj
    clear q1 q2 q3 q4 q5
    go_quiet (fail)
    go_wp2
    go_roundw
    case rel=>exact⟨k + 1,by omega,by go_num,hgood.out hyes.out,hbox.trans ⟨rfl,rfl,rfl,nR _,fun _ _=>rfl⟩⟩
    case measure=>simp[intOf];omega
   ·have d1:decide (x < 0)=false:=decide_eq_false (by omega)
    have d2:decide (65535 < x)=false:=decide_eq_false (by omega)
    have d3:decide (wt < 1)=false:=decide_eq_false (by omega)
    have d4:decide (10 < wt)=false:=decide_eq_false (by omega)
    clear q1 q2 q3 q4
    go_quiet (fail)
    go_wp2
    go_roundw
    case rel=>exact⟨1,by omega,by go_num,hgood.out hyes.out,hbox.trans ⟨rfl,rfl,rfl,nR _,fun _ _=>rfl⟩⟩
    case measure=>simp[intOf];omega
  ·have hfin:Hid (kS n l (rT (bL true))):=zz ⟨by omega,by omega,fun j hj=>hall.out j (by omega)⟩
   go_wp2
   go_ret
   exact⟨hfin.out,hbr⟩
end
section
open Go.ChangeShapes Go.WideShapes Go.ChangeAt Go.RowKit Go.Deep
theorem yI {H:Type}{enc:TypeId×Value→H}{P:Program}{w:World}{aa:Nat}{spare:Nat→Bool}{held:Bool}{t e:TypeId}{fs:Array Field}{fuel:Nat}{cs:List Value}{x:DataW H×List MemPlace}(ht:P.underlying t=some (.slice e))(he:P.underlying e=some (.struct fs))
  (hone:oneCellFields P fs=true)(hC:P.cellsOf e=fs.size)(h:DataW.trod enc P w aa spare held fuel t cs=some x):
  (cs=[G none 0 0]∧x=(.nil,[]))∨
  ∃(a:Addr) (len cap m:Nat) (D:Nat→DataW H) (Pl:Nat→List MemPlace),cs=[G (some a) len cap]∧aa≤a.block∧len≤cap∧cap≤maxLen∧m=(if spare a.block then cap else len)∧
   x=(DataW.slice ((List.range len).map D) ((List.range (m - len)).map fun j=>D (len + j)),MemPlace.row a (m * fs.size)++(List.range m).flatMap Pl)∧
   ∀i,i < m→∃(ys:List (DataW H×List MemPlace)) (n:Nat),D i=.agg (ys.map (·.1))∧Pl i=ys.flatMap (·.2)∧ys.length=fs.size∧
    ∀(j:Nat) (f:Field),fs[j]? =some f→∃(v:Value) (y:DataW H×List MemPlace),w.cell? (a.add (i * fs.size + j))=some v∧ys[j]? =some y∧DataW.trod enc P w aa spare held n f.type [v]=some y:=by
 rcases open_slice ht h with h0|⟨a,len,cap,m,n,D,Pl,hcs,hb,hl,hm,hmm,hx,hi⟩
 ·exact .inl h0
 ·refine .inr ⟨a,len,cap,m,D,Pl,hcs,hb,hl,hm,hmm,by rw[hC] at hx;exact hx,fun i him=>?_⟩
  obtain⟨cs',hc,ht'⟩:=hi i him
  rw[hC] at hc
  obtain⟨ys,n',hn',hy,ax,hyl,hf⟩:=DataW.trod_struct he ht'
  obtain⟨_,hcl,hat⟩:=World.cells?_some hc
  simp only[Prod.mk.injEq] at hy
  refine⟨ys,n',hy.1,hy.2,hyl,fun j f hj=>?_⟩
  obtain⟨ho,hk⟩:=hone_of hone j f hj
  have hjl:j < fs.size:=(Array.getElem?_eq_some_iff.1 hj).1
  have hcell:=hat j hjl
  have hv:cs'[j]? =some (cs'[j]'(by omega)):=List.getElem?_eq_getElem (by omega)
  have h1:=hf j f hj
  rw[ho,hk] at h1
  have hone':(cs'.drop j).take 1=[cs'[j]'(by omega)]:=by
   rw[List.drop_eq_getElem_cons (by omega)]
   rfl
  rw[hone'] at h1
  have hys:ys[j]? =some (ys[j]'(by omega)):=List.getElem?_eq_getElem (by omega)
  refine⟨_,_,?_,hys,h1.trans hys⟩
  rw[←Go.Deep.add_add,hcell,hv]
end
section
open Go.RowKit
def dT (l:List Be)(id:Int):Be×Bool:=
 match l.find? (fun b=>b.id==id) with
 |some b=>(b,true)
 |none=>(⟨0,0,0⟩,false)
theorem tf {l:List Be}{id:Int}{k:Nat}(hk:k < l.length)(h:l[k].id=id)(hall:∀j (hj:j < l.length),j < k→l[j].id≠id):dT l id=(l[k],true):=by
 have:l.find? (fun b=>b.id==id)=some l[k]:=by
  rw[List.find?_eq_some_iff_getElem]
  refine⟨by simp[h],k,hk,rfl,fun j hj=>?_⟩
  simp[hall j (by omega) hj]
 unfold dT
 rw[this]
theorem Ck {l:List Be}{id:Int}(hall:∀j (hj:j < l.length),l[j].id≠id):dT l id=(⟨0,0,0⟩,false):=by
 have:l.find? (fun b=>b.id==id)=none:=by
  rw[List.find?_eq_none]
  intro b hb
  obtain⟨j,hj,rfl⟩:=List.getElem_of_mem hb
  simp[hall j hj]
 unfold dT
 rw[this]
end
section
open Go.RowKit Go.Shelf Go.Lib
def eU (p:Be→Bool)(l:List Be):Int:=
 match l.findIdx? p with
 |some i=>(i:Int)
 |none=>-1
theorem sw {p:Be→Bool}{l:List Be}{k:Nat}(hk:k < l.length)(h:p l[k]=true)(hall:∀j (hj:j < l.length),j < k→p l[j]=false):eU p l=(k:Int):=by
 have:l.findIdx? p=some k:=by
  rw[List.findIdx?_eq_some_iff_getElem]
  exact⟨hk,h,fun j hj=>by simp[hall j (by omega) hj]⟩
 unfold eU
 rw[this]
theorem oy {p:Be→Bool}{l:List Be}(hall:∀j (hj:j < l.length),p l[j]=false):eU p l=-1:=by
 have:l.findIdx? p=none:=by
  rw[List.findIdx?_eq_none_iff]
  intro b hb
  obtain⟨j,hj,rfl⟩:=List.getElem_of_mem hb
  exact hall j hj
 unfold eU
 rw[this]
theorem ox (g:Nat)(lb:Array Value)(p:Be→Bool)(eg:∀args w,(callFunc g args).run Pg w=.ok (.enter g args) w)(A:Option Addr)(n c B:Nat)(l:List Be)(w:World)(hr:Reads w B 3 A n (aC l))(hB:B≤w.heap.size)(hn:n≤46912496118442)
  (hp:∀(W:World) (x:Be),Below w.heap.size w W→Calls Pg g (#[aG #[X Y x.id,X Z x.addr,X Y x.weight]]++lb) W fun e w'=>e=rT (bL (p x))∧Below w.heap.size w w'):
  Calls Pg 217 #[G A n c,.func (.func g) #[] lb] w fun e w'=>e=rT (X Y (eU p l))∧Below w.heap.size w w':=by
 have ax:=hr.be_length
 go_enter func217,ntmps217
 go_wp2_with fail
 go_loopw [8] (fun i wr=>∃k:Nat,k≤n∧i=X Y k∧Hid (∀j (hj:j < l.length),j < k→p l[j]=false)∧Below w.heap.size w wr) (fun i _=>n - (intOf i).toNat)
 case atStart=>exact⟨0,by omega,rfl,(fun j _ h=>by omega),bR _ _⟩
 case round=>
  obtain⟨k,hk,rfl,hall,hbr⟩:=hrel
  by_cases hkn:k < n
  ·obtain⟨b,off,hl,rfl,hc0,hc1,hc2⟩:=(hr.below (hbr.mono hB)).be hkn
   have HYES:Hid (p l[k]=true→eU p l=(k:Int)):=fun h=>sw hl h hall.out
   have HNO:Hid (p l[k]=false→∀j (hj:j < l.length),j < k + 1→p l[j]=false):=by
    intro h j hj hjk
    by_cases e:j=k
    ·subst e;exact h
    ·exact hall.out j hj (by omega)
   have hcall:=hp wr l[k] hbr
   obtain⟨v,hv⟩:∃v,v=p l[k]:=⟨_,rfl⟩
   rw[←hv] at HYES HNO hcall
   clear hv hp
   generalize l[k].id=x at *
   generalize l[k].weight=wt at *
   generalize l[k].addr=ad at *
   cases v with
   |true=>
    have HR:=jH (HYES.out rfl)
    clear HYES HNO hall
    go_wp2_with (go_at_fn g;refine hcall.mono ?_;rintro e w' ⟨rfl,hb'⟩)
    go_ret
    exact⟨by rw[HR.out];rfl,hb'⟩
   |false=>
    have HN:=jH (HNO.out rfl)
    clear HYES HNO hall
    go_wp2_with (go_at_fn g;refine hcall.mono ?_;rintro e w' ⟨rfl,hb'⟩)
    go_roundw
    case rel=>exact⟨k + 1,by omega,by go_num,HN,hb'⟩
    case measure=>simp[intOf];omega
  ·have hkk:k=n:=by omega
   have HR:Hid (eU p l=-1):=oy (fun j hj=>hall.out j hj (by omega))
   subst hkk
   clear hall hkn hk
   go_wp2_with fail
   go_ret
   exact⟨by rw[HR.out];rfl,hbr⟩
end
section
open Go.RowKit Go.Shelf
theorem AV (l:List Be)(id:Int):(eU (fun b=>b.id==id) l=-1∧dT l id=(⟨0,0,0⟩,false))∨∃k,∃h:k < l.length,eU (fun b=>b.id==id) l=(k:Int)∧dT l id=(l[k],true):=by
 by_cases h:∃k,∃hk:k < l.length,l[k].id=id∧∀j (hj:j < l.length),j < k→l[j].id≠id
 ·obtain⟨k,hk,h1,h2⟩:=h
  exact Or.inr ⟨k,hk,sw hk (by simp[h1]) (fun j hj hjk=>by simp[h2 j hj hjk]),tf hk h1 h2⟩
 ·have hall:∀k (hk:k < l.length),l[k].id≠id:=by
   intro k
   induction k using Nat.strongRecOn with
   |_ k ih=>
    intro hk e
    exact h ⟨k,hk,e,fun j hj hjk=>ih j hjk hj⟩
  exact Or.inl ⟨oy (fun j hj=>by simp[hall j hj]),Ck hall⟩
theorem Cl (q:Nat)(id:Int)(x:Be)(w:World)(hq:w.cell? ⟨q,0,none⟩=some (X Y id)):
  Calls Pg 218 #[aG #[X Y x.id,X Z x.addr,X Y x.weight],PT (some ⟨q,0,none⟩)] w fun e w'=>e=rT (bL (x.id==id))∧Below w.heap.size w w':=by
 have au:=World.block_lt_of_cell? w _ hq
 have hq2:(w.alloc (cL #[X Y x.id,X Z x.addr,X Y x.weight] 34)).cell? ⟨q,0,none⟩=some (X Y id):=by
  rw[World.cell?_alloc_lt _ _ _ au];exact hq
 obtain⟨xi,xa,xw⟩:=x
 dsimp only at hq2⊢
 go_enter func218,ntmps218
 go_wp2_with fail
 go_ret
 exact⟨rfl,(bR _ _).alloc (nR _) _⟩
theorem Bz (A:Option Addr)(n c B:Nat)(l:List Be)(id:Int)(w:World)(hr:Reads w B 3 A n (aC l))(hB:B≤w.heap.size)(hn:n≤46912496118442):
  Calls Pg 114 #[G A n c,X Y id] w fun e w'=>e=rT (tU #[.agg (dT l id).1.cells.toArray,bL (dT l id).2])∧Below w.heap.size w w':=by
 have ax:=hr.be_length
 have eg:∀args w,(callFunc 218 args).run Pg w=.ok (.enter 218 args) w:=enters_of func218 (by kernel_rfl) rfl
 have hk0:=(ab.new w 3 #[X Y id]).alloc (cL #[X Y 0,X Z 0,X Y 0] 34)
 have hq0:ab ((w.alloc (cL #[X Y id] 3)).alloc (cL #[X Y 0,X Z 0,X Y 0] 34)) (w.heap.size + 1) 34 #[X Y 0,X Z 0,X Y 0]:=ab.new_ (by simp)
 have hB0:=((bR w.heap.size w).alloc (nR _) (cL #[X Y id] 3)).alloc (by simp) (cL #[X Y 0,X Z 0,X Y 0] 34)
 have CI:=jH (ox 218 #[PT (some ⟨w.heap.size,0,none⟩)] (fun b=>b.id==id) eg A n c B l _ (hr.below (hB0.mono hB)) (nT hB hB0.size) hn
  (fun W x hb=>(Cl w.heap.size id x W (by
   have h1:=(hk0.below hb hk0.lt).cell 0
   simpa using h1)).mono fun e w' ⟨he,hw⟩=>⟨he,hb.trans (hw.mono hb.size)⟩))
 clear eg
 go_enter func114,ntmps114
 go_wp2_with fail
 refine CI.out.mono ?_
 rintro e w1 ⟨rfl,ae⟩
 have hB1:=hB0.trans (ae.mono hB0.size)
 have hq1:=hq0.below ae hq0.lt
 obtain⟨q,hqe⟩:∃q,q=w.heap.size:=⟨_,rfl⟩
 rw[←hqe] at hq1⊢
 have HQ:=jH hqe
 have HB1:=jH hB1
 have HQ1:=jH hq1
 obtain⟨f0,f1,f2⟩:=hq1.f3
 obtain⟨d0,d1,d2⟩:=hq1.c3
 rcases AV l id with⟨h1,h2⟩|⟨k,hk,h1,h2⟩
 ·rw[h1]
  have HR:=jH h2
  clear h1 h2 hqe hq1 hB1 ae hq0 hB0 hk0 CI
  go_wp2_with fail
  obtain⟨w9,hw9⟩:∃w9,w9=((w1.setCell ⟨q + 1,0,none⟩ (X Y 0)).setCell ⟨q + 1,1,none⟩ (X Z 0)).setCell ⟨q + 1,2,none⟩ (X Y 0):=⟨_,rfl⟩
  have hz:ab w9 (q + 1) 34 #[X Y 0,X Z 0,X Y 0]:=by
   rw[hw9]
   exact((HQ1.out.set_ 0 (X Y 0)).set_ 1 (X Z 0)).set_ 2 (X Y 0)
  have hB9:Below w.heap.size w w9:=by
   rw[hw9]
   have hle:w.heap.size≤q + 1:=by rw[HQ.out];exact nS _
   exact((HB1.out.setCell (p:=⟨q + 1,0,none⟩) hle _).setCell (p:=⟨q + 1,1,none⟩) hle _).setCell (p:=⟨q + 1,2,none⟩) hle _
  rw[←hw9]
  clear hw9 d0 d1 d2 f0 f1 f2
  obtain⟨r0,r1,r2⟩:=hz.c3
  exact bodyPost_ret (v:=tU #[aG #[X Y 0,X Z 0,X Y 0],bL false]) (by simp[results,results114,go_sem,r0,r1,r2]) rfl ⟨by rw[HR.out];rfl,hB9⟩
 ·obtain⟨b,off,hl,rfl,hc0,hc1,hc2⟩:=(hr.below (hB1.mono hB)).be (j:=k) (by omega)
  rw[h1]
  have hkn:(k:Int) < (n:Int):=by omega
  have HR:Hid (dT l id=(⟨l[k].id,l[k].addr,l[k].weight⟩,true)):=h2
  clear h2
  generalize l[k].id=x at *
  generalize l[k].weight=wt at *
  generalize l[k].addr=ad at *
  clear h1 hqe hq1 hB1 ae hq0 hB0 hk0 CI
  go_wp2_with fail
  obtain⟨w9,hw9⟩:∃w9,w9=((w1.setCell ⟨q + 1,0,none⟩ (X Y x)).setCell ⟨q + 1,1,none⟩ (X Z ad)).setCell ⟨q + 1,2,none⟩ (X Y wt):=⟨_,rfl⟩
  have hz:ab w9 (q + 1) 34 #[X Y x,X Z ad,X Y wt]:=by
   rw[hw9]
   exact((HQ1.out.set_ 0 (X Y x)).set_ 1 (X Z ad)).set_ 2 (X Y wt)
  have hB9:Below w.heap.size w w9:=by
   rw[hw9]
   have hle:w.heap.size≤q + 1:=by rw[HQ.out];exact nS _
   exact((HB1.out.setCell (p:=⟨q + 1,0,none⟩) hle _).setCell (p:=⟨q + 1,1,none⟩) hle _).setCell (p:=⟨q + 1,2,none⟩) hle _
  rw[←hw9]
  clear hw9 d0 d1 d2 f0 f1 f2
  obtain⟨r0,r1,r2⟩:=hz.c3
  exact bodyPost_ret (v:=tU #[aG #[X Y x,X Z ad,X Y wt],bL true]) (by simp[results,results114,go_sem,r0,r1,r2]) rfl ⟨by rw[HR.out];rfl,hB9⟩
end
section
open Go.RowKit
theorem ou:(Pg.info? 34).map (fun i=>(i.zero,i.size,i.bytes))=some (some (aG #[X Y 0,X Z 0,X Y 0]),3,24):=by kernel_rfl
theorem Ep (l:List Be):∀u∈aC l,u.oneCell'=true:=by
 intro u hu
 unfold aC at hu
 rw[List.mem_flatMap] at hu
 obtain⟨b,_,hb⟩:=hu
 simp[Be.cells] at hb
 rcases hb with rfl|rfl|rfl<;>rfl
theorem gH (A:Option Addr)(n c B:Nat)(l:List Be)(w:World)(hr:Reads w B 3 A n (aC l))(hB:B≤w.heap.size)(hn:n * 24≤140737488355328)(bI:A=none→c=0):
  Calls Pg 21 #[G A n c] w fun e w'=>∃A' c',e=rT (G A' n c')∧w'.ownsRow w.heap.size 34 3 (G A' n c') n (aC l)∧Below w.heap.size w w':=by
 rcases A with _|ad
 ·obtain rfl:=bI rfl
  have h0:n=0:=by
   rcases Nat.eq_zero_or_pos n with h|h
   ·exact h
   ·obtain⟨_,h',_⟩:=hr.2 h
    cases h'
  subst h0
  have hl:l=[]:=List.eq_nil_of_length_eq_zero hr.be_length
  subst hl
  go_enter func21,ntmps21
  have heq:=fun w:World=>Lib.run_eql_slice_nil (P:=Pg) w 35 34 none 0 0 0 0 underlying35
  go_wp2_with fail
  go_ret
  exact⟨none,0,rfl,World.ownsRow_nil _ _ _ _,bR _ _⟩
 ·obtain⟨i0,hi0,hz0,hz1,hz2⟩:=info_parts ou
  go_enter func21,ntmps21
  have heq:=fun w:World=>Lib.run_eql_slice_nil (P:=Pg) w 35 34 (some ad) n c 0 0 underlying35
  go_wp2_with (at_builtin;refine cu ?_)
  refine cw ?_
  refine jR _ rfl (.tmp 5) (.tmp 6) _ rfl w.heap.size 34 i0 _ 3 24 underlying35 hi0 hz0 hz1 hz2 rfl (by omega) (G (some ⟨w.heap.size,0,none⟩) 0 0) 0 [] rfl
   ?hown B (some ad) n c (aC l) rfl (hr.alloc hB _) (Ep l) (by unfold maxLen;omega) (by omega) (by simp) ?_
  case hown=>exact⟨by simp,.inr ⟨w.heap.size,_,#[],rfl,nR _,ab.new_ rfl,nR _,by decide,by simp,by simp⟩⟩
  intro v' w1 aQ hgr _
  obtain⟨A1,c1,rfl⟩:=cV aQ
  rw[List.nil_append,Nat.zero_add] at aQ
  have ao:=(bR w.heap.size w).alloc (nR _) (cL #[] 34)
  have hbw1:=ao.grown hgr (by simp) (fun k hk=>by cases hk;exact nR _)
  rw[Nat.zero_add]
  go_wp2_with fail
  go_ret
  exact⟨A1,c1,rfl,aQ,hbw1⟩
theorem tQ (b:Be):aC [b]=[X Y b.id,X Z b.addr,X Y b.weight]:=by unfold aC Be.cells;simp
def de (p:Be→Bool)(l:List Be):List Be:=l.filter (fun b=>!p b)
theorem om {p:Be→Bool}{l:List Be}{k:Nat}(hk:k < l.length):de p (l.take (k + 1))=if p l[k]=true then de p (l.take k) else de p (l.take k)++[l[k]]:=by
 unfold de
 rw[List.take_succ_eq_append_getElem hk,List.filter_append]
 by_cases h:p l[k]=true
 ·rw[if_pos h];simp[h]
 ·rw[if_neg h];simp[h]
theorem Av {p:Be→Bool}{l:List Be}(h:eU p l=-1):de p l=l:=by
 unfold de
 rw[List.filter_eq_self]
 intro b hb
 cases hp:p b with
 |false=>rfl
 |true=>
  exfalso
  unfold eU at h
  cases hf:l.findIdx? p with
  |some i=>rw[hf] at h;simp at h
  |none=>
   rw[List.findIdx?_eq_none_iff] at hf
   rw[hf b hb] at hp
   cases hp
theorem Ay {p:Be→Bool}{l:List Be}{k:Nat}(h:eU p l=(k:Int)):∃hk:k < l.length,p l[k]=true∧de p (l.take k)=l.take k:=by
 unfold eU at h
 cases hf:l.findIdx? p with
 |none=>rw[hf] at h;simp at h
 |some i=>
  rw[hf] at h
  have:i=k:=by simp at h;omega
  subst this
  rw[List.findIdx?_eq_some_iff_getElem] at hf
  obtain⟨hi,hp,hall⟩:=hf
  refine⟨hi,hp,?_⟩
  unfold de
  rw[List.filter_eq_self]
  intro b hb
  obtain⟨j,hj,rfl⟩:=List.getElem_of_mem hb
  rw[List.length_take] at hj
  have:=hall j (by omega)
  rw[List.getElem_take]
  simpa using this
def ig:Value:=aG #[X Y 0,X Z 0,X Y 0]
theorem pE (n:Nat):(Builtin.zeroCells ig.cells n).toList.length=n * 3:=by
 simp[Builtin.zeroCells,ig,Value.cells]
theorem uq (n:Nat):∀v∈(Builtin.zeroCells ig.cells n).toList,v.oneCell'=true:=by
 intro v hv
 simp[Builtin.zeroCells,ig,Value.cells] at hv
 obtain⟨i,hi,rfl⟩:=hv
 have h3:i % 3=0∨i % 3=1∨i % 3=2:=by omega
 rcases h3 with h|h|h<;>rw[h]<;>rfl
theorem xr {P:Program}(w:World)(t e ty:TypeId)(ht:P.underlying t=some (.slice e))(hv:∀w,(zeroValue e).run P w=.ok ig w)(b o n c:Nat)(hn:0 < n)
  (hc:∀j,j < n * 3→(w.cell? ⟨b,o + j,none⟩).isSome=true)(hf:∀j,j < n * 3→w.frozen? ⟨b,o + j,none⟩=false):
  (Builtin.clear_ #[t] ty #[G (some ⟨b,o,none⟩) n c]).run P w=.ok (tU #[]) (w.setCells b o (Builtin.zeroCells ig.cells n).toList):=by
 have hst:=run_storeCells_cells (P:=P) b o (Builtin.zeroCells ig.cells n).toList 0 w (by rw[pE];simpa using hc) (by rw[pE];simpa using hf) (uq n)
 simp only[Nat.add_zero] at hst
 obtain⟨m,rfl⟩:∃m,n=m + 1:=⟨n - 1,by omega⟩
 simp[Builtin.clear_,run_underlying ht,hv,hst]
end
section
open Go.RowKit Go.Shelf Go.Lib
structure gr (p:Be→Bool)(l l':List Be)(k m:Nat):Prop where
 lt:m < k
 len:m=(de p (l.take k)).length
 all:l'.length=l.length
 head:l'.take m=de p (l.take k)
 tail:l'.drop k=l.drop k
theorem gr.start {p:Be→Bool}{l:List Be}{k:Nat}(h:eU p l=(k:Int)):k < l.length∧gr p l l (k + 1) k:=by
 obtain⟨hk,hp,ht⟩:=Ay h
 have e:de p (l.take (k + 1))=l.take k:=by rw[om hk,if_pos hp,ht]
 exact⟨hk,by omega,by rw[e,List.length_take];omega,rfl,e.symm,rfl⟩
theorem gr.at_ {p:Be→Bool}{l l':List Be}{k m:Nat}(h:gr p l l' k m)(hk:k < l.length)(hk':k < l'.length):l'[k]=l[k]:=by
 have h1:(l'.drop k)[0]? =(l.drop k)[0]?:=by rw[h.tail]
 rw[List.getElem?_drop,List.getElem?_drop,Nat.add_zero,List.getElem?_eq_getElem hk',List.getElem?_eq_getElem hk] at h1
 injection h1
theorem tq {l l':List Be}{k:Nat}(h:l'.drop k=l.drop k):l'.drop (k + 1)=l.drop (k + 1):=by
 rw[←List.drop_drop,←List.drop_drop,h]
theorem gr.out {p:Be→Bool}{l l':List Be}{k m:Nat}(h:gr p l l' k m)(hk:k < l.length)(hp:p l[k]=true):gr p l l' (k + 1) m:=by
 have e:de p (l.take (k + 1))=de p (l.take k):=by rw[om hk,if_pos hp]
 exact⟨by have:=h.lt;omega,by rw[e];exact h.len,h.all,by rw[e];exact h.head,tq h.tail⟩
theorem gr.keep {p:Be→Bool}{l l':List Be}{k m:Nat}(h:gr p l l' k m)(hk:k < l.length)(hp:p l[k]=false):gr p l (l'.set m l[k]) (k + 1) (m + 1):=by
 have e:de p (l.take (k + 1))=de p (l.take k)++[l[k]]:=by rw[om hk,if_neg (by simp[hp])]
 have hm:m < l'.length:=by have:=h.lt;have:=h.all;omega
 refine⟨by have:=h.lt;omega,by rw[e,List.length_append,←h.len];rfl,by rw[List.length_set];exact h.all,?_,?_⟩
 ·rw[e,←h.head,List.take_succ_eq_append_getElem (by rw[List.length_set];exact hm),List.getElem_set_self,List.take_set_of_le (nR _)]
 ·rw[List.drop_set_of_lt (by have:=h.lt;omega)]
  exact tq h.tail
theorem pe (a:Be)(r:List Be):aC (a::r)=X Y a.id::X Z a.addr::X Y a.weight::aC r:=rfl
theorem tR:∀(l:List Be) (m:Nat) (b:Be),(((aC l).set (m * 3) (X Y b.id)).set (m * 3 + 1) (X Z b.addr)).set (m * 3 + 2) (X Y b.weight)=aC (l.set m b)
 |[],m,b=>by simp[aC]
 |a::r,0,b=>rfl
 |a::r,m + 1,b=>by
  have ih:=tR r m b
  rw[show (m + 1) * 3=m * 3 + 1 + 1 + 1 from by omega]
  simp only[pe,List.set_cons_succ]
  rw[←ih]
theorem Em (l:List Be)(m:Nat):(aC l).take (m * 3)=aC (l.take m):=by
 induction l generalizing m with
 |nil=>simp[aC]
 |cons a r ih=>
  cases m with
  |zero=>simp[aC]
  |succ m=>
   rw[show (m + 1) * 3=m * 3 + 1 + 1 + 1 from by omega]
   simp only[pe,List.take_succ_cons]
   rw[ih m]
theorem rD {w:World}{aa n c g:Nat}{e:TypeId}{l:List Be}(h:w.ownsRow aa e 3 (G (some ⟨g,0,none⟩) n c) n (aC l)){j:Nat}(hj:j < n):
  ∃b:Be,(w.cell? ⟨g,j * 3,none⟩=some (X Y b.id)∧w.cell? ⟨g,j * 3 + 1,none⟩=some (X Z b.addr)∧w.cell? ⟨g,j * 3 + 2,none⟩=some (X Y b.weight))∧
   w.frozen? ⟨g,j * 3,none⟩=false∧w.frozen? ⟨g,j * 3 + 1,none⟩=false∧w.frozen? ⟨g,j * 3 + 2,none⟩=false:=by
 obtain⟨b0,off0,hl2,he0,hc0,hc1,hc2⟩:=(Reads.of_own h).be hj
 cases he0
 simp only[Nat.zero_add] at hc0 hc1 hc2
 exact⟨l[j],⟨hc0,hc1,hc2⟩,h.frozenAt _,h.frozenAt _,h.frozenAt _⟩
theorem ki {w:World}{aa n c g:Nat}{e:TypeId}{l:List Be}(h:w.ownsRow aa e 3 (G (some ⟨g,0,none⟩) n c) n (aC l))(j:Nat)(b:Be):
  (((w.setCell ⟨g,j * 3,none⟩ (X Y b.id)).setCell ⟨g,j * 3 + 1,none⟩ (X Z b.addr)).setCell ⟨g,j * 3 + 2,none⟩ (X Y b.weight)).ownsRow aa e 3 (G (some ⟨g,0,none⟩) n c) n (aC (l.set j b)):=by
 have h3:=((((h.stored (j * 3) (X Y b.id)).1).stored (j * 3 + 1) (X Z b.addr)).1.stored (j * 3 + 2) (X Y b.weight)).1
 rwa [tR] at h3
theorem dN {w:World}{aa size n c:Nat}{A:Option Addr}{e:TypeId}{xs:List Value}(h:w.ownsRow aa e size (G A n c) n xs):n≤c∧c≤maxLen:=by
 rcases h.2 with⟨h',_⟩|⟨g',cap',cur,h',hb,hg,hnc,hcm,hcs,htake⟩
 ·injection h' with h1 h2 h3
  subst h2 h3
  exact⟨nR _,by decide⟩
 ·injection h' with h1 h2 h3
  subst h3
  exact⟨hnc,hcm⟩
theorem pg {B:Nat}{a:World}(b:Nat)(hb:B≤b):∀(vs:List Value) (o:Nat) {w:World},Below B a w→Below B a (w.setCells b o vs)
 |[],_,_,h=>h
 |v::r,o,_,h=>pg b hb r (o + 1) (h.setCell (p:=⟨b,o,none⟩) hb v)
theorem D6 {w:World}{aa n c g:Nat}{e:TypeId}{l:List Be}(h:w.ownsRow aa e 3 (G (some ⟨g,0,none⟩) n c) n (aC l)){j:Nat}(hj:j < n * 3):(w.cell? ⟨g,j,none⟩).isSome=true:=by
 rw[h.cellAt j hj,List.getElem?_eq_getElem (by rw[h.1];exact hj)]
 rfl
theorem Dg {w:World}{aa n c g m:Nat}{e:TypeId}{l:List Be}(zs:List Value)(h:w.ownsRow aa e 3 (G (some ⟨g,0,none⟩) n c) n (aC l))(hm:m≤n):
  Reads (w.setCells g (m * 3) zs) w.heap.size 3 (some ⟨g,0,none⟩) m (aC (l.take m)):=by
 have hl:l.length=n:=(Reads.of_own h).be_length
 refine⟨by rw[l7,List.length_take];omega,fun h0=>⟨_,rfl,(h.lt g rfl).2,fun j u hu=>?_⟩⟩
 have hj:j < m * 3:=by
  have:=(List.getElem?_eq_some_iff.1 hu).1
  rw[l7,List.length_take] at this
  omega
 have e0:(⟨g,0,none⟩:Addr).add j=⟨g,j,none⟩:=by
  unfold Addr.add
  split
  ·subst_vars;rfl
  ·simp
 rw[e0,World.cell?_setCells_out g zs (m * 3) w ⟨g,j,none⟩ (fun _ _=>.inl hj),h.cellAt j (by omega),←hu,←Em,List.getElem?_take,if_pos hj]
theorem Dd (g:Nat)(lb:Array Value)(p:Be→Bool)(eg:∀args w,(callFunc g args).run Pg w=.ok (.enter g args) w)(A:Option Addr)(n c aa:Nat)(l:List Be)(w:World)
  (hown:w.ownsRow aa 34 3 (G A n c) n (aC l))(an:aa≤w.heap.size)(hn:n≤1000000)
  (hp:∀(W:World) (x:Be),Below aa w W→Calls Pg g (#[aG #[X Y x.id,X Z x.addr,X Y x.weight]]++lb) W fun e w'=>e=rT (bL (p x))∧Below W.heap.size W w'):
  Calls Pg 219 #[G A n c,.func (.func g) #[] lb] w fun e w'=>∃A' m c',e=rT (G A' m c')∧m=(de p l).length∧m≤c'∧Reads w' w'.heap.size 3 A' m (aC (de p l))∧Below aa w w':=by
 have hr:=Reads.of_own hown
 have ax:=hr.be_length
 have CI:=jH (ox g lb p eg A n c _ l w hr (nR _) (by omega) (fun W x hb=>(hp W x (hb.mono an)).mono fun e w' ⟨h1,h2⟩=>⟨h1,hb.trans (h2.mono hb.size)⟩))
 obtain⟨v,hv⟩:∃v,v=eU p l:=⟨_,rfl⟩
 rw[←hv] at CI
 by_cases h1:v=-1
 ·subst h1
  have HK:=jH (Av hv.symm)
  have HO:=jH hr
  have HC:=jH (dN hown)
  clear hv hr hp hown
  go_enter func219,ntmps219
  go_wp2_with (refine CI.out.mono ?_;rintro e w' ⟨rfl,hb'⟩)
  go_ret
  exact⟨A,n,c,rfl,by rw[HK.out];exact ax.symm,HC.out.1,by rw[HK.out];exact(HO.out.below hb').more hb'.size,hb'.mono an⟩
 ·obtain⟨k0,hk0⟩:∃k:Nat,v=(k:Int):=by
   rw[hv] at h1⊢
   unfold eU at h1⊢
   cases hf:l.findIdx? p with
   |some i=>exact⟨i,rfl⟩
   |none=>rw[hf] at h1;exact absurd rfl h1
  subst hk0
  obtain⟨hkl,hstart⟩:=gr.start hv.symm
  obtain⟨gb,cap,he,hgb,hglt⟩:=hown.form (by omega)
  injection he with he1 he2 he3
  subst he1 he3
  have hd1:((k0:Int)==-1)=false:=by simp
  have HS:=jH hstart
  clear hv h1 hr hstart
  go_enter func219,ntmps219
  go_wp2_with (refine CI.out.mono ?_;rintro e w' ⟨rfl,hb'⟩)
  have aQ:=aJ hown hb'
  have hbb:=hb'.mono an
  clear hb' hown CI
  go_loopw [5,6] (fun d i wr=>∃(k m:Nat) (l':List Be),k≤n∧m < k∧d=X Y m∧i=X Y k∧Hid (gr p l l' k m)∧wr.ownsRow aa 34 3 (G (some ⟨gb,0,none⟩) n c) n (aC l')∧Below aa w wr) (fun _ i _=>n - (intOf i).toNat)
  case atStart=>exact⟨k0 + 1,k0,l,by omega,by omega,rfl,rfl,HS,aQ,hbb⟩
  case round=>
   obtain⟨k,m,l',hk,hmk,rfl,rfl,hinv,ho,hb⟩:=hrel
   clear aQ hbb HS hd1 hkl
   by_cases hkn:k < n
   ·have hl:k < l.length:=by omega
    have hl':k < l'.length:=by have:=hinv.out.all;omega
    obtain⟨b0,off0,hl2,he0,hc0,hc1,hc2⟩:=(Reads.of_own ho).be hkn
    cases he0
    rw[hinv.out.at_ hl hl'] at hc0 hc1 hc2
    simp only[Nat.zero_add] at hc0 hc1 hc2
    have HYES:=jH (hinv.out.out hl)
    have HNO:=jH (hinv.out.keep hl)
    have af:=hb.alloc (by have:=hb.size;omega) (cL #[X Y l[k].id,X Z (l[k].addr),X Y l[k].weight] 34)
    have hcall:=hp _ l[k] af
    have hx2:=ab.new wr 34 #[X Y l[k].id,X Z (l[k].addr),X Y l[k].weight]
    have ho2:=ho.alloc (cL #[X Y l[k].id,X Z (l[k].addr),X Y l[k].weight] 34)
    obtain⟨v,hv⟩:∃v,v=p l[k]:=⟨_,rfl⟩
    rw[←hv] at HYES HNO hcall
    clear hv
    obtain⟨⟨x,ad,wt⟩,hbe⟩:∃b:Be,b=l[k]:=⟨_,rfl⟩
    rw[←hbe] at HNO hc0 hc1 hc2 af hcall hx2 ho2
    dsimp only at HNO hc0 hc1 hc2 af hcall hx2 ho2
    clear hbe ho hp
    have HX:=jH (aI af (aI hx2 ho2))
    clear af hx2 ho2
    go_upto_region 8 with fail
    obtain⟨q,hq⟩:∃q,q=wr.heap.size:=⟨_,rfl⟩
    rw[←hq] at HX⊢
    clear hc0 hc1 hc2
    generalize wr.alloc (cL #[X Y x,X Z ad,X Y wt] 34)=w2 at *
    clear hq hb
    obtain⟨g0,g1,g2⟩:=HX.out.2.1.c3
    have hbase2:aa≤w2.heap.size:=nT an HX.out.1.size
    cases v with
    |true=>
     go_wp2_with (go_at_fn g;refine hcall.mono ?_;rintro e w3 ⟨rfl,al⟩)
     go_roundw
     case rel=>exact⟨k + 1,m,l',by omega,by omega,rfl,by go_num,HYES.out trivial,aJ HX.out.2.2 al,HX.out.1.trans (al.mono hbase2)⟩
     case measure=>simp[intOf];omega
    |false=>
     have hmn:m < n:=by omega
     go_wp2_with (go_at_fn g;refine hcall.mono ?_;rintro e w3 ⟨rfl,al⟩;have ho3:=aJ HX.out.2.2 al;have hx3:=HX.out.2.1.below al HX.out.2.1.lt;have d0:=hx3.cell 0;have d1:=hx3.cell 1;have d2:=hx3.cell 2;simp only[ga,gz,gN] at d0 d1 d2;obtain⟨⟨bi,ba,bw⟩,⟨s0,s1,s2⟩,f0,f1,f2⟩:=rD ho3 hmn;dsimp only at s0 s1 s2;have HO3:=jH ho3;clear g0 g1 g2 ho3 hx3)
     go_roundw
     case rel=>
      exact⟨k + 1,m + 1,l'.set m ⟨x,ad,wt⟩,by omega,by omega,by go_num,by go_num,HNO.out trivial,ki HO3.out m ⟨x,ad,wt⟩,
       (((HX.out.1.trans (al.mono hbase2)).setCell (p:=⟨gb,m * 3,none⟩) hgb _).setCell (p:=⟨gb,m * 3 + 1,none⟩) hgb _).setCell (p:=⟨gb,m * 3 + 2,none⟩) hgb _⟩
     case measure=>simp[intOf];omega
   ·have hkk:k=n:=by omega
    subst hkk
    clear hp
    have hmn:m < k:=hmk
    have hcap:=dN ho
    have hzv:∀w,(zeroValue 34).run Pg w=.ok ig w:=fun _=>by kernel_rfl
    have hclr:=xr wr 35 34 0 underlying35 hzv gb (m * 3) (k - m) (c - m) (by omega) (fun j hj=>D6 ho (by omega)) (fun j _=>ho.frozenAt _)
    obtain⟨zs,hzs⟩:∃zs,(Builtin.zeroCells ig.cells (k - m)).toList=zs:=⟨_,rfl⟩
    rw[hzs] at hclr
    clear hzs
    go_wp2_with fail
    go_ret
    have hsz:(wr.setCells gb (m * 3) zs).heap.size≥wr.heap.size:=(pg gb (Nat.zero_le _) zs (m * 3) (bR 0 wr)).size
    have hkeep:l'.take m=de p l:=by have:=hinv.out.head;rwa [List.take_of_length_le (l:=l) (by omega)] at this
    have hRd:=Dg (m:=m) zs ho (by omega)
    rw[hkeep] at hRd
    exact⟨_,m,c,rfl,by have:=hinv.out.len;rwa [List.take_of_length_le (l:=l) (by omega)] at this,by omega,hRd.more hsz,pg gb hgb zs _ hb⟩
end
section
open Go.RowKit
theorem cO {w:World}{aa base' n size:Nat}{e:TypeId}{v:Value}{xs:List Value}(h:w.ownsRow aa e size v n xs)(hb:base'≤aa):w.ownsRow base' e size v n xs:=by
 refine⟨h.1,?_⟩
 rcases h.2 with hn|⟨g,cap,cur,rfl,hg,rest⟩
 ·exact .inl hn
 ·exact .inr ⟨g,cap,cur,rfl,by omega,rest⟩
structure cr (p:Nat)(w w':World):Prop where
 os:w'.os=w.os
 tape:w'.tape=w.tape
 output:w'.output=w.output
 size:w.heap.size≤w'.heap.size
 block:∀k,k < w.heap.size→k≠p→w'.heap[k]? =w.heap[k]?
theorem cr.of_below {p:Nat}{w w':World}(h:Below w.heap.size w w'):cr p w w':=⟨h.os,h.tape,h.output,h.size,fun k hk _=>h.block k hk⟩
theorem cr.trans {p:Nat}{a b c:World}(h:cr p a b)(k:cr p b c):cr p a c:=
 ⟨k.os.trans h.os,k.tape.trans h.tape,k.output.trans h.output,nT h.size k.size,fun i h1 h2=>(k.block i (Nat.lt_of_lt_of_le h1 h.size) h2).trans (h.block i h1 h2)⟩
theorem cr.set_ {p:Nat}{a w:World}(h:cr p a w)(i:Nat)(u:Value):cr p a (w.setCell ⟨p,i,none⟩ u):=
 h.trans ⟨rfl,rfl,rfl,by simp[World.setCell],fun k _ hk=>Below.heap_setCell _ _ _ _ hk⟩
theorem cr.blk {p g:Nat}{w w':World}{t:TypeId}{cs:Array Value}(h:cr p w w')(hb:ab w g t cs)(az:g≠p):ab w' g t cs:=(h.block g hb.lt az).trans hb
theorem cr.below {p B:Nat}{w w':World}(h:cr p w w')(hp:B≤p)(hB:B≤w.heap.size):Below B w w':=⟨h.os,h.tape,h.output,h.size,fun k hk=>h.block k (by omega) (by omega)⟩
end
section
open Go.RowKit Go.Maps Go.MapKept
open Go.ChangeMaps (setBlock heap_setBlock_same heap_setBlock_other)
section plain
variable {κ ν:Type}[DecidableEq κ]
def av (m:List (κ×ν))(x:κ):Option ν:=(m.find? (fun p=>p.1=x)).map (·.2)
def aw (m:List (κ×ν))(x:κ)(v:ν):List (κ×ν):=if m.any (fun p=>p.1=x) then m.map (fun p=>if p.1=x then (x,v) else p) else m++[(x,v)]
def fM (m:List (κ×ν))(x:κ):List (κ×ν):=m.filter (fun p=>¬p.1=x)
def aU (m:List (κ×ν)):List κ:=m.map (·.1)
theorem lK {m:List (κ×ν)}{x:κ}(h:∀p∈m,p.1≠x):av m x=none:=by
 unfold av
 rw[List.find?_eq_none.2 (fun p hp=>by simpa using h p hp)]
 rfl
theorem rR {m:List (κ×ν)}(hd:(aU m).Nodup){j:Nat}{p:κ×ν}(hp:m[j]? =some p):av m p.1=some p.2:=by
 obtain⟨hj,rfl⟩:=List.getElem?_eq_some_iff.1 hp
 have:m.find? (fun q=>q.1=m[j].1)=some m[j]:=by
  rw[List.find?_eq_some_iff_getElem]
  refine⟨by simp,j,hj,rfl,fun i hi=>?_⟩
  have hd':=List.pairwise_iff_getElem.1 hd i j (by simpa [aU] using (by omega:i < m.length)) (by simpa [aU] using hj) hi
  simpa [aU] using hd'
 unfold av
 rw[this]
 rfl
theorem gW {m:List (κ×ν)}{x:κ}{v:ν}(h:av m x=some v):(x,v)∈m:=by
 unfold av at h
 rw[Option.map_eq_some_iff] at h
 obtain⟨p,hp,rfl⟩:=h
 have h1:=List.mem_of_find?_eq_some hp
 have h2:=List.find?_some hp
 simp at h2
 subst h2
 exact h1
theorem rQ {m:List (κ×ν)}(hd:(aU m).Nodup){x:κ}{v:ν}(h:(x,v)∈m):av m x=some v:=by
 obtain⟨j,hj⟩:=List.getElem?_of_mem h
 exact rR hd hj
theorem nX {m:List (κ×ν)}{x:κ}:av m x=none↔∀p∈m,p.1≠x:=by
 unfold av
 rw[Option.map_eq_none_iff,List.find?_eq_none]
 simp
end plain
structure iz (P:Program)(kt:TypeId){κ:Type}(ek:κ→Value)(ok:κ→Prop):Prop where
 keyed:Keyed P kt
 key:∀x,ok x→∃l,keyOf P kt (ek x)=some l
 inj:∀x y,ek x=ek y→x=y
def aL {κ ν:Type}(w:World)(ek:κ→Value)(ok:κ→Prop)(ev:ν→Value)(b:Nat)(m:List (κ×ν)):Prop:=
 ∃es bG,w.heap[b]? =some (.map es bG)∧es.toList.map (fun e=>(e.key,e.val))=m.map (fun p=>(ek p.1,ev p.2))∧Stamped es bG∧∀p∈m,ok p.1
section
variable {κ ν:Type}{P:Program}{kt t e:TypeId}{ek:κ→Value}{ok:κ→Prop}{ev:ν→Value}{w w':World}{b:Nat}{m:List (κ×ν)}
theorem aL.lt (h:aL w ek ok ev b m):b < w.heap.size:=by
 obtain⟨es,bG,hb,_⟩:=h
 exact(Array.getElem?_eq_some_iff.1 hb).1
theorem aL.of_block (h:aL w ek ok ev b m)(hb:w'.heap[b]? =w.heap[b]?):aL w' ek ok ev b m:=by
 obtain⟨es,bG,h1,h2⟩:=h
 exact⟨es,bG,hb.trans h1,h2⟩
theorem aL.below {B:Nat}(h:aL w ek ok ev b m)(hb:Below B w w')(hB:b < B):aL w' ek ok ev b m:=h.of_block (hb.block b hB)
theorem aL.alloc (h:aL w ek ok ev b m)(o:Obj):aL (w.alloc o) ek ok ev b m:=h.of_block (Below.heap_alloc w o b h.lt)
theorem aL.drew (h:aL w ek ok ev b m):aL w.drew ek ok ev b m:=h
theorem aL.made (w:World):aL (w.alloc (.map #[] 0)) ek ok ev w.heap.size ([]:List (κ×ν)):=
 ⟨#[],0,(MapKept.heap_alloc w _).1,rfl,stamped_empty 0,fun p hp=>by cases hp⟩
theorem aL.ne_blk {g:Nat}{t:TypeId}{cs:Array Value}(h:aL w ek ok ev b m)(hg:ab w g t cs):b≠g:=by
 rintro rfl
 obtain⟨es,bG,hb,_⟩:=h
 unfold ab at hg
 rw[hb] at hg
 cases hg
theorem kI {es:Array MapEntry}(hm:es.toList.map (fun e=>(e.key,e.val))=m.map (fun p=>(ek p.1,ev p.2))){j:Nat}{e0:MapEntry}(h:es.toList[j]? =some e0):∃p,m[j]? =some p∧e0.key=ek p.1∧e0.val=ev p.2:=by
 have h1:(es.toList.map (fun e=>(e.key,e.val)))[j]? =some (e0.key,e0.val):=by rw[List.getElem?_map,h];rfl
 rw[hm,List.getElem?_map,Option.map_eq_some_iff] at h1
 obtain⟨p,hp,he⟩:=h1
 injection he with h2 h3
 exact⟨p,hp,h2.symm,h3.symm⟩
theorem Cn {es:Array MapEntry}(hm:es.toList.map (fun e=>(e.key,e.val))=m.map (fun p=>(ek p.1,ev p.2))){e0:MapEntry}(h:e0∈es.toList):∃p∈m,e0.key=ek p.1∧e0.val=ev p.2:=by
 obtain⟨j,hj⟩:=List.getElem?_of_mem h
 obtain⟨p,hp,h1,h2⟩:=kI hm hj
 exact⟨p,List.mem_of_getElem? hp,h1,h2⟩
theorem oS {es:Array MapEntry}(hm:es.toList.map (fun e=>(e.key,e.val))=m.map (fun p=>(ek p.1,ev p.2))){p:κ×ν}(h:p∈m):∃e0∈es.toList,e0.key=ek p.1∧e0.val=ev p.2:=by
 have h1:(ek p.1,ev p.2)∈m.map (fun p=>(ek p.1,ev p.2)):=List.mem_map.2 ⟨p,h,rfl⟩
 rw[←hm] at h1
 obtain⟨e0,he0,he⟩:=List.mem_map.1 h1
 injection he with h2 h3
 exact⟨e0,he0,h2,h3⟩
theorem Co {es:Array MapEntry}(hm:es.toList.map (fun e=>(e.key,e.val))=m.map (fun p=>(ek p.1,ev p.2))):es.toList.map (·.key)=(aU m).map ek:=by
 have:=congrArg (List.map Prod.fst) hm
 simpa [aU,List.map_map,Function.comp_def] using this
theorem lV (E:iz P kt ek ok){es:Array MapEntry}{bG:Nat}(hm:es.toList.map (fun e=>(e.key,e.val))=m.map (fun p=>(ek p.1,ev p.2)))(hs:Stamped es bG):(aU m).Nodup:=by
 have h3:=((stamped_iff es bG).1 hs).2.2
 have hk:(es.toList.map (·.key)).Pairwise (·≠·):=by rw[List.pairwise_map];exact h3
 rw[Co hm,List.pairwise_map] at hk
 exact hk.imp (fun h e=>h (by rw[e]))
theorem aL.nodup (E:iz P kt ek ok)(h:aL w ek ok ev b m):(aU m).Nodup:=by
 obtain⟨es,bG,hb,hm,hs,hk⟩:=h
 exact lV E hm hs
theorem oR (E:iz P kt ek ok){es:Array MapEntry}(hm:es.toList.map (fun e=>(e.key,e.val))=m.map (fun p=>(ek p.1,ev p.2)))(hk:∀p∈m,ok p.1):∀e0∈es.toList,∃l,keyOf P kt e0.key=some l:=by
 intro e0 he0
 obtain⟨p,hp,h1,_⟩:=Cn hm he0
 rw[h1]
 exact E.key _ (hk p hp)
theorem aL.lookup [DecidableEq κ](h:aL w ek ok ev b m)(E:iz P kt ek ok)(ht:P.underlying t=some (.map kt e)){z:Value}(hz:(zeroValue e).run P w=.ok z w)(x:κ)(hx:ok x)(c:Bool):
  (Instr.lookup t (.map (some b)) (ek x) c).run P w=.ok (match av m x with|some v=>if c then tU #[ev v,bL true] else ev v|none=>if c then tU #[z,bL false] else z) w:=by
 obtain⟨es,bG,hb,hm,hs,hk⟩:=h
 obtain⟨l,hl⟩:=E.key x hx
 rcases E.keyed.find w hl es.toList (oR E hm hk) with⟨h1,h2⟩|⟨j,e0,h1,h2,h3⟩
 ·rw[lK (fun p hp e1=>?_)]
  ·simp[Instr.lookup,run_underlying ht,MapKept.run_getObj_map hb,E.keyed.check w _ hl,h1,hz,Result.andThen]
  ·obtain⟨e0,he0,h4,_⟩:=oS hm hp
   exact h2 e0 he0 (by rw[h4,e1])
 ·obtain⟨p,hp,h4,h5⟩:=kI hm h2
  have hpx:p.1=x:=E.inj _ _ (h4.symm.trans h3)
  have:=rR (lV E hm hs) hp
  rw[hpx] at this
  rw[this]
  simp[Instr.lookup,run_underlying ht,MapKept.run_getObj_map hb,E.keyed.check w _ hl,h1,Result.andThen,h5]
theorem cr.of_set {es:Array MapEntry}{bG:Nat}(hb:w.heap[b]? =some (.map es bG))(o:Obj):cr b w (setBlock w b o):=
 ⟨rfl,rfl,rfl,by simp[setBlock],fun k _ hk=>heap_setBlock_other hb _ hk⟩
theorem aL.update [DecidableEq κ](h:aL w ek ok ev b m)(E:iz P kt ek ok)(ht:P.underlying t=some (.map kt e))(x:κ)(hx:ok x)(v:ν):
  ∃w',(Instr.mapUpdate t (.map (some b)) (ek x) (ev v)).run P w=.ok () w'∧aL w' ek ok ev b (aw m x v)∧cr b w w'∧w'.heap.size=w.heap.size:=by
 obtain⟨es,bG,hb,hm,hs,hk⟩:=h
 obtain⟨l,hl⟩:=E.key x hx
 rcases E.keyed.find w hl es.toList (oR E hm hk) with⟨h1,h2⟩|⟨j,e0,h1,h2,h3⟩
 ·have hno:∀p∈m,p.1≠x:=fun p hp e1=>by
   obtain⟨e0,he0,h4,_⟩:=oS hm hp
   exact h2 e0 he0 (by rw[h4,e1])
  refine⟨setBlock w b (.map (es.push ⟨ek x,ev v,bG⟩) (bG + 1)),by simp[Instr.mapUpdate,run_underlying ht,MapKept.run_getObj_map hb,E.keyed.check w false hl,h1,MapKept.run_setObj_map _ hb,Result.andThen,setBlock],
   ⟨_,_,heap_setBlock_same hb _,?_,stamped_push hs h2,?_⟩,cr.of_set hb _,by simp[setBlock]⟩
  ·have hany:m.any (fun p=>decide (p.1=x))=false:=by
    rw[List.any_eq_false]
    intro p hp
    simpa using hno p hp
   unfold aw
   rw[if_neg (by rw[hany];simp)]
   simp[hm]
  ·intro p hp
   unfold aw at hp
   split at hp
   ·obtain⟨q,hq,rfl⟩:=List.mem_map.1 hp
    split
    ·exact hx
    ·exact hk q hq
   ·rcases List.mem_append.1 hp with hp|hp
    ·exact hk p hp
    ·rw[List.mem_singleton.1 hp];exact hx
 ·obtain⟨p,hp,h4,h5⟩:=kI hm h2
  have hpx:p.1=x:=E.inj _ _ (h4.symm.trans h3)
  have hjl:j < es.size:=by have:=(List.getElem?_eq_some_iff.1 h2).1;simpa using this
  have hj:es[j]? =some e0:=by rw[←Array.getElem?_toList];exact h2
  have hpm:p∈m:=List.mem_of_getElem? hp
  have hany:m.any (fun p=>decide (p.1=x))=true:=List.any_eq_true.2 ⟨p,hpm,by simp[hpx]⟩
  have hnd:=lV E hm hs
  refine⟨setBlock w b (.map (es.modify j fun e=>{e with key:=ek x,val:=ev v}) bG),by simp[Instr.mapUpdate,run_underlying ht,MapKept.run_getObj_map hb,E.keyed.check w false hl,h1,hj,h3,E.keyed.stays w hl,MapKept.run_setObj_map _ hb,Result.andThen,setBlock],
   ⟨_,_,heap_setBlock_same hb _,?_,?_,?_⟩,cr.of_set hb _,by simp[setBlock]⟩
  ·unfold aw
   rw[if_pos hany]
   apply List.ext_getElem?
   intro i
   have hmi:=congrArg (fun l=>l[i]?) hm
   simp only[List.getElem?_map] at hmi
   simp only[List.getElem?_map,Array.getElem?_toList,Array.getElem?_modify]
   by_cases hij:j=i
   ·subst hij
    rw[if_pos rfl,hj,hp]
    simp[hpx]
   ·rw[if_neg hij]
    rw[←Array.getElem?_toList,hmi]
    cases hq:m[i]? with
    |none=>rfl
    |some q=>
     have hqx:q.1≠x:=by
      intro e1
      have hi:=(List.getElem?_eq_some_iff.1 hq)
      have hj':=(List.getElem?_eq_some_iff.1 hp)
      obtain⟨hi1,hi2⟩:=hi
      obtain⟨hj1,hj2⟩:=hj'
      have:=(List.getElem_inj (xs:=aU m) (i:=j) (j:=i) (h₀:=by simpa [aU] using hj1) (h₁:=by simpa [aU] using hi1) hnd).1 (by simp[aU,hi2,hj2,hpx,e1])
      exact hij this
     simp[hqx]
  ·exact stamped_modify hs j _ (fun _ _=>rfl) (fun e1 _ he1=>by rw[hj] at he1;injection he1 with he1;subst he1;exact h3.symm)
  ·intro q hq
   unfold aw at hq
   rw[if_pos hany] at hq
   obtain⟨q0,hq0,rfl⟩:=List.mem_map.1 hq
   split
   ·exact hx
   ·exact hk q0 hq0
theorem tg [DecidableEq κ]:∀(l:List (κ×ν)) (x:κ) (j:Nat) (p:κ×ν),l[j]? =some p→p.1=x→(aU l).Nodup→l.filter (fun p=>¬p.1=x)=l.eraseIdx j
 |[],_,_,_,h,_,_=>by simp at h
 |a::r,x,0,p,h,hx,hd=>by
  simp at h
  subst h
  have hr:r.filter (fun p=>¬p.1=x)=r:=by
   rw[List.filter_eq_self]
   intro q hq
   have:=(List.pairwise_cons.1 hd).1 q.1 (List.mem_map.2 ⟨q,hq,rfl⟩)
   simp[←hx,Ne.symm this]
  simp[hx]
  simpa using hr
 |a::r,x,j + 1,p,h,hx,hd=>by
  have ih:=tg r x j p (by simpa using h) hx (List.pairwise_cons.1 hd).2
  have hp:p∈r:=List.mem_of_getElem? (by simpa using h)
  have:=(List.pairwise_cons.1 hd).1 p.1 (List.mem_map.2 ⟨p,hp,rfl⟩)
  have ha:¬a.1=x:=fun e=>this (e.trans hx.symm)
  rw[List.filter_cons_of_pos (by simpa using ha),ih]
  rfl
theorem aL.delete [DecidableEq κ]{ty:TypeId}(h:aL w ek ok ev b m)(E:iz P kt ek ok)(ht:P.underlying t=some (.map kt e))(x:κ)(hx:ok x):
  ∃w',(Builtin.delete_ #[t,kt] ty #[.map (some b),ek x]).run P w=.ok (tU #[]) w'∧aL w' ek ok ev b (fM m x)∧cr b w w'∧w'.heap.size=w.heap.size:=by
 obtain⟨es,bG,hb,hm,hs,hk⟩:=h
 obtain⟨l,hl⟩:=E.key x hx
 have hkd:∀p∈fM m x,ok p.1:=fun p hp=>hk p (List.mem_filter.1 hp).1
 rcases E.keyed.find w hl es.toList (oR E hm hk) with⟨h1,h2⟩|⟨j,e0,h1,h2,h3⟩
 ·have hno:∀p∈m,p.1≠x:=fun p hp e1=>by
   obtain⟨e0,he0,h4,_⟩:=oS hm hp
   exact h2 e0 he0 (by rw[h4,e1])
  have hmd:fM m x=m:=by
   unfold fM
   rw[List.filter_eq_self]
   intro p hp
   simpa using hno p hp
  refine⟨setBlock w b (.map es bG),by simp[Builtin.delete_,run_underlying ht,MapKept.run_getObj_map hb,E.keyed.check w _ hl,h1,MapKept.run_setObj_map _ hb,Result.andThen,setBlock],
   ⟨_,_,heap_setBlock_same hb _,by rw[hmd];exact hm,hs,hkd⟩,cr.of_set hb _,by simp[setBlock]⟩
 ·obtain⟨p,hp,h4,h5⟩:=kI hm h2
  have hpx:p.1=x:=E.inj _ _ (h4.symm.trans h3)
  have hjl:j < es.toList.length:=(List.getElem?_eq_some_iff.1 h2).1
  have hjs:j < es.size:=by simpa using hjl
  have hsub:(es.eraseIdxIfInBounds j).toList=es.toList.eraseIdx j:=by
   unfold Array.eraseIdxIfInBounds
   rw[dif_pos hjs]
   simp
  refine⟨setBlock w b (.map (es.eraseIdxIfInBounds j) bG),by simp[Builtin.delete_,run_underlying ht,MapKept.run_getObj_map hb,E.keyed.check w _ hl,h1,MapKept.run_setObj_map _ hb,Result.andThen,setBlock],
   ⟨_,_,heap_setBlock_same hb _,?_,stamped_erase hs j,hkd⟩,cr.of_set hb _,by simp[setBlock]⟩
  have he:fM m x=m.eraseIdx j:=tg m x j p hp hpx (lV E hm hs)
  rw[hsub,he,Go.ChangeMaps.map_eraseIdx,hm,Go.ChangeMaps.map_eraseIdx]
theorem aL.len {ty:TypeId}(h:aL w ek ok ev b m)(ht:P.underlying t=some (.map kt e)):(Builtin.len_ #[t] ty #[.map (some b)]).run P w=.ok (X Y m.length) w:=by
 obtain⟨es,bG,hb,hm,hs,hk⟩:=h
 have hl:es.size=m.length:=by
  have:=congrArg List.length hm
  simpa using this
 simp[Builtin.len_,run_underlying ht,MapKept.run_getObj_map hb,Result.andThen,goInt,hl]
end
end
section
open Go.RowKit Go.Maps Go.MapKept
open Go.ChangeMaps (setBlock)
def fC {κ ν:Type}(w:World)(ek:κ→Value)(ok:κ→Prop)(ev:ν→Value)(r b:Nat)(m left:List (κ×ν)):Prop:=
 r≠b∧aL w ek ok ev b m∧(∀p∈left,p∈m)∧∃es bG seen c0 since,w.heap[r]? =some (.mapIter (some b) since seen c0)∧w.heap[b]? =some (.map es bG)∧since≤c0∧since≤bG∧(∀x∈es.toList,x.born < since)∧(es.toList.map (·.born)).Nodup∧
  (leftOf es seen).toList.map (fun e=>(e.key,e.val))=left.map (fun p=>(ek p.1,ev p.2))
theorem rn {α:Type}:∀(l:List α) (j:Nat) (h:j < l.length),l.Perm (l[j]::l.eraseIdx j)
 |[],_,h=>by simp at h
 |a::r,0,_=>List.Perm.refl _
 |a::r,j + 1,h=>((rn r j (by simpa using h)).cons a).trans (List.Perm.swap _ _ _)
section
variable {κ ν:Type}{P:Program}{kt t e:TypeId}{ek:κ→Value}{ok:κ→Prop}{ev:ν→Value}{w w':World}{r b:Nat}{m left:List (κ×ν)}
theorem Bl {w:World}{b i:Nat}{o:Obj}(h:i≠b):(setBlock w b o).heap[i]? =w.heap[i]?:=by
 unfold setBlock
 simp only
 rw[Array.getElem?_setIfInBounds_ne (Ne.symm h)]
theorem Bj {w:World}{b:Nat}{o:Obj}(h:b < w.heap.size):(setBlock w b o).heap[b]? =some o:=by
 unfold setBlock
 simp only
 rw[Array.getElem?_setIfInBounds_self_of_lt h]
theorem fC.kept (h:fC w ek ok ev r b m left)(h1:w'.heap[r]? =w.heap[r]?)(h2:w'.heap[b]? =w.heap[b]?):fC w' ek ok ev r b m left:=by
 obtain⟨az,hm,hs,es,bG,seen,c0,since,g1,g2,rest⟩:=h
 exact⟨az,hm.of_block h2,hs,es,bG,seen,c0,since,h1.trans g1,h2.trans g2,rest⟩
theorem aL.range (h:aL w ek ok ev b m)(ht:P.underlying t=some (.map kt e)):
  ∃w',(Instr.range t (.map (some b))).run P w=.ok (PT (some ⟨w.heap.size,0,none⟩)) w'∧fC w' ek ok ev w.heap.size b m m∧Below w.heap.size w w'∧w'.heap.size=w.heap.size + 1:=by
 have au:=h.lt
 have h0:=h
 obtain⟨es,bG,hb,hm,hs,hk⟩:=h
 refine⟨w.alloc (.mapIter (some b) bG #[] bG),?_,⟨by omega,h0.alloc _,fun p hp=>hp,es,bG,#[],bG,bG,(MapKept.heap_alloc w _).1,(Below.heap_alloc w _ b au).trans hb,nR _,nR _,((stamped_iff es bG).1 hs).1,((stamped_iff es bG).1 hs).2.1,?_⟩,(bR _ _).alloc (nR _) _,by simp⟩
 ·simp[Instr.range,run_underlying ht,MapKept.run_getObj_map hb,Result.andThen,newObj,Sem.run]
 ·have:leftOf es #[]=es:=by unfold leftOf;simp
  rw[this]
  exact hm
theorem fC.next (h:fC w ek ok ev r b m left)(ty:TypeId):
  (left=[]∧(Instr.next (PT (some ⟨r,0,none⟩)) false ty).run P w=.ok (tU #[bL false]) w)∨
  ∃p left' w',left.Perm (p::left')∧p∈m∧(Instr.next (PT (some ⟨r,0,none⟩)) false ty).run P w=.ok (tU #[bL true,ek p.1,ev p.2]) w'∧fC w' ek ok ev r b m left'∧cr r w w'∧w'.heap.size=w.heap.size∧
   (Instr.entry (PT (some ⟨r,0,none⟩))).run P w'=.ok (tU #[ek p.1,ev p.2]) w':=by
 obtain⟨az,hmap,hsub,es,bG,seen,c0,since,g1,g2,hsc,hscl,hborn,hnd,hleft⟩:=h
 have au:r < w.heap.size:=(Array.getElem?_eq_some_iff.1 g1).1
 rcases run_next_at (P:=P) w ty r b since c0 seen es bG g1 g2 hborn hsc with⟨h1,h2⟩|⟨e0,he0,w1,hw1,hrun⟩
 ·left
  refine⟨?_,h2⟩
  have hl:=congrArg List.length hleft
  simp[h1] at hl
  exact List.eq_nil_of_length_eq_zero hl.symm
 ·right
  obtain⟨j,hj⟩:=List.getElem?_of_mem he0
  obtain⟨p,hp,hk,hv⟩:=kI hleft hj
  have hes:e0∈es.toList:=by
   unfold leftOf at he0
   simp at he0
   simpa using he0.1
  have hpl:p∈left:=List.mem_of_getElem? hp
  have hw1h:w1.heap=w.heap:=by rcases hw1 with rfl|rfl<;>rfl
  have hw1r:(setBlock w1 r (.mapIter (some b) since (seen.push e0.born) bG)).heap[r]? =some (.mapIter (some b) since (seen.push e0.born) bG):=Bj (by rw[hw1h];exact au)
  have hoth:∀k,k≠r→(setBlock w1 r (.mapIter (some b) since (seen.push e0.born) bG)).heap[k]? =w.heap[k]?:=fun k hk=>by rw[Bl hk,hw1h]
  have cQ:cr r w (setBlock w1 r (.mapIter (some b) since (seen.push e0.born) bG)):=by
   refine⟨?_,?_,?_,?_,fun k _ hk=>hoth k hk⟩
   ·rcases hw1 with rfl|rfl<;>rfl
   ·rcases hw1 with rfl|rfl<;>rfl
   ·rcases hw1 with rfl|rfl<;>rfl
   ·simp[setBlock,hw1h]
  have hb':(setBlock w1 r (.mapIter (some b) since (seen.push e0.born) bG)).heap[b]? =w.heap[b]?:=hoth b (Ne.symm az)
  have hlo:(leftOf es (seen.push e0.born)).toList=(leftOf es seen).toList.eraseIdx j:=by
   have hsubn:((leftOf es seen).toList.map (·.born)).Nodup:=by
    refine List.Sublist.nodup ?_ hnd
    unfold leftOf
    rw[Array.toList_filter]
    exact List.Sublist.map _ List.filter_sublist
   have h1:(leftOf es (seen.push e0.born)).toList=(leftOf es seen).toList.filter (fun x=>!(x.born==e0.born)):=by
    unfold leftOf
    rw[Array.toList_filter,Array.toList_filter,List.filter_filter]
    congr 1
    funext x
    rw[Bool.eq_iff_iff]
    simp[Array.mem_push,and_comm]
   rw[h1]
   clear hrun hw1 hw1r hoth cQ hb' hleft h1 hp
   generalize (leftOf es seen).toList=L at *
   clear au g1 g2 hmap hsub hborn hnd hes hpl hk hv hw1h he0
   induction L generalizing j with
   |nil=>simp at hj
   |cons a R ih=>
    have hn:=List.pairwise_cons.1 hsubn
    cases j with
    |zero=>
     simp at hj
     subst hj
     have hR:R.filter (fun x=>!(x.born==a.born))=R:=by
      rw[List.filter_eq_self]
      intro x hx
      have:=hn.1 x.born (List.mem_map.2 ⟨x,hx,rfl⟩)
      simp[Ne.symm this]
     simp
     simpa using hR
    |succ j=>
     have hjR:R[j]? =some e0:=by simpa using hj
     have:=hn.1 e0.born (List.mem_map.2 ⟨e0,List.mem_of_getElem? hjR,rfl⟩)
     rw[List.filter_cons_of_pos (by simpa using this)]
     rw[ih j hjR hn.2]
     rfl
  obtain⟨hjl,hpe⟩:=List.getElem?_eq_some_iff.1 hp
  refine⟨p,left.eraseIdx j,_,?_,hsub p hpl,by rw[hrun,hk,hv],⟨az,hmap.of_block hb',fun q hq=>hsub q ((List.eraseIdx_sublist _ _).subset hq),es,bG,_,_,since,hw1r,hb'.trans g2,hscl,hscl,hborn,hnd,?_⟩,cQ,by simp[setBlock,hw1h],?_⟩
  ·rw[←hpe]
   exact rn left j hjl
  ·rw[hlo,Go.ChangeMaps.map_eraseIdx,hleft,Go.ChangeMaps.map_eraseIdx]
  ·rw[←hk,←hv]
   exact run_entry_at _ r b since seen es bG e0 hw1r (hb'.trans g2) hes hnd
end
end
section
open Go.RowKit
structure Fr (K:List TypeId)(M:List Nat)(aa:Nat)(w w':World):Prop where
 below:Below aa w w'
 blk:∀g t cs,ab w g t cs→t∉K→ab w' g t cs
 map:∀b es c,w.heap[b]? =some (.map es c)→b∉M→w'.heap[b]? =some (.map es c)
section
variable {K K':List TypeId}{M M':List Nat}{aa:Nat}{a b c w w':World}
theorem Fr.refl (K:List TypeId)(M:List Nat)(aa:Nat)(w:World):Fr K M aa w w:=⟨bR _ _,fun _ _ _ h _=>h,fun _ _ _ h _=>h⟩
theorem Fr.trans (h:Fr K M aa a b)(k:Fr K M aa b c):Fr K M aa a c:=
 ⟨h.below.trans k.below,fun g t cs h0 h1=>k.blk g t cs (h.blk g t cs h0 h1) h1,fun b es c h0 h1=>k.map b es c (h.map b es c h0 h1) h1⟩
theorem Fr.mono (h:Fr K M aa w w')(hK:∀t∈K,t∈K')(hM:∀b∈M,b∈M'):Fr K' M' aa w w':=
 ⟨h.below,fun g t cs h0 h1=>h.blk g t cs h0 (fun e=>h1 (hK t e)),fun b es c h0 h1=>h.map b es c h0 (fun e=>h1 (hM b e))⟩
theorem Fr.of_below (K:List TypeId)(M:List Nat){aa:Nat}(h:Below w.heap.size w w')(hb:aa≤w.heap.size):Fr K M aa w w':=
 ⟨h.mono hb,fun g t cs h0 _=>h0.below h h0.lt,fun b es c h0 _=>(h.block b (Array.getElem?_eq_some_iff.1 h0).1).trans h0⟩
theorem Fr.made (h:Fr K M aa a w)(k:Below w.heap.size w w')(hb:aa≤w.heap.size):Fr K M aa a w':=h.trans (Fr.of_below K M k hb)
theorem Fr.drew (h:Fr K M aa a w):Fr K M aa a w.drew:=⟨h.below.drew,h.blk,h.map⟩
theorem Fr.drewN (h:Fr K M aa a w)(n:Nat):Fr K M aa a (w.drewN n):=⟨h.below.trans ⟨rfl,rfl,rfl,nR _,fun _ _=>rfl⟩,h.blk,h.map⟩
theorem Fr.size (h:Fr K M aa w w'):w.heap.size≤w'.heap.size:=h.below.size
theorem Fr.set_ {g:Nat}{t:TypeId}{cs:Array Value}(h:Fr K M aa a w)(hg:ab w g t cs)(ht:t∈K)(hb:aa≤g)(i:Nat)(u:Value):Fr K M aa a (w.setCell ⟨g,i,none⟩ u):=
 h.trans ⟨(bR _ _).setCell (p:=⟨g,i,none⟩) hb u,fun g' t' cs' h0 h1=>h0.far (fun e=>h1 (by
   subst e
   unfold ab at h0 hg
   rw[h0] at hg
   injection hg with hg
   injection hg with _ he
   rw[he];exact ht)) u,fun b es c h0 _=>by
  rw[Below.heap_setCell _ _ _ _ (fun e=>?_)]
  ·exact h0
  ·subst e
   unfold ab at hg
   rw[h0] at hg
   cases hg⟩
theorem Fr.grown {base0 n size:Nat}{e:TypeId}{v:Value}{xs:List Value}(h:Fr K M aa a w)(ho:w.ownsRow base0 e size v n xs)(hg:w.grownBy w' v.ownBlock)(he:e∈K)(hb:aa≤base0)(hs:aa≤w.heap.size):Fr K M aa a w':=
 h.trans ⟨(bR _ _).grown hg hs (fun k hk=>nT hb (ho.lt k hk).1),fun g t cs h0 h1=>h0.grown hg (fun e1=>dj ho h0 (fun e2=>h1 (e2▸he)) e1.symm),fun b es c h0 _=>by
  rw[hg.block b (Array.getElem?_eq_some_iff.1 h0).1 (fun e1=>?_)]
  ·exact h0
  ·rcases ho.2 with⟨rfl,_⟩|⟨g,cap,cur,rfl,_,hh,_⟩
   ·simp[Value.ownBlock] at e1
   ·have:b=g:=by simpa [Value.ownBlock] using e1
    subst this
    rw[h0] at hh
    cases hh⟩
theorem Fr.but {p:Nat}{es:Array MapEntry}{cl:Nat}(h:Fr K M aa a w)(hp:w.heap[p]? =some (.map es cl))(hk:cr p w w')(hm:p∈M)(hb:aa≤p)(hs:aa≤w.heap.size):Fr K M aa a w':=
 h.trans ⟨hk.below hb hs,fun g t cs h0 _=>hk.blk h0 (fun e=>by
   subst e
   unfold ab at h0
   rw[hp] at h0
   cases h0),fun b es' c h0 h1=>(hk.block b (Array.getElem?_eq_some_iff.1 h0).1 (fun e=>h1 (e▸hm))).trans h0⟩
theorem Fr.own {base0 n size:Nat}{e:TypeId}{v:Value}{xs:List Value}(h:Fr K M aa w w')(ho:w.ownsRow base0 e size v n xs)(he:e∉K):w'.ownsRow base0 e size v n xs:=by
 refine⟨ho.1,?_⟩
 rcases ho.2 with hn|⟨g,cap,cur,rfl,hg,hgg,rest⟩
 ·exact .inl hn
 ·exact .inr ⟨g,cap,cur,rfl,hg,h.blk g e cur hgg he,rest⟩
theorem Fr.mapIs {κ ν:Type}{ek:κ→Value}{ok:κ→Prop}{ev:ν→Value}{p:Nat}{m:List (κ×ν)}(h:Fr K M aa w w')(hm:aL w ek ok ev p m)(hp:p∉M):aL w' ek ok ev p m:=by
 obtain⟨es,bG,h1,h2⟩:=hm
 exact⟨es,bG,h.map p es bG h1 hp,h2⟩
end
end
section
open Go.RowKit Go.Maps
structure bM where
 b:List Nat
 sure:Nat
structure et where
 kind:Nat
 name:ByteArray
 tt:ByteArray
 f:Option Nat
structure aF where
 quota:Nat
 ops:Nat
 fail:Nat
 now:List (ByteArray×Nat)
 sure:List (ByteArray×Nat)
 chg:List et
 fs:List (Nat×bM)
def fc (f:Option Nat):Value:=.pointer (f.map fun g=>⟨g,0,none⟩)
def aW (f:Nat):Value:=PT (some ⟨f,0,none⟩)
def aY (s:ByteArray):Prop:=s.size≤4096
def et.cells (c:et):List Value:=[X Y c.kind,.string c.name,.string c.tt,fc c.f]
def eE (l:List et):List Value:=l.flatMap et.cells
theorem encS:iz Pg 9 Value.string aY:=
 ⟨string_keyed underlying9,fun x hx=>⟨_,Go.WideMaps.keyOf_string_mk underlying9 (by unfold aY at hx;unfold maxLen;omega)⟩,fun x y h=>by injection h⟩
def gR (w:World)(aa:Nat)(fs:List (Nat×bM)):Prop:=
 ∃R:Nat→Value,(∀f p,av fs f=some p→aa≤f∧ab w f 111 #[R f,X Y p.sure]∧w.ownsRow aa 5 1 (R f) p.b.length (bv p.b)∧p.sure≤p.b.length∧p.b.length≤1048576∧ay p.b)∧
  ∀f g p q,av fs f=some p→av fs g=some q→f≠g→(R f).ownBlock=none∨(R f).ownBlock≠(R g).ownBlock
structure ar (w:World)(aa d mn ms:Nat)(D:aF):Prop where
 lod:aa≤d
 lon:aa≤mn
 los:aa≤ms
 hi:aa≤w.heap.size
 ne:mn≠ms
 blk:∃cv,ab w d 102 #[X Y D.quota,.map (some mn),.map (some ms),cv,X Y D.ops,X Y D.fail]∧w.ownsRow aa 104 4 cv D.chg.length (eE D.chg)
 now:aL w Value.string aY aW mn D.now
 sure:aL w Value.string aY aW ms D.sure
 files:gR w aa D.fs
 ids:(aU D.fs).Nodup
 nowIn:∀p∈D.now,p.2∈aU D.fs
 sureIn:∀p∈D.sure,p.2∈aU D.fs
 chgIn:∀c∈D.chg,∀f,c.f=some f→f∈aU D.fs
 quotaB:D.quota≤1000000000
 opsB:D.ops≤1000000000000
 failB:D.fail≤9000000000000000000
theorem gR.fr {w w':World}{aa base':Nat}{fs:List (Nat×bM)}{K:List TypeId}{M:List Nat}(h:gR w aa fs)(hf:Fr K M base' w w')(h1:111∉K)(h2:5∉K):gR w' aa fs:=by
 obtain⟨R,hR,hd⟩:=h
 exact⟨R,fun f p hp=>by
  obtain⟨a1,a2,a3,a4,a5⟩:=hR f p hp
  exact⟨a1,hf.blk _ _ _ a2 h1,hf.own a3 h2,a4,a5⟩,hd⟩
theorem ar.fr {w w':World}{aa base' d mn ms:Nat}{D:aF}{K:List TypeId}{M:List Nat}(h:ar w aa d mn ms D)(hf:Fr K M base' w w')(h1:111∉K)(h2:5∉K)(h3:102∉K)(h4:104∉K)(h5:mn∉M)(h6:ms∉M):ar w' aa d mn ms D:=by
 obtain⟨cv,hb,hc⟩:=h.blk
 exact{h with hi:=nT h.hi hf.size,blk:=⟨cv,hf.blk _ _ _ hb h3,hf.own hc h4⟩,now:=hf.mapIs h.now h5,sure:=hf.mapIs h.sure h6,files:=h.files.fr hf h1 h2}
theorem ar.made {w w':World}{aa d mn ms:Nat}{D:aF}(h:ar w aa d mn ms D)(hb:Below w.heap.size w w'):ar w' aa d mn ms D:=
 h.fr (K:=[]) (M:=[]) (Fr.of_below [] [] hb h.hi) (by simp) (by simp) (by simp) (by simp) (by simp) (by simp)
theorem ar.drew {w:World}{aa d mn ms:Nat}{D:aF}(h:ar w aa d mn ms D):ar w.drew aa d mn ms D:=h.made (bR _ _).drew
theorem ar.turn {w w':World}{aa d mn ms:Nat}{D:aF}(h:ar w aa d mn ms D)(ops fail:Nat)(cv:Value)(hb:ab w' d 102 #[X Y D.quota,.map (some mn),.map (some ms),cv,X Y ops,X Y fail])
  (hc:w.ownsRow aa 104 4 cv D.chg.length (eE D.chg))(hf:Fr [102] [] aa w w')(h1:ops≤1000000000000)(h2:fail≤9000000000000000000):ar w' aa d mn ms {D with ops:=ops,fail:=fail}:=
 {lod:=h.lod,lon:=h.lon,los:=h.los,hi:=nT h.hi hf.size,ne:=h.ne,blk:=⟨cv,hb,hf.own hc (by decide)⟩,now:=hf.mapIs h.now (by simp),sure:=hf.mapIs h.sure (by simp),files:=h.files.fr hf (by decide) (by decide),ids:=h.ids,
  nowIn:=h.nowIn,sureIn:=h.sureIn,chgIn:=h.chgIn,quotaB:=h.quotaB,opsB:=h1,failB:=h2}
def dH (D:aF):Int×aF:=if D.ops + 1=D.fail then (8,{D with ops:=D.ops + 1,fail:=0}) else (0,{D with ops:=D.ops + 1})
structure It where
 p:Nat
 key:ByteArray
 tm:Nat
def fN (x:It)(j:Nat):Array Value:=#[.string x.key,X Y x.tm,X Y j]
def fg (l:List It):List Value:=l.map fun x=>aW x.p
theorem AC (l:List It):(fg l).length=l.length:=by simp[fg]
theorem AD {l:List It}{j:Nat}{x:It}(h:l[j]? =some x):(fg l)[j]? =some (aW x.p):=by unfold fg;rw[List.getElem?_map,h];rfl
def sn (a b:It):Bool:=decide (a.tm < b.tm)||(decide (a.tm=b.tm)&&Op.bytesLess a.key.toList b.key.toList)
def ep (l:List It)(i j:Nat):Bool:=match l[i]?,l[j]? with
 |some a,some b=>sn a b
 |_,_=>false
def fH (l:List It)(i j:Nat):List It:=match l[i]?,l[j]? with
 |some a,some b=>(l.set i b).set j a
 |_,_=>l
theorem Ag {l:List It}{i j:Nat}{a b:It}(h1:l[i]? =some a)(h2:l[j]? =some b):ep l i j=sn a b:=by unfold ep;rw[h1,h2]
theorem qE {l:List It}{i j:Nat}{a b:It}(h1:l[i]? =some a)(h2:l[j]? =some b):fH l i j=(l.set i b).set j a:=by unfold fH;rw[h1,h2]
theorem set_set_perm {α:Type}:∀(l:List α) (i j:Nat) (a b:α),l[i]? =some a→l[j]? =some b→((l.set i b).set j a).Perm l:=by
 intro l i j a b h1 h2
 obtain⟨hi,rfl⟩:=List.getElem?_eq_some_iff.1 h1
 obtain⟨hj,rfl⟩:=List.getElem?_eq_some_iff.1 h2
 exact List.set_set_perm hi hj
theorem qD (l:List It)(i j:Nat):(fH l i j).Perm l:=by
 unfold fH
 split
 ·rename_i a b h1 h2
  exact set_set_perm l i j a b h1 h2
 ·exact List.Perm.refl _
inductive eF:List It→Nat→List It→Prop
 |zero (l:List It):eF l 0 l
 |stop (l:List It) (j:Nat):0 < j→ep l j ((j - 1) / 2)=false→eF l j l
 |step (l:List It) (j:Nat) (l':List It):0 < j→ep l j ((j - 1) / 2)=true→eF (fH l ((j - 1) / 2) j) ((j - 1) / 2) l'→eF l j l'
theorem eF.perm {l l':List It}{j:Nat}(h:eF l j l'):l'.Perm l:=by
 induction h with
 |zero l=>exact List.Perm.refl _
 |stop l j _ _=>exact List.Perm.refl _
 |step l j l' _ _ _ ih=>exact ih.trans (qD _ _ _)
def gE (l:List It)(i n:Nat):Nat:=if 2 * i + 2 < n∧ep l (2 * i + 2) (2 * i + 1)=true then 2 * i + 2 else 2 * i + 1
inductive ea (n:Nat):List It→Nat→List It→Nat→Prop
 |out (l:List It) (i:Nat):n≤2 * i + 1→ea n l i l i
 |stop (l:List It) (i:Nat):2 * i + 1 < n→ep l (gE l i n) i=false→ea n l i l i
 |step (l:List It) (i:Nat) (l':List It) (i':Nat):2 * i + 1 < n→ep l (gE l i n) i=true→ea n (fH l i (gE l i n)) (gE l i n) l' i'→ea n l i l' i'
theorem ea.perm {n:Nat}{l l':List It}{i i':Nat}(h:ea n l i l' i'):l'.Perm l:=by
 induction h with
 |out l i _=>exact List.Perm.refl _
 |stop l i _ _=>exact List.Perm.refl _
 |step l i l' i' _ _ _ ih=>exact ih.trans (qD _ _ _)
def my (n:Nat)(l:List It)(i:Nat)(l':List It):Prop:=∃l1 i1,ea n l i l1 i1∧if i < i1 then l'=l1 else eF l1 i l'
theorem my.perm {n:Nat}{l l':List It}{i:Nat}(h:my n l i l'):l'.Perm l:=by
 obtain⟨l1,i1,h1,h2⟩:=h
 split at h2
 ·rw[h2];exact h1.perm
 ·exact h2.perm.trans h1.perm
structure cq (w:World)(aa qp qm:Nat)(A:Option Addr)(n c:Nat)(l:List It):Prop where
 loq:aa≤qp
 hi:aa≤w.heap.size
 blk:ab w qp 369 #[G A n c,.map (some qm)]
 row:w.ownsRow aa 376 1 (G A n c) n (fg l)
 its:∀(j:Nat) (x:It),l[j]? =some x→aa≤x.p∧x.tm≤1099511627776∧ab w x.p 378 (fN x j)
theorem cq.len {w:World}{aa qp qm:Nat}{A:Option Addr}{n c:Nat}{l:List It}(h:cq w aa qp qm A n c l):l.length=n:=by have:=h.row.1;rw[AC] at this;omega
theorem cq.inj {w:World}{aa qp qm:Nat}{A:Option Addr}{n c:Nat}{l:List It}(h:cq w aa qp qm A n c l){i j:Nat}{a b:It}(h1:l[i]? =some a)(h2:l[j]? =some b)(az:i≠j):a.p≠b.p:=by
 intro e
 have ha:=(h.its i a h1).2.2
 have hb:=(h.its j b h2).2.2
 unfold ab at ha hb
 rw[e,hb] at ha
 injection ha with ha
 injection ha with ha
 injection ha with ha
 injection ha with _ ha
 injection ha with _ ha
 injection ha with ha
 injection ha with _ ha
 omega
end
section
open Go.Shelf
def qT:Go.Shelf.Ren:=⟨fun|6=>137|15=>188|14=>247|28=>301|29=>302|20=>366|21=>367|22=>368|23=>369|24=>370|25=>371|26=>372|27=>373|46=>429|47=>400|48=>401|49=>430|50=>431|57=>447|n=>n,fun|22=>42|24=>47|25=>152|3=>3|39=>224|0=>0|53=>32|55=>53|4=>4|46=>386|45=>385|50=>49|5=>5|9=>9|66=>459|70=>463|76=>494|77=>371|n=>n,fun|n=>n⟩
theorem nk:Go.Proofs.SlLaysF0.n6 Pg qT:={
 mixed:=by kernel_rfl
 f6:=⟨Tryz.f137.name,by decide,func137.trans (congrArg some (by kernel_rfl))⟩
 f14:=⟨Tryz.f247.name,by decide,func247.trans (congrArg some (by kernel_rfl))⟩
 f15:=func188.trans (congrArg some (by kernel_rfl))
 f20:=⟨Tryz.f366.name,by decide,func366.trans (congrArg some (by kernel_rfl))⟩
 f21:=⟨Tryz.f367.name,by decide,func367.trans (congrArg some (by kernel_rfl))⟩
 f22:=⟨Tryz.f368.name,by decide,func368.trans (congrArg some (by kernel_rfl))⟩
 f23:=⟨Tryz.f369.name,by decide,func369.trans (congrArg some (by kernel_rfl))⟩
 f24:=⟨Tryz.f370.name,by decide,func370.trans (congrArg some (by kernel_rfl))⟩
 f25:=⟨Tryz.f371.name,by decide,func371.trans (congrArg some (by kernel_rfl))⟩
 f26:=⟨Tryz.f372.name,by decide,func372.trans (congrArg some (by kernel_rfl))⟩
 f27:=⟨Tryz.f373.name,by decide,func373.trans (congrArg some (by kernel_rfl))⟩
 f28:=func301.trans (congrArg some (by kernel_rfl))
 f29:=func302.trans (congrArg some (by kernel_rfl))
 f46:=⟨Tryz.f429.name,by decide,func429.trans (congrArg some (by kernel_rfl))⟩
 f47:=func400.trans (congrArg some (by kernel_rfl))
 f48:=func401.trans (congrArg some (by kernel_rfl))
 f49:=⟨Tryz.f430.name,by decide,func430.trans (congrArg some (by kernel_rfl))⟩
 f50:=⟨Tryz.f431.name,by decide,func431.trans (congrArg some (by kernel_rfl))⟩
 f57:=⟨Tryz.f447.name,by decide,func447.trans (congrArg some (by kernel_rfl))⟩
 t0:=underlying0
 a0:=Tryz.isAgg0
 z0:=Tryz.sizeOf0
 v0:=Tryz.zeroValue0
 t3:=underlying3
 a3:=Tryz.isAgg3
 z3:=Tryz.sizeOf3
 v3:=Tryz.zeroValue3
 t4:=underlying4
 a4:=Tryz.isAgg4
 z4:=Tryz.sizeOf4
 v4:=Tryz.zeroValue4
 t5:=underlying5
 a5:=Tryz.isAgg5
 z5:=Tryz.sizeOf5
 v5:=Tryz.zeroValue5
 t9:=underlying9
 a9:=Tryz.isAgg9
 z9:=Tryz.sizeOf9
 v9:=Tryz.zeroValue9
 t22:=underlying42
 a22:=Tryz.isAgg42
 z22:=Tryz.sizeOf42
 v22:=Tryz.zeroValue42
 t25:=underlying152
 a25:=Tryz.isAgg152
 z25:=Tryz.sizeOf152
 v25:=Tryz.zeroValue152
 t39:=underlying224
 a39:=Tryz.isAgg224
 z39:=Tryz.sizeOf224
 v39:=Tryz.zeroValue224
 t45:=underlying385
 a45:=Tryz.isAgg385
 z45:=Tryz.sizeOf385
 v45:=Tryz.zeroValue385
 t46:=underlying386
 a46:=Tryz.isAgg386
 z46:=Tryz.sizeOf386
 v46:=Tryz.zeroValue386
 t50:=underlying49
 a50:=Tryz.isAgg49
 z50:=Tryz.sizeOf49
 v50:=Tryz.zeroValue49
 t53:=underlying32
 a53:=Tryz.isAgg32
 z53:=Tryz.sizeOf32
 v53:=Tryz.zeroValue32
 t55:=underlying53
 a55:=Tryz.isAgg53
 z55:=Tryz.sizeOf53
 v55:=Tryz.zeroValue53
 t66:=underlying459
 a66:=Tryz.isAgg459
 z66:=Tryz.sizeOf459
 v66:=Tryz.zeroValue459
 t70:=underlying463
 a70:=Tryz.isAgg463
 z70:=Tryz.sizeOf463
 v70:=Tryz.zeroValue463
 t76:=underlying494
 a76:=Tryz.isAgg494
 z76:=Tryz.sizeOf494
 v76:=Tryz.zeroValue494
 t77:=underlying371
 a77:=Tryz.isAgg371
 z77:=Tryz.sizeOf371
 v77:=Tryz.zeroValue371}
end
section
structure Tu where
 src:Nat
 dst:Nat
 proto:Int
 sport:Int
 dport:Int
def Tu.vals (k:Tu):Array Value:=#[X Z k.src,X Z k.dst,X Y k.proto,X Y k.sport,X Y k.dport]
structure bT (k:Tu):Prop where
 src:k.src < 4294967296
 dst:k.dst < 4294967296
 proto:-9223372036854775808≤k.proto∧k.proto≤9223372036854775807
 sport:-9223372036854775808≤k.sport∧k.sport≤9223372036854775807
 dport:-9223372036854775808≤k.dport∧k.dport≤9223372036854775807
def cP (k:Tu):Bool:=decide ((k.proto=6∨k.proto=17)∧0≤k.sport∧k.sport≤65535∧0≤k.dport∧k.dport≤65535)
end
section
open Go.RowKit
def cG (a b:Int):Int:=if a < b then -1 else if b < a then 1 else 0
def eO:List Int→Int
 |[]=>0
 |x::r=>if x≠0 then x else eO r
def dY (a b:Tu):Bool:=decide (eO [cG a.src b.src,cG a.dst b.dst,cG a.proto b.proto,cG a.sport b.sport,cG a.dport b.dport] < 0)
theorem DN (a b:Nat)(w:World):Calls Pg 140 #[X Z a,X Z b] w fun e w'=>e=rT (X Y (cG a b))∧w=w':=by
 rcases Nat.lt_trichotomy a b with h|h|h
 ·have HC:Hid (cG a b=-1):=by show _=_;unfold cG;rw[if_pos (by omega)]
  have d1:decide (a < b)=true:=decide_eq_true h
  clear h
  go_enter func140,ntmps140
  go_wp2
  go_ret
  exact⟨by rw[HC.out];rfl,rfl⟩
 ·subst h
  have HC:Hid (cG a a=0):=by show _=_;unfold cG;rw[if_neg (by omega),if_neg (by omega)]
  have d1:decide (a < a)=false:=decide_eq_false (by omega)
  go_enter func140,ntmps140
  go_wp2
  go_ret
  exact⟨by rw[HC.out];rfl,rfl⟩
 ·have HC:Hid (cG a b=1):=by show _=_;unfold cG;rw[if_neg (by omega),if_pos (by omega)]
  have d1:decide (a < b)=false:=decide_eq_false (by omega)
  have d2:decide (b < a)=true:=decide_eq_true h
  clear h
  go_enter func140,ntmps140
  go_wp2
  go_ret
  exact⟨by rw[HC.out];rfl,rfl⟩
theorem DR (a b:Int)(w:World):Calls Pg 141 #[X Y a,X Y b] w fun e w'=>e=rT (X Y (cG a b))∧w=w':=by
 rcases Int.lt_trichotomy a b with h|h|h
 ·have HC:Hid (cG a b=-1):=by show _=_;unfold cG;rw[if_pos (by omega)]
  have d1:decide (a < b)=true:=decide_eq_true h
  clear h
  go_enter func141,ntmps141
  go_wp2
  go_ret
  exact⟨by rw[HC.out];rfl,rfl⟩
 ·subst h
  have HC:Hid (cG a a=0):=by show _=_;unfold cG;rw[if_neg (by omega),if_neg (by omega)]
  have d1:decide (a < a)=false:=decide_eq_false (by omega)
  go_enter func141,ntmps141
  go_wp2
  go_ret
  exact⟨by rw[HC.out];rfl,rfl⟩
 ·have HC:Hid (cG a b=1):=by show _=_;unfold cG;rw[if_neg (by omega),if_pos (by omega)]
  have d1:decide (a < b)=false:=decide_eq_false (by omega)
  have d2:decide (b < a)=true:=decide_eq_true h
  clear h
  go_enter func141,ntmps141
  go_wp2
  go_ret
  exact⟨by rw[HC.out];rfl,rfl⟩
theorem tG (a b:Nat)(w:World):Calls Pg 140 #[X Z a,X Z b] w fun e w'=>e=rT (X Y (cG a b))∧w'=w:=(DN a b w).mono fun _ _ ⟨h,k⟩=>⟨h,k.symm⟩
theorem lX (a b:Int)(w:World):Calls Pg 141 #[X Y a,X Y b] w fun e w'=>e=rT (X Y (cG a b))∧w'=w:=(DR a b w).mono fun _ _ ⟨h,k⟩=>⟨h,k.symm⟩
theorem rE (l:List Int):∀(k:Nat),(∀j x,j < k→l[j]? =some x→x=0)→eO l=eO (l.drop k):=by
 induction l with
 |nil=>intro k _;simp
 |cons x r ih=>
  intro k h
  cases k with
  |zero=>rfl
  |succ k=>
   have h0:x=0:=h 0 x (by omega) rfl
   show (if x≠0 then x else eO r)=eO (r.drop k)
   rw[if_neg (by simpa using h0)]
   exact ih k (fun j y hj hy=>h (j + 1) y (by omega) (by simpa using hy))
theorem DP (b off n c:Nat)(l:List Int)(w:World)(hl:l.length=n)(hn:n≤1000)(hc:∀j x,l[j]? =some x→w.cell? ⟨b,off + j,none⟩=some (X Y x)):
  Calls Pg 139 #[G (some ⟨b,off,none⟩) n c] w fun e w'=>e=rT (X Y (eO l))∧w=w':=by
 have HL:=jH (aI hl (aI hn hc))
 clear hl hc
 go_enter func139,ntmps139
 go_wp2
 go_loopw [8] (fun i wr=>∃k:Nat,k≤n∧i=X Y k∧Hid (∀j x,j < k→l[j]? =some x→x=0)∧wr=w) (fun i _=>n - (intOf i).toNat)
 case atStart=>exact⟨0,by omega,rfl,(fun j x hj=>absurd hj (by omega)),rfl⟩
 case round=>
  obtain⟨k,hk,rfl,hz,rfl⟩:=hrel
  by_cases au:k < n
  ·obtain⟨x,hx⟩:∃x,l[k]? =some x:=⟨l[k]'(by rw[HL.out.1];exact au),List.getElem?_eq_getElem _⟩
   have g0:=HL.out.2.2 k x hx
   have HX:=jH hx
   clear hx
   by_cases hx0:x=0
   ·subst hx0
    go_wp2
    go_roundw
    case rel=>exact⟨k + 1,by omega,by go_num,(fun j y hj hy=>by
     by_cases hjk:j < k
     ·exact hz.out j y hjk hy
     ·have:j=k:=by omega
      subst this
      rw[HX.out] at hy
      injection hy with hy
      exact hy.symm),trivial⟩
    case measure=>simp[intOf];omega
   ·have d1:(x==0)=false:=by rw[beq_eq_false_iff_ne];exact hx0
    have d2:(x !=0)=true:=by rw[bne_iff_ne];exact hx0
    have HO:Hid (eO l=x):=by
     show _=_
     rw[rE l k hz.out]
     obtain⟨h1,h2⟩:=List.getElem?_eq_some_iff.1 HX.out
     rw[List.drop_eq_getElem_cons h1,h2]
     show (if x≠0 then x else _)=x
     rw[if_pos hx0]
    clear hx0
    go_wp2
    go_ret
    exact⟨by rw[HO.out];rfl,rfl⟩
  ·have HO:Hid (eO l=0):=by
    show _=_
    rw[rE l k hz.out,List.drop_of_length_le (by have:=HL.out.1;omega)]
    rfl
   go_wp2
   go_ret
   exact⟨by rw[HO.out];rfl,rfl⟩
theorem tX {w w':World}(h:Below w.heap.size w w')(hd:w.drawn≤w'.drawn):∃q os,w'=Go.Sort.grow (w.drewN q) os:=by
 refine⟨w'.drawn - w.drawn,w'.heap.extract w.heap.size w'.heap.size,?_⟩
 have hh:w'.heap=w.heap++w'.heap.extract w.heap.size w'.heap.size:=by
  apply Array.ext_getElem?
  intro i
  rw[Array.getElem?_append]
  split
  ·rename_i hi
   exact h.block i hi
  ·rename_i hi
   rw[Array.getElem?_extract]
   have:=h.size
   split
   ·congr 1;omega
   ·rw[Array.getElem?_eq_none (by omega)]
 obtain⟨h1,h2,h3,h4,h5⟩:=w'
 have:=h.os
 have:=h.tape
 have:=h.output
 unfold Go.Sort.grow World.drewN
 dsimp only at *
 rw[World.mk.injEq]
 refine⟨hh,‹_›,by omega,‹_›,‹_›⟩
theorem ql (a b:Tu)(w:World):Calls Pg 60 #[.agg a.vals,.agg b.vals] w fun e w'=>e=rT (bL (dY a b))∧Below w.heap.size w w'∧w.drawn≤w'.drawn:=by
 have af:=((bR w.heap.size w).alloc (nR _) (.cells a.vals 39)).alloc (by simp) (.cells b.vals 39)
 have hx:=(ab.new w 39 a.vals).alloc (.cells b.vals 39)
 have hy:ab ((w.alloc (.cells a.vals 39)).alloc (.cells b.vals 39)) (w.heap.size + 1) 39 b.vals:=ab.new_ (by simp)
 have hd2:w.drawn≤((w.alloc (.cells a.vals 39)).alloc (.cells b.vals 39)).drawn:=nR _
 have HL:Hid (dY a b=decide (eO [cG a.src b.src,cG a.dst b.dst,cG a.proto b.proto,cG a.sport b.sport,cG a.dport b.dport] < 0)):=rfl
 obtain⟨s1,d1,p1,sp1,dp1⟩:=a
 obtain⟨s2,d2,p2,sp2,dp2⟩:=b
 unfold Tu.vals at *
 dsimp only at *
 have hs:((w.alloc (cL #[X Z s1,X Z d1,X Y p1,X Y sp1,X Y dp1] 39)).alloc (cL #[X Z s2,X Z d2,X Y p2,X Y sp2,X Y dp2] 39)).heap.size=w.heap.size + 2:=by simp
 go_enter func60,ntmps60
 go_wp2_with fail
 generalize (w.alloc (cL #[X Z s1,X Z d1,X Y p1,X Y sp1,X Y dp1] 39)).alloc (cL #[X Z s2,X Z d2,X Y p2,X Y sp2,X Y dp2] 39)=w2 at *
 refine wp_region_still_tail 25 (by kernel_rfl) (by kernel_rfl) ?_
 change wpStill _ _ (World.drew w2) (fun a'=>wpList _ _ _ _ a' (World.drew w2)) _ _
 have hx3:=hx.drew
 have hy3:=hy.drew
 have al:Below w.heap.size w w2.drew:=af.drew
 have hd3:w.drawn≤w2.drew.drawn:=nT hd2 (nS _)
 have hs3:w2.drew.heap.size=w.heap.size + 2:=hs
 generalize World.drew w2=w3 at *
 obtain⟨x0,x1,x2,x3,x4⟩:=hx3.c5
 obtain⟨y0,y1,y2,y3,y4⟩:=hy3.c5
 simp only[List.take_succ_cons,List.take_zero,List.drop_succ_cons,List.drop_zero]
 have HB:=jH (aI al (aI hd3 hs3))
 clear af hx hy hd2 hs hx3 hy3 al hd3 hs3
 still_step
 still_step
 still_step
 still_step
 still_call (tG s1 s2 w3)
 still_step
 still_step
 still_step
 still_step
 still_call (tG d1 d2 w3)
 still_step
 still_step
 still_step
 still_step
 still_call (lX p1 p2 w3)
 still_step
 still_step
 still_step
 still_step
 still_call (lX sp1 sp2 w3)
 still_step
 still_step
 still_step
 still_step
 still_call (lX dp1 dp2 w3)
 refine wpStill_nil ?_
 clear x0 x1 x2 x3 x4 y0 y1 y2 y3 y4
 obtain⟨c1,h1⟩:∃c,c=cG s1 s2:=⟨_,rfl⟩
 obtain⟨c2,h2⟩:∃c,c=cG d1 d2:=⟨_,rfl⟩
 obtain⟨c3,h3⟩:∃c,c=cG p1 p2:=⟨_,rfl⟩
 obtain⟨c4,h4⟩:∃c,c=cG sp1 sp2:=⟨_,rfl⟩
 obtain⟨c5,h5⟩:∃c,c=cG dp1 dp2:=⟨_,rfl⟩
 have HL2:Hid (dY ⟨s1,d1,p1,sp1,dp1⟩ ⟨s2,d2,p2,sp2,dp2⟩=decide (eO [c1,c2,c3,c4,c5] < 0)):=by rw[h1,h2,h3,h4,h5];exact HL.out
 rw[←h1,←h2,←h3,←h4,←h5]
 clear h1 h2 h3 h4 h5 HL
 have hx5:=ab.new w3 3 #[X Y c1,X Y c2,X Y c3,X Y c4,X Y c5]
 have CO:=jH (DP w3.heap.size 0 5 5 [c1,c2,c3,c4,c5] (w3.alloc (cL #[X Y c1,X Y c2,X Y c3,X Y c4,X Y c5] 3)) rfl (by omega) (fun j x hj=>by
  rw[Nat.zero_add,hx5.cell j]
  match j,hj with
  |0,hj=>injection hj with hj;subst hj;rfl
  |1,hj=>injection hj with hj;subst hj;rfl
  |2,hj=>injection hj with hj;subst hj;rfl
  |3,hj=>injection hj with hj;subst hj;rfl
  |4,hj=>injection hj with hj;subst hj;rfl))
 have HB5:(fun Vv:World=>Hid (Below w.heap.size w Vv∧w.drawn≤Vv.drawn)) (w3.alloc (cL #[X Y c1,X Y c2,X Y c3,X Y c4,X Y c5] 3)):=⟨HB.out.1.alloc (by have:=HB.out.2.2;omega) _,HB.out.2.1⟩
 clear hx5
 generalize eO [c1,c2,c3,c4,c5]=oz at *
 go_wp2_with fail
 refine CO.out.mono ?_
 rintro e w5 ⟨rfl,rfl⟩
 go_wp2_with fail
 go_ret
 exact⟨by rw[HL2.out];rfl,HB5.out.1,HB5.out.2⟩
def be (n aO:Nat):List Nat:=(List.range aO).map fun i=>n / 256 ^ (aO - 1 - i) % 256
theorem be_length (n aO:Nat):(be n aO).length=aO:=by simp[be]
theorem bZ (n aO:Nat):ay (be n aO):=by
 intro x hx
 obtain⟨i,_,rfl⟩:=List.mem_map.1 hx
 exact Nat.mod_lt _ (by omega)
theorem ub (n aO k:Nat)(h:k < aO):(be n aO).take (k + 1)=(be n aO).take k++[n / 256 ^ (aO - 1 - k) % 256]:=by
 rw[List.take_succ_eq_append_getElem (by rw[be_length];exact h)]
 simp[be]
theorem cJ:(Pg.info? 5).map (fun i=>(i.zero,i.size,i.bytes))=some (some (X .u8 0),1,1):=by kernel_rfl
def bh (w:World)(aa p:Nat)(l:List Nat):Prop:=aa≤p∧∃A c,ab w p 251 #[G A l.length c]∧w.ownsRow aa 5 1 (G A l.length c) l.length (bv l)
theorem bh.below {w w':World}{aa p:Nat}{l:List Nat}(h:bh w aa p l)(hb:Below w.heap.size w w'):bh w' aa p l:=by
 obtain⟨h1,A,c,h2,h3⟩:=h
 exact⟨h1,A,c,h2.below hb h2.lt,aJ h3 hb⟩
theorem nu (p aa:Nat)(n aO:Nat)(l:List Nat)(w:World)(hn:n < 18446744073709551616)(hwd:aO≤8)(hl:l.length≤1099511627776)(h:bh w aa p l)(an:aa≤w.heap.size):
  Calls Pg 261 #[PT (some ⟨p,0,none⟩),X .u64 n,X Y aO] w fun e w'=>e=rT (tU #[])∧bh w' aa p (l++be n aO)∧Below aa w w':=by
 go_enter func261,ntmps261
 go_wp2
 go_loopw [10] (fun i wr=>∃k:Nat,k≤aO∧i=X Y k∧bh wr aa p (l++(be n aO).take k)∧Below aa w wr) (fun i _=>aO - (intOf i).toNat)
 case atStart=>exact⟨0,by omega,rfl,by simpa using h,bR _ _⟩
 case round=>
  obtain⟨k,hk,rfl,hwb,hbr⟩:=hrel
  by_cases hkw:k < aO
  ·obtain⟨hbp,A,c,aZ,hown⟩:=hwb
   have hcell:=aZ.cell 0
   have hfr:=aZ.frozen 0
   simp only[ga,gz] at hcell
   have hml:(l++(be n aO).take k).length≤1099511627784:=by rw[List.length_append,List.length_take,be_length];omega
   have HT:=jH (ub n aO k hkw)
   have HT2:Hid (l++(be n aO).take (k + 1)=(l++(be n aO).take k)++[n / 256 ^ (aO - 1 - k) % 256]):=by
    show _=_
    rw[HT.out,List.append_assoc]
   generalize l++(be n aO).take k=m at *
   obtain⟨W,d,hW,hd,hdlt⟩:∃W d:Nat,W + 1=aO∧d + k=W∧d≤7:=⟨aO - 1,aO - 1 - k,by omega,by omega,by omega⟩
   have e1:IntKind.i64.wrap ((aO:Int) - 1)=(W:Int):=by rw[IntWalk.i64_in _ (by omega)];omega
   have e2:IntKind.i64.wrap ((W:Int) - (k:Int))=(d:Int):=by rw[IntWalk.i64_in _ (by omega)];omega
   have e3:IntKind.i64.wrap (8 * (d:Int))=((8 * d:Nat):Int):=by rw[IntWalk.i64_in _ (by omega)];omega
   have hq:n / 256 ^ (aO - 1 - k)=n / 2 ^ (8 * d):=by
    rw[show aO - 1 - k=d from by omega,Nat.pow_mul]
   have hsh:Op.shift BinOp.shr .u64 (n:Int) .i64 ((8 * d:Nat):Int)=pure (X .u64 (n / 2 ^ (8 * d):Nat)):=by
    rw[shift_shr_any _ _ _ _ (by omega)]
    have:min ((8 * d:Nat):Int).toNat IntKind.u64.bits=8 * d:=by rw[Int.toNat_natCast];show min (8 * d) 64=_;omega
    rw[this,Int.natCast_ediv,Int.natCast_pow]
    rfl
   have hql:n / 2 ^ (8 * d) < 18446744073709551616:=Nat.lt_of_le_of_lt (Nat.div_le_self _ _) hn
   rw[hq] at HT2
   generalize n / 2 ^ (8 * d)=q at *
   generalize 8 * d=s8 at *
   clear hq hW hd
   have hwq:IntKind.u8.wrap (q:Int)=((q % 256:Nat):Int):=by rw[IntKind.wrap_u8'];omega
   have hsz:aa≤wr.heap.size:=nT an hbr.size
   have hplt:=aZ.lt
   go_wp2
   go_region_law (refine eL rfl (.tmp 17) (.tmp 26) _ rfl 5 cJ underlying23 aa (G A m.length c) m.length m (by simp[Act.eval,Act.put]) (hown.alloc _) (wr.heap.size + 1) (some ⟨wr.heap.size,0,none⟩) 1 1 [q % 256] (by simp[Act.eval,Act.put]) (dQ _ _ _ _ 1 _ _ (by rfl) (by rfl) (by rfl) _ (by simp[bv])) (m.length + 1) rfl (by omega) (by simp;omega) ?_;intro A1 c1 w1 aQ ae hg1 hat1;have hblk1:ab w1 p 251 #[G A m.length c]:=ab.grown ((aZ.alloc _).drew) hg1 (fun e=>dj hown aZ (by decide) e.symm);have hcell1:=hblk1.cell 0;have hfr1:=hblk1.frozen 0;simp only[ga,gz] at hcell1)
   all_goals
    go_wp2
    go_roundw
    case rel=>
     refine⟨k + 1,by omega,by go_num,⟨hbp,A1,c1,?_,?_⟩,?_⟩
     ·rw[HT2.out,List.length_append]
      exact hblk1.set_ 0 _
     ·rw[HT2.out,List.length_append]
      exact aB aQ hblk1 (by decide) 0 _
     ·exact(hbr.trans (((bR _ _).alloc hsz _).drew.trans ae)).setCell hbp _
    case measure=>simp[intOf];omega
  ·have hkk:k=aO:=by omega
   have hfin:Hid (bh wr aa p (l++be n aO)):=by
    have:=hwb
    rw[hkk,List.take_of_length_le (by rw[be_length];omega)] at this
    exact this
   clear hwb
   go_wp2
   go_end0
   exact⟨rfl,hfin.out,hbr⟩
theorem jm (p aa n:Nat)(l:List Nat)(w:World)(hn:n < 4294967296)(hl:l.length≤1099511627776)(h:bh w aa p l)(an:aa≤w.heap.size):
  Calls Pg 263 #[PT (some ⟨p,0,none⟩),X Z n] w fun e w'=>e=rT (tU #[])∧bh w' aa p (l++be n 4)∧Below aa w w':=by
 have HC:=jH (nu p aa n 4 l w (by omega) (by omega) hl h an)
 go_enter func263,ntmps263
 go_wp2_with fail
 refine HC.out.mono ?_
 rintro e w' ⟨rfl,hwb,aA⟩
 go_wp2_with fail
 go_end0
 exact⟨rfl,hwb,aA⟩
def ai (z:Int):Nat:=(z % 18446744073709551616).toNat
theorem kZ (z:Int):ai z < 18446744073709551616:=by unfold ai;omega
theorem jl (z:Int):IntKind.u64.wrap z=(ai z:Int):=by rw[IntKind.wrap_u64];unfold ai;omega
theorem fF (n:Nat)(h:n < 18446744073709551616):ai (n:Int)=n:=by unfold ai;omega
theorem Ey (n:Nat):be n 1=[n % 256]:=by simp[be]
theorem ua (n:Nat):be n 2=[n / 256 % 256,n % 256]:=by simp[be,List.range_succ]
theorem EC (n:Nat):be n 4=[n / 16777216 % 256,n / 65536 % 256,n / 256 % 256,n % 256]:=by simp[be,List.range_succ]
theorem Ez (n m aO:Nat)(h:n % 256 ^ aO=m % 256 ^ aO):be n aO=be m aO:=by
 unfold be
 apply List.map_congr_left
 intro i hi
 have hi':i < aO:=List.mem_range.1 hi
 have e:256 ^ aO=256 ^ (aO - 1 - i) * (256 * 256 ^ i):=by
  rw[←Nat.mul_assoc,Nat.mul_comm _ 256,Nat.mul_assoc,←Nat.pow_add,←Nat.pow_succ']
  congr 1;omega
 have k:∀x:Nat,x / 256 ^ (aO - 1 - i) % 256=x % 256 ^ aO / 256 ^ (aO - 1 - i) % 256:=by
  intro x
  rw[e,Nat.mod_mul_right_div_self,Nat.mod_mul_right_mod]
 rw[k n,k m,h]
theorem mE (p aa:Nat)(z:Int)(l:List Nat)(w:World)(hl:l.length≤1099511627776)(h:bh w aa p l)(an:aa≤w.heap.size):
  Calls Pg 159 #[PT (some ⟨p,0,none⟩),X Y z] w fun e w'=>e=rT (tU #[])∧bh w' aa p (l++be (ai z) 1)∧Below aa w w':=by
 have HC:=jH (nu p aa (ai z) 1 l w (kZ z) (by omega) hl h an)
 have hw:=jl z
 go_enter func159,ntmps159
 go_wp2_with fail
 refine HC.out.mono ?_
 rintro e w' ⟨rfl,hwb,aA⟩
 go_wp2_with fail
 go_end0
 exact⟨rfl,hwb,aA⟩
theorem iW (p aa:Nat)(z:Int)(l:List Nat)(w:World)(hl:l.length≤1099511627776)(h:bh w aa p l)(an:aa≤w.heap.size):
  Calls Pg 157 #[PT (some ⟨p,0,none⟩),X Y z] w fun e w'=>e=rT (tU #[])∧bh w' aa p (l++be (ai z) 2)∧Below aa w w':=by
 have HC:=jH (nu p aa (ai z) 2 l w (kZ z) (by omega) hl h an)
 have hw:=jl z
 go_enter func157,ntmps157
 go_wp2_with fail
 refine HC.out.mono ?_
 rintro e w' ⟨rfl,hwb,aA⟩
 go_wp2_with fail
 go_end0
 exact⟨rfl,hwb,aA⟩
theorem jO (A:Option Addr)(n c B:Nat)(l:List Nat)(w:World)(hr:Reads w B 1 A n (bv l))(hB:B≤w.heap.size)(hn:n≤140737488355328)(bI:A=none→c=0):
  Calls Pg 266 #[G A n c] w fun e w'=>∃A' c',e=rT (G A' n c')∧w'.ownsRow w.heap.size 5 1 (G A' n c') n (bv l)∧Below w.heap.size w w':=by
 rcases A with _|ad
 ·obtain rfl:=bI rfl
  have h0:n=0:=by
   rcases Nat.eq_zero_or_pos n with h|h
   ·exact h
   ·obtain⟨_,h',_⟩:=hr.2 h
    cases h'
  subst h0
  have hl:l=[]:=List.eq_nil_of_length_eq_zero hr.length
  subst hl
  go_enter func266,ntmps266
  have heq:=fun w:World=>Lib.run_eql_slice_nil (P:=Pg) w 23 5 none 0 0 0 0 underlying23
  go_wp2_with fail
  go_ret
  exact⟨none,0,rfl,World.ownsRow_nil _ _ _ _,bR _ _⟩
 ·go_enter func266,ntmps266
  have heq:=fun w:World=>Lib.run_eql_slice_nil (P:=Pg) w 23 5 (some ad) n c 0 0 underlying23
  go_wp2_with (at_builtin;refine cu ?_)
  refine cw ?_
  refine ee rfl (.tmp 5) (.tmp 6) _ rfl 5 cJ underlying23 w.heap.size (G (some ⟨w.heap.size,0,none⟩) 0 0) 0 [] rfl
   (kr (cs:=#[]) (ab.new_ rfl) (by omega) (by decide) rfl rfl) B (some ad) n c l rfl (hr.alloc hB _) n (by omega) (by omega) (by simp) ?_
  intro A1 c1 w1 aQ hbw1 _ _
  rw[List.nil_append] at aQ
  go_wp2_with fail
  go_ret
  exact⟨A1,c1,rfl,aQ,((bR _ _).alloc (nR _) _).trans hbw1⟩
theorem ia (p aa:Nat)(l:List Nat)(w:World)(h:bh w aa p l)(hl:l.length≤140737488355328):
  Calls Pg 163 #[PT (some ⟨p,0,none⟩)] w fun e w'=>∃A' c',e=rT (G A' l.length c')∧w'.ownsRow w.heap.size 5 1 (G A' l.length c') l.length (bv l)∧Below w.heap.size w w':=by
 obtain⟨hbp,A,c,aZ,hown⟩:=h
 have hcell:=aZ.cell 0
 simp only[ga,gz] at hcell
 have HC:=jH (jO A l.length c w.heap.size l w (Reads.of_own hown) (nR _) hl (fun e=>by
  subst e
  rcases hown.2 with⟨h,_⟩|⟨g,cap,cur,h,_⟩
  ·injection h with _ _ h3
  ·injection h with h1
   cases h1))
 clear hown aZ
 go_enter func163,ntmps163
 go_wp2_with fail
 refine HC.out.mono ?_
 rintro e w' ⟨A',c',rfl,hown,hb⟩
 go_wp2_with fail
 go_ret
 exact⟨A',c',rfl,hown,hb⟩
def iQ (n k j:Nat):Nat:=if 6 - k < j then 48 + n / 10 ^ (6 - j) % 10 else 0
def gC (n k:Nat):List Nat:=[115,iQ n k 1,iQ n k 2,iQ n k 3,iQ n k 4,iQ n k 5,iQ n k 6]
def aN (n:Nat):ByteArray:=eJ (gC n 6)
theorem zg (n k:Nat)(hk:k < 6):(bv (gC n k)).toArray.setIfInBounds (6 - k) (X .u8 (48 + n / 10 ^ k % 10:Nat))=(bv (gC n (k + 1))).toArray:=by
 have:k=0∨k=1∨k=2∨k=3∨k=4∨k=5:=by omega
 rcases this with rfl|rfl|rfl|rfl|rfl|rfl<;>simp[bv,gC,iQ]
theorem gV {w:World}{q n:Nat}{t:TypeId}{xs:List Value}(h:ab w q t xs.toArray)(hn:xs.length=n):Reads w (q + 1) 1 (some ⟨q,0,none⟩) n xs:=by
 refine⟨by omega,fun _=>⟨⟨q,0,none⟩,rfl,by simp,fun j u hu=>?_⟩⟩
 have:(⟨q,0,none⟩:Addr).add j=⟨q,j,none⟩:=by unfold Addr.add;split<;>simp_all
 rw[this,h.cell j]
 simpa using hu
theorem kl (n:Nat)(h1:1≤n)(h2:n < 1000000)(w:World):
  Calls Pg 173 #[X Y n] w fun e w'=>e=rT (.string (aN n))∧Below w.heap.size w w':=by
 have d1:decide ((n:Int) < 1)=false:=decide_eq_false (by omega)
 have d2:decide ((1000000:Int)≤(n:Int))=false:=decide_eq_false (by omega)
 have hmk:∀W:World,(Instr.makeSlice 23 (X Y 7) (X Y 7)).run Pg W=.ok (G (some ⟨W.heap.size,0,none⟩) 7 7) (W.alloc (cL #[X .u8 0,X .u8 0,X .u8 0,X .u8 0,X .u8 0,X .u8 0,X .u8 0] 5)):=fun _=>by kernel_rfl
 obtain⟨q,hq⟩:∃q,q=w.heap.size:=⟨_,rfl⟩
 have hmk1:=hmk w
 rw[←hq] at hmk1
 have ao:=ab.new w 5 #[X .u8 0,X .u8 0,X .u8 0,X .u8 0,X .u8 0,X .u8 0,X .u8 0]
 have hbl0:=(bR q w).alloc (by omega) (cL #[X .u8 0,X .u8 0,X .u8 0,X .u8 0,X .u8 0,X .u8 0,X .u8 0] 5)
 rw[←hq] at ao
 generalize w.alloc (cL #[X .u8 0,X .u8 0,X .u8 0,X .u8 0,X .u8 0,X .u8 0,X .u8 0] 5)=w1 at *
 have c0:=ao.c1
 have f0:=ao.frozen 0
 have l0:=ao.lt
 have H:=jH (aI ao (aI hbl0 hq))
 clear hmk ao hbl0 hq
 go_enter func173,ntmps173
 go_wp2_with fail
 go_loopw [0,4] (fun x i wr=>∃k:Nat,k≤6∧x=X Y (n / 10 ^ k:Nat)∧i=X Y (6 - k:Nat)∧ab wr q 5 (bv (gC n k)).toArray∧Below q w wr) (fun _ i _=>(intOf i).toNat)
 case atStart=>exact⟨0,by omega,by simp,rfl,H.out.1.set_ 0 (X .u8 115),H.out.2.1.setCell (p:=⟨q,0,none⟩) (nR _) _⟩
 case round=>
  obtain⟨k,hk,rfl,rfl,hbk,hbl⟩:=hrel
  by_cases hk6:k < 6
  ·have dO:=zg n k hk6
   have hm:n / 10 ^ k < 1000000:=Nat.lt_of_le_of_lt (Nat.div_le_self _ _) h2
   have hdd:n / 10 ^ (k + 1)=n / 10 ^ k / 10:=by rw[Nat.pow_succ,Nat.div_div_eq_div_mul]
   have HN:=jH hdd
   clear hdd
   generalize hmm:n / 10 ^ k=m at *
   obtain⟨i,hi⟩:∃i,6 - k=i:=⟨_,rfl⟩
   rw[hi] at dO⊢
   have i0:0 < i:=by omega
   have e0:decide ((0:Int) < (i:Int))=true:=decide_eq_true (by omega)
   have e1:(m:Int).tmod 10=((m % 10:Nat):Int):=by rw[Int.tmod_eq_emod_of_nonneg (by omega)];omega
   have e2:IntKind.i64.wrap (48 + ((m % 10:Nat):Int))=((48 + m % 10:Nat):Int):=by rw[IntWalk.i64_in _ (by omega)];omega
   have e3:IntKind.u8.wrap ((48 + m % 10:Nat):Int)=((48 + m % 10:Nat):Int):=by rw[IntKind.wrap_u8'];omega
   have e4:(m:Int).tdiv 10=((m / 10:Nat):Int):=by rw[Int.tdiv_eq_ediv_of_nonneg (by omega)];omega
   have e5:IntKind.i64.wrap ((i:Int) - 1)=((i - 1:Nat):Int):=by rw[IntWalk.i64_in _ (by omega)];omega
   have e6:IntKind.i64.wrap ((m / 10:Nat):Int)=((m / 10:Nat):Int):=by rw[IntWalk.i64_in _ (by omega)]
   have e7:IntKind.i64.wrap ((m % 10:Nat):Int)=((m % 10:Nat):Int):=by rw[IntWalk.i64_in _ (by omega)]
   have hi7:i < 7:=by omega
   obtain⟨x0,gi⟩:∃x0:Int,wr.cell? ⟨q,i,none⟩=some (X .u8 x0):=⟨_,by rw[hbk.cell i,ga,kL (show i < (gC n k).length from by simp[gC];omega)]⟩
   have fi:=hbk.frozen i
   have li:=hbk.lt
   have HB:=jH (aI hbk (aI hbl (aI dO hi)))
   clear hbk hbl dO c0 f0 l0
   go_wp2_with fail
   go_roundw
   case rel=>
    obtain⟨hbk,hbl,dO,hi⟩:=HB.out
    refine⟨k + 1,by omega,?_,?_,?_,hbl.setCell (p:=⟨q,i,none⟩) (nR _) _⟩
    ·rw[HN.out];congr 1
    ·congr 1;omega
    ·have:=hbk.set_ i (X .u8 (48 + (m:Int) % 10))
     rw[←dO]
     have e:((48 + m % 10:Nat):Int)=48 + (m:Int) % 10:=by omega
     rw[e]
     exact this
   case measure=>simp[intOf];omega
  ·have hk0:k=6:=by omega
   subst hk0
   have hcv:=lq (P:=Pg) (c:=7) 23 9 5 underlying23 underlying5 underlying9
    (gV hbk (by simp[bv,gC]):Reads wr (q + 1) 1 (some ⟨q,0,none⟩) 7 (bv (gC n 6))) (by
     intro x hx
     simp[gC,iQ] at hx
     omega)
   have e0:decide ((0:Int) < ((0:Nat):Int))=false:=rfl
   have HE:=jH (aI H.out.2.2 hbl)
   clear hbk hbl c0 f0 l0 H
   simp only[Nat.sub_self] at *
   go_wp2_with fail
   go_ret
   exact⟨rfl,HE.out.1▸HE.out.2⟩
def sQ (L:List (Nat×Array Value)):List Value:=L.map fun p=>Value.func (.func p.1) #[] p.2
theorem pt (L:List (Nat×Array Value))(A:Option Addr)(n c B:Nat)(J:Nat→World→Prop)(w:World)(hn:L.length=n)(hn2:n≤1000)(hL:∀p∈L,∀args w,(callFunc p.1 args).run Pg w=.ok (.enter p.1 args) w)
  (hr:∀i W,J i W→Reads W B 1 A n (sQ L))(hJ:J 0 w)(dO:∀(i:Nat) (hi:i < L.length) (W:World),J i W→Calls Pg L[i].1 L[i].2 W fun e w'=>e=rT (X Y 0)∧J (i + 1) w'):
  Calls Pg 168 #[G A n c] w fun e w'=>e=rT (X Y 0)∧J n w':=by
 go_enter func168,ntmps168
 go_wp2_with fail
 go_loopw [8] (fun i wr=>∃k:Nat,k≤n∧i=X Y k∧J k wr) (fun i _=>n - (intOf i).toNat)
 case atStart=>exact⟨0,by omega,rfl,hJ⟩
 case round=>
  obtain⟨k,hk,rfl,hJk⟩:=hrel
  by_cases hkn:k < n
  ·obtain⟨b,off,e,hb,hc⟩:=(hr k wr hJk).plain (by omega) (by omega)
   have hkl:k < L.length:=by omega
   have hcell:=hc k _ (by unfold sQ;rw[List.getElem?_map,List.getElem?_eq_getElem hkl];rfl)
   have hcall:=dO k hkl wr hJk
   have eg:=hL L[k] (List.getElem_mem hkl)
   generalize L[k]=p at *
   obtain⟨g,lb⟩:=p
   dsimp only at hcell hcall eg
   subst e
   have e3:decide ((k:Int) < (n:Int))=true:=decide_eq_true (by omega)
   clear hc hr dO hL hJ hJk
   go_wp2_with (go_at_fn g;refine hcall.mono ?_;rintro e w' ⟨rfl,hJ'⟩)
   go_roundw
   case rel=>exact⟨k + 1,by omega,by go_num,hJ'⟩
   case measure=>simp[intOf];omega
  ·have hkk:k=n:=by omega
   have e3:decide ((n:Int) < (n:Int))=false:=decide_eq_false (by omega)
   subst hkk
   clear hr dO hL hJ
   go_wp2_with fail
   go_ret
   exact⟨rfl,hJk⟩
def sP (L:List (Nat×Array Value×Array Value)):List Value:=L.map fun p=>Value.func (.func p.1) p.2.1 p.2.2
theorem mi (L:List (Nat×Array Value×Array Value))(A:Option Addr)(n c B:Nat)(J:Nat→World→Prop)(w:World)(hn:L.length=n)(hn2:n≤1000)(hL:∀p∈L,∀args w,(callFunc p.1 args).run Pg w=.ok (.enter p.1 args) w)
  (hr:∀i W,J i W→Reads W B 1 A n (sP L))(hJ:J 0 w)(dO:∀(i:Nat) (hi:i < L.length) (W:World),J i W→Calls Pg L[i].1 (L[i].2.1++L[i].2.2) W fun e w'=>e=rT (X Y 0)∧J (i + 1) w'):
  Calls Pg 168 #[G A n c] w fun e w'=>e=rT (X Y 0)∧J n w':=by
 go_enter func168,ntmps168
 go_wp2_with fail
 go_loopw [8] (fun i wr=>∃k:Nat,k≤n∧i=X Y k∧J k wr) (fun i _=>n - (intOf i).toNat)
 case atStart=>exact⟨0,by omega,rfl,hJ⟩
 case round=>
  obtain⟨k,hk,rfl,hJk⟩:=hrel
  by_cases hkn:k < n
  ·obtain⟨b,off,e,hb,hc⟩:=(hr k wr hJk).plain (by omega) (by omega)
   have hkl:k < L.length:=by omega
   have hcell:=hc k _ (by unfold sP;rw[List.getElem?_map,List.getElem?_eq_getElem hkl];rfl)
   have hcall:=dO k hkl wr hJk
   have eg:=hL L[k] (List.getElem_mem hkl)
   generalize L[k]=p at *
   obtain⟨g,pre,lb⟩:=p
   dsimp only at hcell hcall eg
   subst e
   have e3:decide ((k:Int) < (n:Int))=true:=decide_eq_true (by omega)
   clear hc hr dO hL hJ hJk
   go_wp2_with (go_at_fn g;refine hcall.mono ?_;rintro e w' ⟨rfl,hJ'⟩)
   go_roundw
   case rel=>exact⟨k + 1,by omega,by go_num,hJ'⟩
   case measure=>simp[intOf];omega
  ·have hkk:k=n:=by omega
   have e3:decide ((n:Int) < (n:Int))=false:=decide_eq_false (by omega)
   subst hkk
   clear hr dO hL hJ
   go_wp2_with fail
   go_ret
   exact⟨rfl,hJk⟩
theorem l9 (aa d mn ms:Nat)(D:aF)(w:World)(h:ar w aa d mn ms D)(aP:D.ops≤900000000000):
  Calls Pg 309 #[PT (some ⟨d,0,none⟩)] w fun e w'=>e=rT (X Y (dH D).1)∧ar w' aa d mn ms (dH D).2∧Fr [102] [] aa w w':=by
 obtain⟨cv,hb,hc⟩:=h.blk
 obtain⟨-,-,-,-,c4,c5⟩:=hb.c6
 obtain⟨-,-,-,-,f4,f5⟩:=hb.f6
 have ew:IntKind.i64.wrap ((D.ops:Int) + 1)=((D.ops + 1:Nat):Int):=by rw[IntWalk.i64_in _ (by omega)];omega
 have H:=jH (aI h (aI hb hc))
 by_cases he:D.ops + 1=D.fail
 ·have hP:Hid (dH D=(8,{D with ops:=D.ops + 1,fail:=0})):=by show _=_;unfold dH;rw[if_pos he]
  have hbe:(((D.ops + 1:Nat):Int)==(D.fail:Int))=true:=by simp;omega
  obtain⟨n,hn⟩:∃n,n=D.ops + 1:=⟨_,rfl⟩
  rw[←hn] at ew hbe
  have hn':=jH hn
  generalize hfa:(D.fail:Int)=fa at *
  clear h hb hc he hn
  go_enter func309,ntmps309
  go_wp2_with fail
  go_quiet (fail)
  go_wp2_with fail
  go_ret
  obtain⟨h,hb,hc⟩:=H.out
  rw[hP.out,←hn'.out]
  have af:=(((hb.set_ 4 (X Y n)).drewN nq).set_ 5 (X Y 0))
  have hf:=(((Fr.refl [102] [] aa w).set_ hb (by simp) h.lod 4 (X Y n)).drewN nq).set_ ((hb.set_ 4 (X Y n)).drewN nq) (by simp) h.lod 5 (X Y 0)
  exact⟨rfl,h.turn n 0 cv af hc hf (by have:=hn'.out;omega) (by omega),hf⟩
 ·have hP:Hid (dH D=(0,{D with ops:=D.ops + 1})):=by show _=_;unfold dH;rw[if_neg he]
  have hbe:(((D.ops + 1:Nat):Int)==(D.fail:Int))=false:=by simp;omega
  obtain⟨n,hn⟩:∃n,n=D.ops + 1:=⟨_,rfl⟩
  rw[←hn] at ew hbe
  have hn':=jH hn
  obtain⟨fa,hfa⟩:∃fa:Int,(D.fail:Int)=fa:=⟨_,rfl⟩
  rw[hfa] at c5 hbe
  have hfa':=jH hfa
  clear h hb hc he hn hfa
  go_enter func309,ntmps309
  go_wp2_with fail
  go_quiet (fail)
  go_wp2_with fail
  go_ret
  obtain⟨h,hb,hc⟩:=H.out
  rw[hP.out,←hn'.out]
  have af:=(hb.set_ 4 (X Y n)).drewN nq
  have hf:=((Fr.refl [102] [] aa w).set_ hb (by simp) h.lod 4 (X Y n)).drewN nq
  exact⟨rfl,h.turn n D.fail cv af hc hf (by have:=hn'.out;omega) h.failB,hf⟩
def fJ (s:ByteArray):Bool:=decide (1≤s.size∧s.size≤16)
theorem nM (s:ByteArray)(w:World):Calls Pg 394 #[.string s] w fun e w'=>e=rT (bL (fJ s))∧w=w':=by
 by_cases h1:1≤s.size
 ·by_cases h2:s.size≤16
  ·have H:Hid (fJ s=true):=decide_eq_true ⟨h1,h2⟩
   have d1:decide ((1:Int)≤(s.size:Int))=true:=decide_eq_true (by omega)
   have d2:decide ((s.size:Int)≤16)=true:=decide_eq_true (by omega)
   go_enter func394,ntmps394
   go_wp2_with fail
   go_ret
   exact⟨by rw[H.out];rfl,rfl⟩
  ·have H:Hid (fJ s=false):=decide_eq_false (by omega)
   have d1:decide ((1:Int)≤(s.size:Int))=true:=decide_eq_true (by omega)
   have d2:decide ((s.size:Int)≤16)=false:=decide_eq_false (by omega)
   go_enter func394,ntmps394
   go_wp2_with fail
   go_ret
   exact⟨by rw[H.out];rfl,rfl⟩
 ·have H:Hid (fJ s=false):=decide_eq_false (by omega)
  have d1:decide ((1:Int)≤(s.size:Int))=false:=decide_eq_false (by omega)
  go_enter func394,ntmps394
  go_wp2_with fail
  go_ret
  exact⟨by rw[H.out];rfl,rfl⟩
def gd (fs:List (Nat×bM))(f:Nat):Nat:=match av fs f with|some p=>p.b.length|none=>0
def eI (fs:List (Nat×bM))(l:List (ByteArray×Nat)):Nat:=(l.map fun p=>gd fs p.2).sum
def dM (D:aF):Nat:=eI D.fs D.now
theorem sW {w:World}{aa:Nat}{fs:List (Nat×bM)}(h:gR w aa fs)(f:Nat):gd fs f≤1048576:=by
 unfold gd
 cases hm:av fs f with
 |none=>simp
 |some p=>
  obtain⟨R,hR,_⟩:=h
  exact(hR f p hm).2.2.2.2.1
theorem vJ {fs:List (Nat×bM)}{l l':List (ByteArray×Nat)}(h:l.Perm l'):eI fs l=eI fs l':=(h.map _).sum_nat
theorem nc (fs:List (Nat×bM))(p:ByteArray×Nat)(l:List (ByteArray×Nat)):eI fs (p::l)=gd fs p.2 + eI fs l:=by simp[eI]
theorem lk {w:World}{aa:Nat}{fs:List (Nat×bM)}(h:gR w aa fs):∀l:List (ByteArray×Nat),eI fs l≤l.length * 1048576
 |[]=>by simp[eI]
 |p::l=>by
  have:=lk h l
  have:=sW h p.2
  rw[nc,List.length_cons]
  omega
theorem jc {κ ν:Type}[DecidableEq κ]{m:List (κ×ν)}{x:κ}(h:x∈aU m):∃v,av m x=some v:=by
 cases hg:av m x with
 |some v=>exact⟨v,rfl⟩
 |none=>
  obtain⟨p,hp,hpx⟩:=List.mem_map.1 h
  exact absurd hpx (nX.1 hg p hp)
theorem ar.file {w:World}{aa d mn ms:Nat}{D:aF}(h:ar w aa d mn ms D){f:Nat}(hf:f∈aU D.fs):∃A n c p,av D.fs f=some p∧p.b.length=n∧gd D.fs f=n∧aa≤f∧ab w f 111 #[G A n c,X Y p.sure]∧w.ownsRow aa 5 1 (G A n c) n (bv p.b):=by
 obtain⟨p,hp⟩:=jc hf
 obtain⟨R,hR,_⟩:=h.files
 obtain⟨a1,a2,a3,a4,a5⟩:=hR f p hp
 obtain⟨A,c,e⟩:=cV a3
 rw[e] at a2 a3
 exact⟨A,p.b.length,c,p,hp,rfl,by unfold gd;rw[hp],a1,a2,a3⟩
theorem qP (aa d mn ms:Nat)(D:aF)(w:World)(h:ar w aa d mn ms D)(hn:D.now.length≤100000):
  Calls Pg 440 #[PT (some ⟨d,0,none⟩)] w fun e w'=>e=rT (X Y (dM D))∧Below w.heap.size w w':=by
 obtain⟨cv,hb,hc⟩:=h.blk
 obtain⟨-,c1⟩:=hb.c2
 obtain⟨w1,hrange,hit,ae,hs1⟩:=h.now.range (P:=Pg) (t:=97) underlying97
 have H:=jH (aI h (aI hit ae))
 clear h hb hc hit ae hs1
 go_enter func440,ntmps440
 go_wp2_with fail
 go_loopg [3,5] D.now.length (fun gk s f wr=>∃(left:List (ByteArray×Nat)) (a:Nat),left.length=gk∧s=X Y a∧Hid (a + eI D.fs left=dM D)∧fC wr Value.string aY aW w.heap.size mn D.now left∧Below w.heap.size w wr)
 case atStart=>exact⟨D.now,0,rfl,rfl,by show _=_;unfold dM;omega,H.out.2.1,H.out.2.2⟩
 case round=>
  obtain⟨left,a,hgk,rfl,hsum,hit,hbr⟩:=hrel
  have hhD:=H.out.1.made hbr
  rcases hit.next (P:=Pg) 0 with⟨bI,hrun0⟩|⟨p,left',w2,cK,hpm,hrun0,hit2,cQ,hs2,hent⟩
  ·have hrun:∀ty,(Instr.next (PT (some ⟨w.heap.size,0,none⟩)) false ty).run Pg wr=.ok (tU #[bL false]) wr:=fun ty=>hrun0
   have HR:Hid (a=dM D):=by show _=_;rw[←hsum.out,bI];simp[eI]
   clear hrun0 bI hgk hit hhD c1 hrange
   go_wp2_with fail
   go_ret
   exact⟨by rw[HR.out];rfl,hbr⟩
  ·have hrun:∀ty,(Instr.next (PT (some ⟨w.heap.size,0,none⟩)) false ty).run Pg wr=.ok (tU #[bL true,.string p.1,aW p.2]) w2:=fun ty=>hrun0
   have af:Below w.heap.size w w2:=hbr.trans (cQ.below (nR _) hbr.size)
   have hD2:=H.out.1.made af
   obtain⟨A,n,c,pf,hpf,hpl,hfl,an,hfb,hfo⟩:=hD2.file (hD2.nowIn p hpm)
   have c0:=hfb.c1
   have hsz:dM D≤100000 * 1048576:=nT (lk hD2.files D.now) (Nat.mul_le_mul_right _ hn)
   have hs3:a + (n + eI D.fs left')=dM D:=by
    have:=hsum.out
    rw[vJ cK,nc,hfl] at this
    exact this
   have ew:IntKind.i64.wrap ((a:Int) + (n:Int))=((a + n:Nat):Int):=by rw[IntWalk.i64_in _ (by omega)];omega
   have ax:left'.length + 1=gk:=by rw[←hgk,cK.length_eq];rfl
   have HS:Hid (a + n + eI D.fs left'=dM D):=by show _=_;omega
   have HL:=jH ax
   have HI:=jH (aI hit2 af)
   unfold aW at hrun hent
   clear hrun0 hgk hit hhD c1 hrange hsum hs3 ax hit2 af hD2 hfo hfb hpf hpl an hfl hsz cK hpm cQ hs2 hbr
   go_wp2_with fail
   go_roundg (gk - 1)
   case measure=>have:=HL.out;omega
   case rel=>exact⟨left',a + n,by have:=HL.out;omega,rfl,HS,HI.out.1,HI.out.2⟩
end
section
section
variable {κ ν:Type}[DecidableEq κ]{m:List (κ×ν)}{x y:κ}{v:ν}
theorem dX (p:κ×ν)(m:List (κ×ν))(x:κ):av (p::m) x=if p.1=x then some p.2 else av m x:=by
 unfold av
 by_cases h:p.1=x
 ·rw[if_pos h,List.find?_cons_of_pos (by simpa using h)];rfl
 ·rw[if_neg h,List.find?_cons_of_neg (by simpa using h)]
theorem rS (m1 m2:List (κ×ν))(x:κ):av (m1++m2) x=(av m1 x).or (av m2 x):=by
 induction m1 with
 |nil=>simp[av]
 |cons p r ih=>
  rw[List.cons_append,dX,dX,ih]
  split<;>simp
theorem eP (m:List (κ×ν))(x:κ)(v:ν):av (aw m x v) x=some v:=by
 unfold aw
 by_cases h:m.any (fun p=>p.1=x)=true
 ·rw[if_pos h]
  induction m with
  |nil=>simp at h
  |cons p r ih=>
   rw[List.map_cons,dX]
   by_cases hp:p.1=x
   ·simp[hp]
   ·rw[if_neg hp,if_neg hp]
    exact ih (by simpa [hp] using h)
 ·rw[if_neg h,rS,lK (m:=m) (fun p hp e=>h (List.any_eq_true.2 ⟨p,hp,by simpa using e⟩)),dX]
  simp
theorem eQ (m:List (κ×ν))(v:ν)(h:y≠x):av (aw m x v) y=av m y:=by
 unfold aw
 by_cases ha:m.any (fun p=>p.1=x)=true
 ·rw[if_pos ha]
  clear ha
  induction m with
  |nil=>rfl
  |cons p r ih=>
   rw[List.map_cons,dX,dX,ih]
   by_cases hp:p.1=x
   ·rw[if_pos hp]
    have:¬p.1=y:=fun e=>h (e.symm.trans hp)
    simp[this,Ne.symm h]
   ·rw[if_neg hp]
 ·rw[if_neg ha,rS,dX,if_neg (Ne.symm h)]
  simp[av]
theorem rP (m:List (κ×ν))(x:κ)(v:ν):aU (aw m x v)=if x∈aU m then aU m else aU m++[x]:=by
 unfold aw
 by_cases ha:m.any (fun p=>p.1=x)=true
 ·have hx:x∈aU m:=by
   obtain⟨p,hp,e⟩:=List.any_eq_true.1 ha
   exact List.mem_map.2 ⟨p,hp,by simpa using e⟩
  rw[if_pos ha,if_pos hx]
  unfold aU
  rw[List.map_map]
  apply List.map_congr_left
  intro p hp
  simp only[Function.comp]
  split
  ·rename_i e;exact e.symm
  ·rfl
 ·have hx:¬x∈aU m:=fun hx=>by
   obtain⟨p,hp,e⟩:=List.mem_map.1 hx
   exact ha (List.any_eq_true.2 ⟨p,hp,by simpa using e⟩)
  rw[if_neg ha,if_neg hx]
  simp[aU]
theorem iq {z:κ}:z∈aU (aw m x v)↔z∈aU m∨z=x:=by
 rw[rP]
 split
 ·rename_i h
  exact⟨Or.inl,fun h'=>h'.elim id (fun e=>e▸h)⟩
 ·simp
theorem zh (h:(aU m).Nodup):(aU (aw m x v)).Nodup:=by
 rw[rP]
 split
 ·exact h
 ·rename_i hx
  exact List.nodup_append.2 ⟨h,by simp,fun a ha b hb e=>hx (by rw[List.mem_singleton.1 hb] at e;exact e▸ha)⟩
theorem rU {p:κ×ν}(h:p∈fM m x):p∈m:=(List.mem_filter.1 h).1
theorem nN {p:κ×ν}(h:p∈aw m x v):p∈m∨p=(x,v):=by
 unfold aw at h
 split at h
 ·obtain⟨q,hq,rfl⟩:=List.mem_map.1 h
  split
  ·exact .inr rfl
  ·exact .inl hq
 ·rcases List.mem_append.1 h with h|h
  ·exact .inl h
  ·exact .inr (List.mem_singleton.1 h)
theorem rN (m:List (κ×ν))(x:κ)(v:ν):(aw m x v).length≤m.length + 1:=by
 unfold aw
 split<;>simp
end
end
section
open Go.RowKit
def iM (D:aF)(f:Option Nat):Nat:=match f with|some g=>gd D.fs g|none=>0
def db (D:aF)(f:Option Nat)(n:Nat):Bool:=decide (dM D≤D.quota∧n + dM D≤D.quota∧n + iM D f≤1048576)&&(f.isSome||decide (D.now.length < 200))
theorem xC (aa d mn ms:Nat)(D:aF)(w:World)(h:ar w aa d mn ms D)(hn:D.now.length≤100000)(f n:Nat)(hf:f∈aU D.fs)(hnb:n≤1000000000):
  Calls Pg 395 #[PT (some ⟨d,0,none⟩),PT (some ⟨f,0,none⟩),X Y n] w fun e w'=>e=rT (bL (db D (some f) n))∧Below w.heap.size w w':=by
 have CS:=jH (qP aa d mn ms D w h hn)
 have hszb:dM D≤100000 * 1048576:=nT (lk h.files D.now) (Nat.mul_le_mul_right _ hn)
 obtain⟨A,k,c,pf,hpf,hpl,hfl,an,hfb,hfo⟩:=h.file hf
 have hkl:k≤1048576:=by rw[←hfl];exact sW h.files f
 have hR:db D (some f) n=decide (dM D≤D.quota∧n + dM D≤D.quota∧n + k≤1048576):=by unfold db iM;simp[hfl]
 have g0:=hfb.c1
 obtain⟨cv,hb,hc⟩:=h.blk
 have hq:=h.quotaB
 have aV:=h.now
 obtain⟨r,hr⟩:∃r,db D (some f) n=r:=⟨_,rfl⟩
 rw[hr] at hR⊢
 clear hr
 generalize dM D=s at *
 obtain⟨q,hqq⟩:∃q,D.quota=q:=⟨_,rfl⟩
 rw[hqq] at hb hq hR
 have H:=jH (aI hb aV)
 clear h hpf hpl hfl an hfb hfo hf hc hqq hb aV
 by_cases h1:s≤q
 case neg=>
  have d1:decide ((q:Int) < (s:Int))=true:=decide_eq_true (by omega)
  have HR:Hid (r=false):=hR.trans (decide_eq_false (by omega))
  clear hR
  go_enter func395,ntmps395
  go_wp2_with fail
  refine CS.out.mono ?_
  rintro e w1 ⟨rfl,ae⟩
  have hq0:=(H.out.1.below ae H.out.1.lt).c1
  clear g0
  go_wp2_with fail
  go_ret
  exact⟨by rw[HR.out];rfl,ae⟩
 by_cases h2:n + s≤q
 case neg=>
  have e1:IntKind.i64.wrap ((q:Int) - (s:Int))=((q - s:Nat):Int):=by rw[IntWalk.i64_in _ (by omega)];omega
  have d1:decide ((q:Int) < (s:Int))=false:=decide_eq_false (by omega)
  have d2:decide (((q - s:Nat):Int) < (n:Int))=true:=decide_eq_true (by omega)
  have HR:Hid (r=false):=hR.trans (decide_eq_false (by omega))
  clear hR
  go_enter func395,ntmps395
  go_wp2_with fail
  refine CS.out.mono ?_
  rintro e w1 ⟨rfl,ae⟩
  have hq0:=(H.out.1.below ae H.out.1.lt).c1
  clear g0
  go_wp2_with fail
  go_ret
  exact⟨by rw[HR.out];rfl,ae⟩
 by_cases h3:n + k≤1048576
 case neg=>
  have e1:IntKind.i64.wrap ((q:Int) - (s:Int))=((q - s:Nat):Int):=by rw[IntWalk.i64_in _ (by omega)];omega
  have e2:IntKind.i64.wrap (1048576 - (k:Int))=((1048576 - k:Nat):Int):=by rw[IntWalk.i64_in _ (by omega)];omega
  have d1:decide ((q:Int) < (s:Int))=false:=decide_eq_false (by omega)
  have d2:decide (((q - s:Nat):Int) < (n:Int))=false:=decide_eq_false (by omega)
  have d3:decide (((1048576 - k:Nat):Int) < (n:Int))=true:=decide_eq_true (by omega)
  have HR:Hid (r=false):=hR.trans (decide_eq_false (by omega))
  clear hR
  go_enter func395,ntmps395
  go_wp2_with fail
  refine CS.out.mono ?_
  rintro e w1 ⟨rfl,ae⟩
  have hq0:=(H.out.1.below ae H.out.1.lt).c1
  clear g0
  go_wp2_with fail
  go_ret
  exact⟨by rw[HR.out];rfl,ae⟩
 have e1:IntKind.i64.wrap ((q:Int) - (s:Int))=((q - s:Nat):Int):=by rw[IntWalk.i64_in _ (by omega)];omega
 have e2:IntKind.i64.wrap (1048576 - (k:Int))=((1048576 - k:Nat):Int):=by rw[IntWalk.i64_in _ (by omega)];omega
 have d1:decide ((q:Int) < (s:Int))=false:=decide_eq_false (by omega)
 have d2:decide (((q - s:Nat):Int) < (n:Int))=false:=decide_eq_false (by omega)
 have d3:decide (((1048576 - k:Nat):Int) < (n:Int))=false:=decide_eq_false (by omega)
 have HR:Hid (r=true):=hR.trans (decide_eq_true (by omega))
 clear hR
 go_enter func395,ntmps395
 go_wp2_with fail
 refine CS.out.mono ?_
 rintro e w1 ⟨rfl,ae⟩
 have hq0:=(H.out.1.below ae H.out.1.lt).c1
 clear g0
 go_wp2_with fail
 go_ret
 exact⟨by rw[HR.out];rfl,ae⟩
theorem xD (aa d mn ms:Nat)(D:aF)(w:World)(h:ar w aa d mn ms D)(hn:D.now.length≤100000)(n:Nat)(hnb:n≤1000000000):
  Calls Pg 395 #[PT (some ⟨d,0,none⟩),PT none,X Y n] w fun e w'=>e=rT (bL (db D none n))∧Below w.heap.size w w':=by
 have CS:=jH (qP aa d mn ms D w h hn)
 have hszb:dM D≤100000 * 1048576:=nT (lk h.files D.now) (Nat.mul_le_mul_right _ hn)
 have hR:db D none n=decide (dM D≤D.quota∧n + dM D≤D.quota∧n≤1048576∧D.now.length < 200):=by
  unfold db iM
  rw[Bool.eq_iff_iff]
  simp[and_assoc]
 obtain⟨cv,hb,hc⟩:=h.blk
 have hq:=h.quotaB
 have aV:=h.now
 obtain⟨r,hr⟩:∃r,db D none n=r:=⟨_,rfl⟩
 rw[hr] at hR⊢
 clear hr
 generalize dM D=s at *
 obtain⟨q,hqq⟩:∃q,D.quota=q:=⟨_,rfl⟩
 rw[hqq] at hb hq hR
 have H:=jH (aI hb aV)
 clear h hc hqq hb aV
 by_cases h1:s≤q
 case neg=>
  have d1:decide ((q:Int) < (s:Int))=true:=decide_eq_true (by omega)
  have HR:Hid (r=false):=hR.trans (decide_eq_false (by omega))
  clear hR
  go_enter func395,ntmps395
  go_wp2_with fail
  refine CS.out.mono ?_
  rintro e w1 ⟨rfl,ae⟩
  obtain⟨hq0,hq1⟩:=(H.out.1.below ae H.out.1.lt).c2
  have hml:=(H.out.2.below ae H.out.2.lt).len (P:=Pg) (t:=97) (ty:=3) underlying97
  go_wp2_with fail
  go_ret
  exact⟨by rw[HR.out];rfl,ae⟩
 by_cases h2:n + s≤q
 case neg=>
  have e1:IntKind.i64.wrap ((q:Int) - (s:Int))=((q - s:Nat):Int):=by rw[IntWalk.i64_in _ (by omega)];omega
  have d1:decide ((q:Int) < (s:Int))=false:=decide_eq_false (by omega)
  have d2:decide (((q - s:Nat):Int) < (n:Int))=true:=decide_eq_true (by omega)
  have HR:Hid (r=false):=hR.trans (decide_eq_false (by omega))
  clear hR
  go_enter func395,ntmps395
  go_wp2_with fail
  refine CS.out.mono ?_
  rintro e w1 ⟨rfl,ae⟩
  obtain⟨hq0,hq1⟩:=(H.out.1.below ae H.out.1.lt).c2
  have hml:=(H.out.2.below ae H.out.2.lt).len (P:=Pg) (t:=97) (ty:=3) underlying97
  go_wp2_with fail
  go_ret
  exact⟨by rw[HR.out];rfl,ae⟩
 by_cases h3:n + 0≤1048576
 case neg=>
  have e1:IntKind.i64.wrap ((q:Int) - (s:Int))=((q - s:Nat):Int):=by rw[IntWalk.i64_in _ (by omega)];omega
  have d1:decide ((q:Int) < (s:Int))=false:=decide_eq_false (by omega)
  have d2:decide (((q - s:Nat):Int) < (n:Int))=false:=decide_eq_false (by omega)
  have d3:decide ((1048576:Int) < (n:Int))=true:=decide_eq_true (by omega)
  have HR:Hid (r=false):=hR.trans (decide_eq_false (by omega))
  clear hR
  go_enter func395,ntmps395
  go_wp2_with fail
  refine CS.out.mono ?_
  rintro e w1 ⟨rfl,ae⟩
  obtain⟨hq0,hq1⟩:=(H.out.1.below ae H.out.1.lt).c2
  have hml:=(H.out.2.below ae H.out.2.lt).len (P:=Pg) (t:=97) (ty:=3) underlying97
  go_wp2_with fail
  go_ret
  exact⟨by rw[HR.out];rfl,ae⟩
 by_cases h4:D.now.length < 200
 case neg=>
  have e1:IntKind.i64.wrap ((q:Int) - (s:Int))=((q - s:Nat):Int):=by rw[IntWalk.i64_in _ (by omega)];omega
  have d1:decide ((q:Int) < (s:Int))=false:=decide_eq_false (by omega)
  have d2:decide (((q - s:Nat):Int) < (n:Int))=false:=decide_eq_false (by omega)
  have d3:decide ((1048576:Int) < (n:Int))=false:=decide_eq_false (by omega)
  have d4:decide ((D.now.length:Int) < 200)=false:=decide_eq_false (by omega)
  have HR:Hid (r=false):=hR.trans (decide_eq_false (by omega))
  clear hR
  go_enter func395,ntmps395
  go_wp2_with fail
  refine CS.out.mono ?_
  rintro e w1 ⟨rfl,ae⟩
  obtain⟨hq0,hq1⟩:=(H.out.1.below ae H.out.1.lt).c2
  have hml:=(H.out.2.below ae H.out.2.lt).len (P:=Pg) (t:=97) (ty:=3) underlying97
  go_wp2_with fail
  go_ret
  exact⟨by rw[HR.out];rfl,ae⟩
 have e1:IntKind.i64.wrap ((q:Int) - (s:Int))=((q - s:Nat):Int):=by rw[IntWalk.i64_in _ (by omega)];omega
 have d1:decide ((q:Int) < (s:Int))=false:=decide_eq_false (by omega)
 have d2:decide (((q - s:Nat):Int) < (n:Int))=false:=decide_eq_false (by omega)
 have d3:decide ((1048576:Int) < (n:Int))=false:=decide_eq_false (by omega)
 have d4:decide ((D.now.length:Int) < 200)=true:=decide_eq_true (by omega)
 have HR:Hid (r=true):=hR.trans (decide_eq_true (by omega))
 clear hR
 go_enter func395,ntmps395
 go_wp2_with fail
 refine CS.out.mono ?_
 rintro e w1 ⟨rfl,ae⟩
 obtain⟨hq0,hq1⟩:=(H.out.1.below ae H.out.1.lt).c2
 have hml:=(H.out.2.below ae H.out.2.lt).len (P:=Pg) (t:=97) (ty:=3) underlying97
 go_wp2_with fail
 go_ret
 exact⟨by rw[HR.out];rfl,ae⟩
theorem kH {w':World}{aa:Nat}{fs:List (Nat×bM)}{R:Nat→Value}(f:Nat)(v':Value)(p':bM)
  (hkB:∀g p,av fs g=some p→g≠f→aa≤g∧ab w' g 111 #[R g,X Y p.sure]∧w'.ownsRow aa 5 1 (R g) p.b.length (bv p.b)∧p.sure≤p.b.length∧p.b.length≤1048576∧ay p.b)
  (hd:∀g k p q,av fs g=some p→av fs k=some q→g≠k→(R g).ownBlock=none∨(R g).ownBlock≠(R k).ownBlock)
  (an:aa≤f)(hb:ab w' f 111 #[v',X Y p'.sure])(ho:w'.ownsRow aa 5 1 v' p'.b.length (bv p'.b))(hs:p'.sure≤p'.b.length)(hl:p'.b.length≤1048576)(ha:ay p'.b)
  (hdis:∀g p,av fs g=some p→g≠f→(R g).ownBlock=none∨(R g).ownBlock≠v'.ownBlock):gR w' aa (aw fs f p'):=by
 refine⟨fun g=>if g=f then v' else R g,fun g p hp=>?_,fun g k p q hp hq az=>?_⟩
 ·by_cases e:g=f
  ·subst e
   rw[eP] at hp
   injection hp with hp
   subst hp
   simp only[if_true]
   exact⟨an,hb,ho,hs,hl,ha⟩
  ·rw[eQ _ _ e] at hp
   simp only[if_neg e]
   exact hkB g p hp e
 ·by_cases eg:g=f
  ·subst eg
   have ek:k≠g:=Ne.symm az
   rw[eQ _ _ ek] at hq
   simp only[if_true,if_neg ek]
   have:=hdis k q hq ek
   cases hv:v'.ownBlock with
   |none=>exact .inl rfl
   |some x=>
    right
    rcases this with h|h
    ·rw[h];simp
    ·rw[hv] at h
     exact fun e=>h e.symm
  ·rw[eQ _ _ eg] at hp
   by_cases ek:k=f
   ·subst ek
    simp only[if_true,if_neg eg]
    exact hdis g p hp eg
   ·rw[eQ _ _ ek] at hq
    simp only[if_neg eg,if_neg ek]
    exact hd g k p q hp hq az
def gG (D:aF)(name:ByteArray):Option Nat×Int×aF:=
 match dH D with
 |(e,D1)=>if e=0 then (match av D1.now name with|some f=>(some f,0,D1)|none=>(none,6,D1)) else (none,e,D1)
theorem tZ (D:aF):(dH D).1=0∨(dH D).1=8:=by unfold dH;split<;>simp
theorem oP (aa d mn ms:Nat)(D:aF)(name:ByteArray)(w:World)(h:ar w aa d mn ms D)(aP:D.ops≤900000000000)(dv:aY name):
  Calls Pg 277 #[PT (some ⟨d,0,none⟩),.string name] w fun e w'=>e=rT (tU #[fc (gG D name).1,X Y (gG D name).2.1])∧ar w' aa d mn ms (gG D name).2.2∧Fr [102] [] aa w w':=by
 have CB:=jH (l9 aa d mn ms D w h aP)
 have hF:gG D name=match dH D with|(e,D1)=>if e=0 then (match av D1.now name with|some f=>(some f,0,D1)|none=>(none,6,D1)) else (none,e,D1):=rfl
 obtain⟨r,hr⟩:∃r,gG D name=r:=⟨_,rfl⟩
 have hcs:=tZ D
 obtain⟨⟨eb,D1⟩,hbp⟩:∃b,dH D=b:=⟨_,rfl⟩
 rw[hr,hbp] at hF
 rw[hr]
 rw[hbp] at CB hcs
 dsimp only at CB hF hcs
 clear hr hbp
 rcases hcs with rfl|rfl
 ·rw[if_pos rfl] at hF
  go_enter func277,ntmps277
  go_wp2_with fail
  refine CB.out.mono ?_
  rintro e w1 ⟨rfl,hD1,hf1⟩
  obtain⟨cv,hb,hc⟩:=hD1.blk
  obtain⟨-,c1⟩:=hb.c2
  have hlk:=hD1.now.lookup (P:=Pg) encS (t:=97) underlying97 (z:=PT none) (by kernel_rfl) name dv false
  have H:=jH (aI hD1 hf1)
  clear hD1 hf1 hb hc CB
  cases hm:av D1.now name with
  |none=>
   rw[hm] at hF hlk
   have HF:=jH hF
   simp only[Bool.false_eq_true,if_false] at hlk
   clear hF hm
   go_wp2_with fail
   go_ret2
   exact⟨by rw[HF.out];rfl,by rw[HF.out];exact H.out.1,H.out.2⟩
  |some f=>
   rw[hm] at hF hlk
   have HF:=jH hF
   simp only[Bool.false_eq_true,if_false,aW] at hlk
   clear hF hm
   go_wp2_with fail
   go_ret2
   exact⟨by rw[HF.out];rfl,by rw[HF.out];exact H.out.1,H.out.2⟩
 ·rw[if_neg (by omega)] at hF
  have HF:=jH hF
  clear hF
  go_enter func277,ntmps277
  go_wp2_with fail
  refine CB.out.mono ?_
  rintro e w1 ⟨rfl,hD1,hf1⟩
  have H:=jH (aI hD1 hf1)
  clear hD1 hf1 CB
  go_wp2_with fail
  go_ret2
  exact⟨by rw[HF.out];rfl,by rw[HF.out];exact H.out.1,H.out.2⟩
def fileOf (fs:List (Nat×bM))(f:Nat):bM:=(av fs f).getD ⟨[],0⟩
theorem jf {fs:List (Nat×bM)}{f:Nat}{p:bM}(h:av fs f=some p):fileOf fs f=p:=by unfold fileOf;rw[h];rfl
theorem Cj (D:aF)(name:ByteArray):(∃f,gG D name=(some f,0,(dH D).2)∧av (dH D).2.now name=some f)∨∃e,gG D name=(none,e,(dH D).2)∧(e=6∨e=8):=by
 unfold gG
 have h:=tZ D
 rcases hb:dH D with⟨e,D1⟩
 rw[hb] at h
 dsimp only at h⊢
 rcases h with rfl|rfl
 ·rw[if_pos rfl]
  cases hm:av D1.now name with
  |none=>exact .inr ⟨6,rfl,.inl rfl⟩
  |some f=>exact .inl ⟨f,rfl,rfl⟩
 ·rw[if_neg (by omega)]
  exact .inr ⟨8,rfl,.inr rfl⟩
theorem ar.refile {w w':World}{aa d mn ms:Nat}{D:aF}(f:Nat)(p':bM)(h:ar w aa d mn ms D)(hf:Fr [111,5] [] aa w w')(hfa:gR w' aa (aw D.fs f p')):ar w' aa d mn ms {D with fs:=aw D.fs f p'}:=by
 obtain⟨cv,hb,hc⟩:=h.blk
 exact{lod:=h.lod,lon:=h.lon,los:=h.los,hi:=nT h.hi hf.size,ne:=h.ne,blk:=⟨cv,hf.blk _ _ _ hb (by decide),hf.own hc (by decide)⟩,now:=hf.mapIs h.now (by simp),sure:=hf.mapIs h.sure (by simp),files:=hfa,ids:=zh h.ids,nowIn:=fun p hp=>iq.2 (.inl (h.nowIn p hp)),sureIn:=fun p hp=>iq.2 (.inl (h.sureIn p hp)),chgIn:=fun c hc g hg=>iq.2 (.inl (h.chgIn c hc g hg)),quotaB:=h.quotaB,opsB:=h.opsB,failB:=h.failB}
def iF (D:aF)(name:ByteArray):Int×aF:=
 match gG D name with
 |(some f,_,D1)=>(0,{D1 with fs:=aw D1.fs f ⟨(fileOf D1.fs f).b,(fileOf D1.fs f).b.length⟩})
 |(none,e,D1)=>(e,D1)
theorem jt (aa d mn ms:Nat)(D:aF)(name:ByteArray)(w:World)(h:ar w aa d mn ms D)(aP:D.ops≤900000000000)(dv:aY name):
  Calls Pg 172 #[PT (some ⟨d,0,none⟩),.string name] w fun e w'=>e=rT (X Y (iF D name).1)∧ar w' aa d mn ms (iF D name).2∧Fr [102,111] [] aa w w':=by
 have CF:=jH (oP aa d mn ms D name w h aP dv)
 rcases Cj D name with⟨f,hF,hm⟩|⟨e0,hF,he0⟩
 ·have hS:iF D name=(0,{(dH D).2 with fs:=aw (dH D).2.fs f ⟨(fileOf (dH D).2.fs f).b,(fileOf (dH D).2.fs f).b.length⟩}):=by unfold iF;rw[hF]
  rw[hF] at CF
  dsimp only[fc,Option.map_some] at CF
  generalize (dH D).2=D1 at *
  go_enter func172,ntmps172
  go_wp2_with fail
  refine CF.out.mono ?_
  rintro e w1 ⟨rfl,hD1,hf1⟩
  obtain⟨p,hp⟩:=jc (hD1.nowIn _ (gW hm))
  obtain⟨R,hR,hd⟩:=hD1.files
  obtain⟨a1,a2,a3,a4,a5,a6⟩:=hR f p hp
  obtain⟨A,c,eR⟩:=cV a3
  rw[jf hp] at hS
  have a2':=a2
  rw[eR] at a2'
  obtain⟨c0,c1⟩:=a2'.c2
  have fz:=a2'.frozen 1
  have H:=jH (aI hD1 (aI hf1 (aI hS (aI a2 (aI a3 (aI hR hd))))))
  have H2:=jH (aI hp (aI a1 (aI a5 a6)))
  obtain⟨n,hn⟩:∃n,p.b.length=n:=⟨_,rfl⟩
  rw[hn] at c0
  have hn':=jH hn
  clear hD1 hf1 hS a2 a3 hR hd eR a2' hp a1 a4 a5 a6 hn hF hm CF h
  go_wp2_with fail
  go_ret
  obtain⟨hD1,hf1,hS,a2,a3,hR,hd⟩:=H.out
  obtain⟨hp,a1,a5,a6⟩:=H2.out
  rw[hS,hn'.out]
  have hfs:Fr [111] [] aa w1 (w1.setCell ⟨f,1,none⟩ (X Y n)):=(Fr.refl _ _ _ _).set_ a2 (by decide) a1 1 _
  refine⟨rfl,ar.refile f _ hD1 (hfs.mono (by decide) (by simp)) ?_,(hf1.mono (by decide) (by simp)).trans (hfs.mono (by decide) (by simp))⟩
  refine kH f (R f) _ ?_ hd a1 (a2.set_ 1 _) (aB a3 a2 (by decide) 1 _) (by have:=hn'.out;dsimp only;omega) a5 a6 (fun g q hq az=>hd g f q p hq hp az)
  intro g q hq az
  obtain⟨b1,b2,b3,b4,b5,b6⟩:=hR g q hq
  exact⟨b1,b2.far az _,aB b3 a2 (by decide) 1 _,b4,b5,b6⟩
 ·have hS:iF D name=(e0,(dH D).2):=by unfold iF;rw[hF]
  rw[hF] at CF
  dsimp only[fc,Option.map_none] at CF
  generalize (dH D).2=D1 at *
  have hb:(e0==0)=false:=by rcases he0 with rfl|rfl<;>rfl
  have HS:=jH hS
  clear hS hF
  go_enter func172,ntmps172
  go_wp2_with fail
  refine CF.out.mono ?_
  rintro e w1 ⟨rfl,hD1,hf1⟩
  have H:=jH (aI hD1 hf1)
  clear hD1 hf1 CF h
  go_wp2_with fail
  go_ret
  rw[HS.out]
  exact⟨rfl,H.out.1,H.out.2.mono (by decide) (by simp)⟩
end
section
open Go.RowKit Go.Maps
theorem oV {κ ν:Type}{ek:κ→Value}{ok:κ→Prop}{ev:ν→Value}{b:Nat}{m:List (κ×ν)}(w:World)(h:aL w ek ok ev b m):
  Calls Pg 34 #[.map (some b)] w fun e w'=>e=rT (.map (some w.heap.size))∧aL w' ek ok ev w.heap.size m∧Below w.heap.size w w'∧w'.heap.size=w.heap.size + 1:=by
 obtain⟨es,bG,hb,hm,hs,hk⟩:=h
 have hq:=fun w=>run_eql_map_nil_sl (P:=Pg) w 97 _ _ (some b) underlying97
 have H:=jH (aI hm (aI hs hk))
 clear hm hs hk
 go_enter func34,ntmps34
 go_wp2
 rw[run_callFunc_extern func93 (by kernel_rfl) (by kernel_rfl) (by kernel_rfl) (e:=Extern.MapsClone.clone) (by kernel_rfl),run_maps_clone_sl w 97 hb]
 simp only[Result.andThen]
 rw[Oper.upon_value]
 go_wp2
 rw[run_typeAssert_map_sl _ 97 _ _ _ _ underlying97]
 simp only[Result.andThen]
 rw[Oper.upon_value]
 go_wp2
 go_ret
 exact⟨rfl,⟨es,bG,(MapKept.heap_alloc w _).1,H.out.1,H.out.2.1,H.out.2.2⟩,(bR _ w).alloc (nR _) _,by simp⟩
theorem DV {κ ν:Type}{ek:κ→Value}{ok:κ→Prop}{ev:ν→Value}{b:Nat}{m:List (κ×ν)}(w:World)(h:aL w ek ok ev b m):
  Calls Pg 328 #[.map (some b)] w fun e w'=>e=rT (.map (some w.heap.size))∧aL w' ek ok ev w.heap.size m∧Below w.heap.size w w'∧w'.heap.size=w.heap.size + 1:=by
 obtain⟨es,bG,hb,hm,hs,hk⟩:=h
 have hq:=fun w=>run_eql_map_nil_sl (P:=Pg) w 137 _ _ (some b) underlying137
 have H:=jH (aI hm (aI hs hk))
 clear hm hs hk
 go_enter func328,ntmps328
 go_wp2
 rw[run_callFunc_extern func93 (by kernel_rfl) (by kernel_rfl) (by kernel_rfl) (e:=Extern.MapsClone.clone) (by kernel_rfl),run_maps_clone_sl w 137 hb]
 simp only[Result.andThen]
 rw[Oper.upon_value]
 go_wp2
 rw[run_typeAssert_map_sl _ 137 _ _ _ _ underlying137]
 simp only[Result.andThen]
 rw[Oper.upon_value]
 go_wp2
 go_ret
 exact⟨rfl,⟨es,bG,(MapKept.heap_alloc w _).1,H.out.1,H.out.2.1,H.out.2.2⟩,(bR _ w).alloc (nR _) _,by simp⟩
theorem DU {κ ν:Type}{ek:κ→Value}{ok:κ→Prop}{ev:ν→Value}{b:Nat}{m:List (κ×ν)}(w:World)(h:aL w ek ok ev b m):
  Calls Pg 329 #[.map (some b)] w fun e w'=>e=rT (.map (some w.heap.size))∧aL w' ek ok ev w.heap.size m∧Below w.heap.size w w'∧w'.heap.size=w.heap.size + 1:=by
 obtain⟨es,bG,hb,hm,hs,hk⟩:=h
 have hq:=fun w=>run_eql_map_nil_sl (P:=Pg) w 147 _ _ (some b) underlying147
 have H:=jH (aI hm (aI hs hk))
 clear hm hs hk
 go_enter func329,ntmps329
 go_wp2
 rw[run_callFunc_extern func93 (by kernel_rfl) (by kernel_rfl) (by kernel_rfl) (e:=Extern.MapsClone.clone) (by kernel_rfl),run_maps_clone_sl w 147 hb]
 simp only[Result.andThen]
 rw[Oper.upon_value]
 go_wp2
 rw[run_typeAssert_map_sl _ 147 _ _ _ _ underlying147]
 simp only[Result.andThen]
 rw[Oper.upon_value]
 go_wp2
 go_ret
 exact⟨rfl,⟨es,bG,(MapKept.heap_alloc w _).1,H.out.1,H.out.2.1,H.out.2.2⟩,(bR _ w).alloc (nR _) _,by simp⟩
end
section
open Go.RowKit
def eM (D:aF)(name:ByteArray):Option (List Nat):=(av D.now name).map fun f=>(fileOf D.fs f).b
def Fi (r:Option (List Nat))(w:World)(e:Ending)(w':World):Prop:=
 match r with
 |none=>e=rT (tU #[G none 0 0,bL false])
 |some l=>∃A c,e=rT (tU #[G A l.length c,bL true])∧w'.ownsRow w.heap.size 5 1 (G A l.length c) l.length (bv l)∧l.length≤1048576∧ay l
theorem lE {w:World}{aa size n c:Nat}{e:TypeId}{A:Option Addr}{xs:List Value}(h:w.ownsRow aa e size (G A n c) n xs)(hA:A=none):c=0:=by
 subst hA
 rcases h.2 with⟨h',_⟩|⟨g',cap',cur,h',_⟩
 ·injection h'
 ·injection h' with h1
  cases h1
theorem kg (aa d mn ms:Nat)(D:aF)(name:ByteArray)(w:World)(h:ar w aa d mn ms D)(dv:aY name):
  Calls Pg 189 #[PT (some ⟨d,0,none⟩),.string name] w fun e w'=>Fi (eM D name) w e w'∧Below w.heap.size w w':=by
 obtain⟨cv,hb,hc⟩:=h.blk
 obtain⟨-,c1⟩:=hb.c2
 have hlk:=h.now.lookup (P:=Pg) encS (t:=97) underlying97 (z:=PT none) (by kernel_rfl) name dv false
 cases hm:av D.now name with
 |none=>
  have HR:Hid (eM D name=none):=by show _=_;unfold eM;rw[hm];rfl
  rw[hm] at hlk
  simp only[Bool.false_eq_true,if_false] at hlk
  clear hb hc h hm
  go_enter func189,ntmps189
  go_wp2_with fail
  go_ret2
  exact⟨by rw[HR.out];rfl,bR _ _⟩
 |some f=>
  obtain⟨p,hp⟩:=jc (h.nowIn _ (gW hm))
  have HR:Hid (eM D name=some p.b):=by show _=_;unfold eM;rw[hm,Option.map_some,jf hp]
  rw[hm] at hlk
  simp only[Bool.false_eq_true,if_false,aW] at hlk
  obtain⟨R,hR,hd⟩:=h.files
  obtain⟨a1,a2,a3,a4,a5,a6⟩:=hR f p hp
  obtain⟨A,c,eR⟩:=cV a3
  rw[eR] at a2 a3
  have g0:=a2.c1
  have CC:=jH (jO A p.b.length c w.heap.size p.b w (Reads.of_own a3) (nR _) (by omega) (lE a3))
  have H:=jH (aI a5 a6)
  generalize p.b=l at *
  clear hb hc h hm hR hd a1 a2 a3 a4 a5 a6 eR hp
  go_enter func189,ntmps189
  go_wp2_with fail
  refine CC.out.mono ?_
  rintro e w1 ⟨A1,c1',rfl,aQ,ae⟩
  go_wp2_with fail
  go_ret2
  exact⟨by rw[HR.out];exact⟨A1,c1',rfl,aQ,H.out.1,H.out.2⟩,ae⟩
def eV (c:et)(m:List (ByteArray×Nat)):List (ByteArray×Nat):=
 if c.kind=1 then (match c.f with|some f=>aw m c.name f|none=>m)
 else if c.kind=2 then (match av m c.name with|some f=>fM (aw m c.tt f) c.name|none=>m)
 else fM m c.name
structure uo (c:et)(m:List (ByteArray×Nat)):Prop where
 kind:c.kind=1∨c.kind=2∨c.kind=3
 name:aY c.name
 tt:aY c.tt
 f1:c.kind=1→∃f,c.f=some f
 f2:c.kind=2→∃f,av m c.name=some f
theorem Da (c:et)(mb aa:Nat)(m:List (ByteArray×Nat))(w:World)(h:aL w Value.string aY aW mb m)(hc:uo c m)(an:aa≤mb):
  Calls Pg 35 #[aG #[X Y c.kind,.string c.name,.string c.tt,fc c.f],.map (some mb)] w fun e w'=>e=rT (tU #[])∧aL w' Value.string aY aW mb (eV c m)∧Fr [] [mb] aa w w':=by
 have au:=h.lt
 have hs:aa≤w.heap.size:=by omega
 have hq:=ab.new w 104 #[X Y c.kind,.string c.name,.string c.tt,fc c.f]
 have hal:=(bR w.heap.size w).alloc (nR _) (cL #[X Y c.kind,.string c.name,.string c.tt,fc c.f] 104)
 have h1:=h.alloc (cL #[X Y c.kind,.string c.name,.string c.tt,fc c.f] 104)
 have hfr0:=(Fr.of_below [] [mb] hal hs)
 obtain⟨kind,name,tt,f⟩:=c
 obtain⟨hk,hn,ht,hf1,hf2⟩:=hc
 dsimp only at *
 obtain⟨q0,q1,q2,q3⟩:=hq.c4
 rcases hk with rfl|rfl|rfl
 ·obtain⟨fb,rfl⟩:=hf1 rfl
  have HP:Hid (eV ⟨1,name,tt,some fb⟩ m=aw m name fb):=rfl
  simp only[show ((1:Nat):Int)=(1:Int) from rfl] at h1 hfr0 q0 q1 q2 q3 hq hal⊢
  obtain⟨es,cl,hes,_⟩:=id h1
  obtain⟨w2,hup,hm2,cQ,hs2⟩:=h1.update (P:=Pg) encS (t:=97) underlying97 name hn fb
  have HF:=jH (aI hm2 (hfr0.but hes cQ (by simp) an (by simp;omega)))
  simp only[aW] at hup
  dsimp only[fc,Option.map_some] at *
  clear hm2 cQ hs2 hes h1 hfr0 hal hq h hf1 hf2
  go_enter func35,ntmps35
  go_wp2_with fail
  go_end0
  exact⟨rfl,by rw[HP.out];exact HF.out.1,HF.out.2⟩
 ·obtain⟨fb,hfb⟩:=hf2 rfl
  simp only[show ((2:Nat):Int)=(2:Int) from rfl] at h1 hfr0 q0 q1 q2 q3 hq hal⊢
  have HP:Hid (eV ⟨2,name,tt,f⟩ m=fM (aw m tt fb) name):=by show _=_;unfold eV;simp[hfb]
  obtain⟨es,cl,hes,_⟩:=id h1
  have hlk:=h1.lookup (P:=Pg) encS (t:=97) underlying97 (z:=PT none) (by kernel_rfl) name hn false
  rw[hfb] at hlk
  simp only[Bool.false_eq_true,if_false] at hlk
  obtain⟨w2,hup,hm2,cQ,hs2⟩:=h1.update (P:=Pg) encS (t:=97) underlying97 tt ht fb
  have hq2:=cQ.blk hq (by have:=h1.lt;intro e;omega)
  obtain⟨-,p1⟩:=hq2.c2
  have hf2':=hfr0.but hes cQ (by simp) an (by simp;omega)
  obtain⟨es2,cl2,hes2,_⟩:=id hm2
  obtain⟨w3,hdel,hm3,hbut3,hs3⟩:=hm2.delete (P:=Pg) (ty:=0) encS (t:=97) underlying97 name hn
  have HF:=jH (aI hm3 (hf2'.but hes2 hbut3 (by simp) an (by rw[hs2];simp;omega)))
  simp only[aW] at hup hlk
  clear hm2 cQ hs2 hes h1 hfr0 hal hq h hf1 hf2 hq2 hf2' hes2 hm3 hbut3 hs3 hfb
  go_enter func35,ntmps35
  go_wp2_with fail
  go_end0
  exact⟨rfl,by rw[HP.out];exact HF.out.1,HF.out.2⟩
 ·have HP:Hid (eV ⟨3,name,tt,f⟩ m=fM m name):=rfl
  simp only[show ((3:Nat):Int)=(3:Int) from rfl] at h1 hfr0 q0 q1 q2 q3 hq hal⊢
  obtain⟨es,cl,hes,_⟩:=id h1
  obtain⟨w3,hdel,hm3,hbut3,hs3⟩:=h1.delete (P:=Pg) (ty:=0) encS (t:=97) underlying97 name hn
  have HF:=jH (aI hm3 (hfr0.but hes hbut3 (by simp) an (by simp;omega)))
  clear hes h1 hfr0 hal hq h hf1 hf2 hm3 hbut3 hs3
  go_enter func35,ntmps35
  go_wp2_with fail
  go_end0
  exact⟨rfl,by rw[HP.out];exact HF.out.1,HF.out.2⟩
end
section
theorem rl:∀(n:Nat) (f:Nat→Nat),(∀i,i < n→f i < n)→(∀i j,i < n→j < n→f i=f j→i=j)→∀v,v < n→∃i,i < n∧f i=v
 |0,_,_,_,v,hv=>by omega
 |n + 1,f,hf,inj,v,hv=>by
  have hw:=hf n (by omega)
  have hg:∀i,i < n→(if f i=n then f n else f i) < n:=by
   intro i hi
   have h1:=hf i (by omega)
   have h2:f i=f n→i=n:=inj i n (by omega) (by omega)
   split<;>omega
  have hginj:∀i j,i < n→j < n→(if f i=n then f n else f i)=(if f j=n then f n else f j)→i=j:=by
   intro i j hi hj
   have h1:=inj i j (by omega) (by omega)
   have h2:f i=f n→i=n:=inj i n (by omega) (by omega)
   have h3:f j=f n→j=n:=inj j n (by omega) (by omega)
   split<;>split<;>intro h
   ·exact h1 (by omega)
   ·have:=h3 h.symm;omega
   ·have:=h2 h;omega
   ·exact h1 h
  have ih:=rl n (fun i=>if f i=n then f n else f i) hg hginj
  by_cases hvw:v=f n
  ·exact⟨n,by omega,hvw.symm⟩
  ·by_cases hvn:v=n
   ·obtain⟨i,hi,he⟩:=ih (f n) (by omega)
    have h2:f i=f n→i=n:=inj i n (by omega) (by omega)
    refine⟨i,by omega,?_⟩
    split at he
    ·omega
    ·have:=h2 he;omega
   ·obtain⟨i,hi,he⟩:=ih v (by omega)
    refine⟨i,by omega,?_⟩
    split at he<;>omega
theorem vS {n at_ skip:Nat}(hn:0 < n)(hc:Nat.gcd n skip=1){i j:Nat}(hi:i < n)(hj:j < n)(h:(at_ + i * skip) % n=(at_ + j * skip) % n):i=j:=by
 have key:∀a b:Nat,a≤b→b < n→(at_ + a * skip) % n=(at_ + b * skip) % n→a=b:=by
  intro a b hab hb h
  have hd:n∣(b - a) * skip:=by
   have h1:(at_ + b * skip) - (at_ + a * skip)=(b - a) * skip:=by rw[Nat.sub_mul];omega
   rw[←h1]
   exact Nat.dvd_of_mod_eq_zero (Nat.sub_mod_eq_zero_of_mod_eq h.symm)
  have hd2:n∣(b - a):=Nat.Coprime.dvd_of_dvd_mul_right hc hd
  rcases Nat.eq_zero_or_pos (b - a) with h0|h0
  ·omega
  ·have:=Nat.le_of_dvd h0 hd2;omega
 rcases Nat.le_total i j with hij|hij
 ·exact key i j hij hj h
 ·exact(key j i hij hi h.symm).symm
theorem vR {n at_ skip:Nat}(hn:0 < n)(hc:Nat.gcd n skip=1){v:Nat}(hv:v < n):∃j,j < n∧(at_ + j * skip) % n=v:=
 rl n (fun j=>(at_ + j * skip) % n) (fun j _=>Nat.mod_lt _ hn) (fun i j hi hj h=>vS hn hc hi hj h) v hv
def findF (t:List Int)(skip n:Nat):Nat→Nat→Nat
 |0,at_=>at_
 |f + 1,at_=>if t[at_]? =some (-1) then at_ else findF t skip n f ((at_ + skip) % n)
structure pv (t:List Int)(at_ skip n J v:Nat):Prop where
 lt:J < n
 goes:(at_ + J * skip) % n=v
 taken:∀i,i < J→t[(at_ + i * skip) % n]?≠some (-1)
 free:t[v]? =some (-1)
theorem least {p:Nat→Prop}[DecidablePred p]:∀(n:Nat),(∃j,j < n∧p j)→∃J,J < n∧p J∧∀i,i < J→¬p i
 |0,h=>by obtain⟨j,hj,_⟩:=h;omega
 |n + 1,h=>by
  by_cases hp:∃j,j < n∧p j
  ·obtain⟨J,hJ,h1,h2⟩:=least n hp
   exact⟨J,by omega,h1,h2⟩
  ·obtain⟨j,hj,hpj⟩:=h
   have:j=n:=by
    rcases Nat.lt_or_ge j n with h'|h'
    ·exact absurd ⟨j,h',hpj⟩ hp
    ·omega
   subst this
   exact⟨j,by omega,hpj,fun i hi hpi=>hp ⟨i,hi,hpi⟩⟩
theorem te {t:List Int}{skip n:Nat}(hn:0 < n):∀(J f at_ v:Nat),at_ < n→(at_ + J * skip) % n=v→(∀i,i < J→t[(at_ + i * skip) % n]?≠some (-1))→t[v]? =some (-1)→J < f→findF t skip n f at_=v
 |J,0,_,_,_,_,_,_,h=>by omega
 |0,f + 1,at_,v,hat,hv,_,hfree,_=>by
  have e:at_=v:=by rw[←hv];simp[Nat.mod_eq_of_lt hat]
  subst e
  rw[findF,if_pos hfree]
 |J + 1,f + 1,at_,v,hat,hv,htk,hfree,hf=>by
  have h0:=htk 0 (by omega)
  rw[Nat.zero_mul,Nat.add_zero,Nat.mod_eq_of_lt hat] at h0
  rw[findF,if_neg h0]
  have sh:∀i,((at_ + skip) % n + i * skip) % n=(at_ + (i + 1) * skip) % n:=by
   intro i
   rw[Nat.mod_add_mod,Nat.add_assoc]
   congr 2
   rw[Nat.add_mul,Nat.one_mul]
   omega
  refine te hn J f _ v (Nat.mod_lt _ hn) (by rw[sh];exact hv) (fun i hi=>?_) hfree (by omega)
  rw[sh]
  exact htk (i + 1) (by omega)
theorem uL {t:List Int}{at_ skip n:Nat}(hn:0 < n)(hc:Nat.gcd n skip=1)(hat:at_ < n)(hfree:∃v,v < n∧t[v]? =some (-1)):
  ∃J,pv t at_ skip n J (findF t skip n n at_):=by
 obtain⟨v,hv,hf⟩:=hfree
 obtain⟨j,hj,hje⟩:=vR (at_:=at_) hn hc hv
 obtain⟨J,hJ,h1,h2⟩:=least (p:=fun j=>t[(at_ + j * skip) % n]? =some (-1)) n ⟨j,hj,by rw[hje];exact hf⟩
 have e:=te (t:=t) (skip:=skip) hn J n at_ _ hat rfl h2 h1 hJ
 exact⟨J,hJ,e.symm,h2,by rw[e];exact h1⟩
structure Bk where
 id:Int
 weight:Nat
 off:Nat
 skip:Nat
def turn (bs:List Bk)(n:Nat)(s:List Nat×List Int)(b:Nat):List Nat×List Int:=
 let at_:=findF s.2 ((bs[b]?.map Bk.skip).getD 1) n n (s.1[b]?.getD 0)
 (s.1.set b at_,s.2.set at_ ((bs[b]?.map Bk.id).getD (-1)))
def eH:Nat→List Bk→List Nat
 |_,[]=>[]
 |k,b::r=>List.replicate b.weight k++eH (k + 1) r
def dL (bs:List Bk):List Nat:=eH 0 bs
def run (bs:List Bk)(n:Nat):Nat→List Nat×List Int
 |0=>(bs.map Bk.off,List.replicate n (-1))
 |i + 1=>turn bs n (run bs n i) ((dL bs)[i % (dL bs).length]?.getD 0)
def jr (bs:List Bk)(n:Nat):List Int:=(run bs n n).2
structure Good (bs:List Bk)(n:Nat):Prop where
 pos:0 < n
 off:∀b∈bs,b.off < n
 skip:∀b∈bs,Nat.gcd n b.skip=1
 id:∀b∈bs,0≤b.id
 weight:∀b∈bs,0 < b.weight
 some_:bs≠[]
theorem p7:∀(bs:List Bk) (k x:Nat),x∈eH k bs→k≤x∧x < k + bs.length
 |[],k,x,h=>by simp[eH] at h
 |b::r,k,x,h=>by
  simp only[eH,List.mem_append,List.mem_replicate] at h
  rcases h with⟨_,rfl⟩|h
  ·simp
  ·have:=p7 r (k + 1) x h
   simp
   omega
theorem lj {bs:List Bk}{x:Nat}(h:x∈dL bs):x < bs.length:=by
 have:=p7 bs 0 x h
 omega
theorem mY {bs:List Bk}{n:Nat}(h:Good bs n):0 < (dL bs).length:=by
 have h1:=h.some_
 match bs,h with
 |b::r,h=>
  have:=h.weight b (List.mem_cons_self ..)
  unfold dL eH
  simp
  omega
def je (t:List Int):Nat:=t.countP (·==-1)
structure Inv (bs:List Bk)(n i:Nat)(s:List Nat×List Int):Prop where
 ats:s.1.length=bs.length
 atn:∀a∈s.1,a < n
 len:s.2.length=n
 free:je s.2=n - i
theorem BJ {t:List Int}{v:Nat}{x:Int}(h:t[v]? =some (-1))(hx:x≠-1):je (t.set v x) + 1=je t:=by
 unfold je
 have hv:v < t.length:=(List.getElem?_eq_some_iff.1 h).1
 have he:t[v]=-1:=by rw[List.getElem?_eq_getElem hv] at h;exact Option.some.inj h
 rw[List.countP_set hv]
 have hpos:0 < t.countP (·==-1):=List.countP_pos_iff.2 ⟨t[v],List.getElem_mem hv,by simp[he]⟩
 simp[he,hx]
 omega
theorem BI {t:List Int}(h:0 < je t):∃v,v < t.length∧t[v]? =some (-1):=by
 obtain⟨x,hx,he⟩:=List.countP_pos_iff.1 h
 obtain⟨v,hv,hvx⟩:=List.getElem_of_mem hx
 refine⟨v,hv,?_⟩
 rw[List.getElem?_eq_getElem hv,hvx]
 simpa using he
theorem mV {bs:List Bk}{n i b:Nat}{s:List Nat×List Int}(hg:Good bs n)(h:Inv bs n i s)(hi:i < n)(hb:b < bs.length):
  Inv bs n (i + 1) (turn bs n s b)∧∃at_ J,s.1[b]? =some at_∧at_ < n∧pv s.2 at_ (bs[b]).skip n J (findF s.2 (bs[b]).skip n n at_)∧
   turn bs n s b=(s.1.set b (findF s.2 (bs[b]).skip n n at_),s.2.set (findF s.2 (bs[b]).skip n n at_) (bs[b]).id):=by
 have hbm:bs[b]∈bs:=List.getElem_mem hb
 have ae:b < s.1.length:=by rw[h.ats];exact hb
 have hat:=h.atn _ (List.getElem_mem ae)
 obtain⟨v,hv,hfree⟩:=BI (t:=s.2) (by rw[h.free];omega)
 obtain⟨J,hJ⟩:=uL hg.pos (hg.skip _ hbm) hat ⟨v,by rw[←h.len];exact hv,hfree⟩
 have e:turn bs n s b=(s.1.set b (findF s.2 (bs[b]).skip n n s.1[b]),s.2.set (findF s.2 (bs[b]).skip n n s.1[b]) (bs[b]).id):=by
  unfold turn
  simp[hb,ae]
 refine⟨?_,s.1[b],J,List.getElem?_eq_getElem ae,hat,hJ,e⟩
 rw[e]
 have hvn:findF s.2 (bs[b]).skip n n s.1[b] < n:=by rw[←hJ.goes];exact Nat.mod_lt _ hg.pos
 refine⟨by simpa using h.ats,?_,by simpa using h.len,?_⟩
 ·intro a ha
  rcases List.mem_or_eq_of_mem_set ha with ha|rfl
  ·exact h.atn a ha
  ·exact hvn
 ·have hid:=hg.id _ hbm
  have:=BJ (x:=(bs[b]).id) hJ.free (by omega)
  simp only
  rw[h.free] at this
  omega
theorem kd {bs:List Bk}{n:Nat}(hg:Good bs n):∀i,i≤n→Inv bs n i (run bs n i)
 |0,_=>by
  refine⟨by simp[run],?_,by simp[run],by simp[run,je,List.countP_replicate]⟩
  intro a ha
  simp only[run,List.mem_map] at ha
  obtain⟨b,hb,rfl⟩:=ha
  exact hg.off b hb
 |i + 1,hi=>by
  have ih:=kd hg i (by omega)
  have hl:=mY hg
  have hm:i % (dL bs).length < (dL bs).length:=Nat.mod_lt _ hl
  have hb:(dL bs)[i % (dL bs).length] < bs.length:=lj (List.getElem_mem hm)
  have:=(mV hg ih (by omega) hb).1
  rw[run,List.getElem?_eq_getElem hm]
  exact this
end
section
open Go.RowKit
theorem nQ (seed:Nat)(hs:seed < 4294967296)(w:World)(B:Nat)(A:Option Addr)(n c:Nat)(l:List Nat)(h:Reads w B 1 A n (bv l))(hn:n≤281474976710656)(hb:ay l):
  Calls Pg 319 #[X Z seed,G A n c] w fun e w'=>e=rT (X Z (ff seed l))∧w=w':=by
 have hln:l.length=n:=by have:=h.1;rw[el] at this;omega
 have hx0:bits BinOp.xor IntKind.u32 (seed:Int) 2166136261=((seed ^^^ 2166136261:Nat):Int):=u32_xor_nat seed 2166136261 hs (by omega)
 go_enter func319,ntmps319
 go_wp2
 go_loop [5,12] (fun t i=>∃k:Nat,k≤n∧i=X Y k∧t=X Z (iH seed (l.take k):Nat)) (fun _ i=>n - (intOf i).toNat)
 case atStart=>exact⟨0,by omega,rfl,rfl⟩
 case round=>
  obtain⟨k,hk,rfl,rfl⟩:=hrel
  have hp:=zr hs (hb.take k)
  clear hx0
  by_cases au:k < n
  ·obtain⟨ad,hl0,rfl,hc0⟩:=gJ h au
   have hx:=hb _ (List.getElem_mem hl0)
   have hnext:iH seed (l.take (k + 1))=ko (iH seed (l.take k)) l[k]:=sM (f:=ko) l k _ hl0
   generalize iH seed (l.take k)=p at hp hnext
   generalize l[k]=x at hc0 hx hnext
   have HN:=jH hnext
   clear hnext
   have hxor:bits BinOp.xor IntKind.u32 (p:Int) (x:Int)=((p ^^^ x:Nat):Int):=u32_xor_nat p x hp (by omega)
   go_wp2
   go_round
   case rel=>exact⟨k + 1,by omega,by go_num,by rw[HN.out];unfold ko;go_num⟩
   case measure=>simp[intOf];omega
  ·have HF:Hid (lJ (iH seed (l.take k))=ff seed l):=by
    show _=_
    unfold ff
    rw[List.take_of_length_le (by omega)]
   generalize iH seed (l.take k)=p at hp HF
   have h1:bits BinOp.xor IntKind.u32 (p:Int) ((p:Int) / 32768)=((p ^^^ p / 32768:Nat):Int):=u32_xor_nat p (p / 32768) hp (by omega)
   have HE:Hid (lJ p=(let d:=(p ^^^ p / 32768) * 2246822507 % 4294967296;d ^^^ d / 8192)):=rfl
   generalize p ^^^ p / 32768=a at h1 HE
   have hm:((a:Int) * 2246822507) % 4294967296=((a * 2246822507 % 4294967296:Nat):Int):=by omega
   have hd:a * 2246822507 % 4294967296 < 4294967296:=Nat.mod_lt _ (by omega)
   have HE':Hid (ff seed l=(let d:=a * 2246822507 % 4294967296;d ^^^ d / 8192)):=HF.out.symm.trans HE.out
   clear HE HF
   generalize a * 2246822507 % 4294967296=d at hm hd HE'
   have h2:bits BinOp.xor IntKind.u32 (d:Int) ((d:Int) / 8192)=((d ^^^ d / 8192:Nat):Int):=u32_xor_nat d (d / 8192) hd (by omega)
   go_wp2
   go_ret
   exact⟨gU (by rw[HE'.out]),rfl⟩
def dd (n:Nat):Bool:=decide (3≤n)&&decide (n≤251)&&(List.range 16).all fun i=>decide (i < 2)||decide (n < i * i)||decide (n % i≠0)
theorem nZ {n k:Nat}(hn:n≤251)(h2:2≤k)(hk:k * k≤n)(h:n % k=0):dd n=false:=by
 have hk16:k < 16:=by
  rcases Nat.lt_or_ge k 16 with h'|h'
  ·exact h'
  ·have:16 * 16≤k * k:=Nat.mul_le_mul h' h'
   omega
 unfold dd
 have:((List.range 16).all fun i=>decide (i < 2)||decide (n < i * i)||decide (n % i≠0))=false:=by
  rw[Bool.eq_false_iff]
  intro hall
  have:=List.all_eq_true.1 hall k (List.mem_range.2 hk16)
  simp[h] at this
  omega
 rw[this]
 simp
theorem zA {n k:Nat}(h3:3≤n)(hn:n≤251)(hk:n < k * k)(h:∀j,2≤j→j < k→n % j≠0):dd n=true:=by
 unfold dd
 simp only[Bool.and_eq_true,decide_eq_true_eq,List.all_eq_true,List.mem_range,Bool.or_eq_true]
 refine⟨⟨h3,hn⟩,fun i _=>?_⟩
 by_cases h2:i < 2
 ·exact .inl (.inl h2)
 ·by_cases hik:i < k
  ·exact .inr (h i (by omega) hik)
  ·have:k * k≤i * i:=Nat.mul_le_mul (by omega) (by omega)
   exact .inl (.inr (by omega))
theorem lM (n:Nat)(hn:n≤1000000)(w:World):
  Calls Pg 83 #[X Y n] w fun e w'=>e=rT (bL (dd n))∧w=w':=by
 by_cases h3:n < 3
 ·have hm:Hid (dd n=false):=by show _=_;unfold dd;simp;omega
  go_enter func83,ntmps83
  go_wp2
  go_ret
  exact⟨by rw[hm.out];rfl,rfl⟩
 by_cases h251:251 < n
 ·have hm:Hid (dd n=false):=by show _=_;unfold dd;simp;omega
  go_enter func83,ntmps83
  go_wp2
  go_ret
  exact⟨by rw[hm.out];rfl,rfl⟩
 go_enter func83,ntmps83
 go_wp2
 go_loop [3] (fun i=>∃k:Nat,2≤k∧k≤16∧i=X Y k∧Hid (∀j,2≤j→j < k→n % j≠0)) (fun i=>16 - (intOf i).toNat)
 case atStart=>exact⟨2,by omega,by omega,rfl,fun j h1 h2=>by omega⟩
 case round=>
  obtain⟨k,hk2,hk16,rfl,hall⟩:=hrel
  have hsq:k * k≤256:=Nat.mul_le_mul hk16 hk16
  have hTF:Hid (n < k * k→dd n=true):=fun h=>zA (by omega) (by omega) h hall.out
  have hFF:Hid (k * k≤n→n % k=0→dd n=false):=fun h h'=>nZ (by omega) hk2 h h'
  have hk15:Hid (k * k≤n→k < 16):=fun h=>by
   rcases Nat.lt_or_ge k 16 with h'|h'
   ·exact h'
   ·have:16 * 16≤k * k:=Nat.mul_le_mul h' h'
    omega
  have hee:(k:Int) * (k:Int)=((k * k:Nat):Int):=(Int.natCast_mul k k).symm
  generalize k * k=s at *
  by_cases hs:s≤n
  ·have hk:=hk15.out hs
   have hmod:((n:Int) % (k:Int))=((n % k:Nat):Int):=(Int.natCast_emod n k).symm
   by_cases h0:n % k=0
   ·have hm:=jH (hFF.out hs h0)
    rw[h0] at hmod
    clear h0
    go_wp2
    go_ret
    exact⟨by rw[hm.out];rfl,rfl⟩
   ·have hnx:Hid (∀j,2≤j→j < k + 1→n % j≠0):=by
     intro j h1 h2
     by_cases e:j=k
     ·subst e;exact h0
     ·exact hall.out j h1 (by omega)
    have az:(((n % k:Nat):Int)==0)=false:=by simp;omega
    generalize n % k=r at *
    clear h0
    go_wp2
    go_round
    case rel=>exact⟨k + 1,by omega,by omega,by go_num,hnx⟩
    case measure=>simp[intOf];omega
  ·have hm:=jH (hTF.out (by omega))
   go_wp2
   go_ret
   exact⟨by rw[hm.out];rfl,rfl⟩
def eA (id:Int):List Nat:=be (id % 4294967296).toNat 4
def fI (id:Int)(n:Nat):Nat:=ff 1 (eA id) % n
def ef (id:Int)(n:Nat):Nat:=ff 2 (eA id) % (n - 1) + 1
theorem AY (id:Int):ay (eA id):=bZ _ _
theorem AX (id:Int):(eA id).length=4:=be_length _ _
theorem xB (id:Int)(n:Nat)(hn3:3≤n)(hn:n≤251)(hm:dd n=true)(hid:-9223372036854775808≤id∧id≤9223372036854775807)(w:World):
  Calls Pg 285 #[X Y id,X Y n] w fun e w'=>e=rT (tU #[X Y (fI id n),X Y (ef id n)])∧Below w.heap.size w w':=by
 have HM:=jH (lM n (by omega))
 rw[hm] at HM
 clear hm
 obtain⟨I,hI,hIl,HI⟩:∃I:Nat,id % 4294967296=(I:Int)∧I < 4294967296∧Hid (be I 4=eA id):=⟨(id % 4294967296).toNat,by omega,by omega,rfl⟩
 have hab:=AY id
 have hlb:=AX id
 have hx1:=nU 1 (eA id)
 have hx2:=nU 2 (eA id)
 have R1:Hid (((ff 1 (eA id) % n:Nat):Int)=((fI id n:Nat):Int)):=rfl
 have R2:Hid (((ff 2 (eA id) % (n - 1) + 1:Nat):Int)=((ef id n:Nat):Int)):=rfl
 have HL:=jH hlb
 go_enter func285,ntmps285
 go_wp2_with (go_at_call 83;refine(HM.out _).mono ?_;rintro e w' ⟨rfl,rfl⟩)
 refine(jm w.heap.size w.heap.size I [] (w.alloc (cL #[G none 0 0] 251)) hIl (by simp) ⟨nR _,none,0,ab.new_ rfl,World.ownsRow_nil _ _ _ _⟩ (by simp)).mono ?_
 rintro e w1 ⟨rfl,hw1,ae⟩
 rw[List.nil_append,HI.out] at hw1
 have hB1:Below w.heap.size w w1:=((bR _ _).alloc (nR _) _).trans ae
 have hs1:=hB1.size
 go_wp2_with fail
 refine(ia w.heap.size w.heap.size (eA id) w1 hw1 (by omega)).mono ?_
 rintro e w2 ⟨A2,c2,rfl,bH,af⟩
 have hr2:=Reads.of_own bH
 rw[hlb] at hr2 bH⊢
 have hw2:=hw1.below af
 have hB2:Below w.heap.size w w2:=hB1.trans (af.mono hs1)
 have hs2:=hB2.size
 clear bH af ae hlb
 go_wp2_with fail
 refine(nQ 1 (by omega) _ _ _ _ _ (eA id) hr2 (by omega) hab).mono ?_
 rintro e w' ⟨rfl,rfl⟩
 generalize ff 1 (eA id)=x1 at *
 go_wp2_with fail
 refine(ia w.heap.size w.heap.size (eA id) w2 hw2 (by rw[HL.out];omega)).mono ?_
 rintro e w3 ⟨A3,c3,rfl,bK,al⟩
 have hr3:=Reads.of_own bK
 rw[HL.out] at hr3 bK⊢
 have hB3:Below w.heap.size w w3:=hB2.trans (al.mono hs2)
 have hs3:=hB3.size
 clear bK al
 go_wp2_with fail
 refine(nQ 2 (by omega) _ _ _ _ _ (eA id) hr3 (by omega) hab).mono ?_
 rintro e w' ⟨rfl,rfl⟩
 generalize ff 2 (eA id)=x2 at *
 have hv1:((x1:Int) % (n:Int))=((x1 % n:Nat):Int):=(Int.natCast_emod x1 n).symm
 have hv2:((x2:Int) % ((n:Int) - 1))=((x2 % (n - 1):Nat):Int):=by
  rw[show ((n:Int) - 1)=((n - 1:Nat):Int) from by omega]
  exact(Int.natCast_emod x2 (n - 1)).symm
 have hl1:x1 % n < n:=Nat.mod_lt _ (by omega)
 have hl2:x2 % (n - 1) < n - 1:=Nat.mod_lt _ (by omega)
 have R1':=R1.out
 have R2':=R2.out
 rw[Int.natCast_add] at R2'
 generalize x1 % n=y1 at *
 generalize x2 % (n - 1)=y2 at *
 have Q1:=jH R1'
 have Q2:=jH R2'
 clear R1' R2' R1 R2
 go_wp2_with fail
 go_ret2
 exact⟨by rw[←Q1.out,←Q2.out];simp,hB3⟩
def cH (n:Nat)(b:Be):Bk:={id:=b.id,weight:=b.weight.toNat,off:=fI b.id n,skip:=ef b.id n}
theorem zy {n s:Nat}(hm:dd n=true)(h1:1≤s)(hs:s < n):Nat.gcd n s=1:=by
 have hmm:=hm
 unfold dd at hm
 simp only[Bool.and_eq_true,decide_eq_true_eq] at hm
 obtain⟨⟨h3,h251⟩,_⟩:=hm
 have hdn:Nat.gcd n s∣n:=Nat.gcd_dvd_left n s
 have hds:Nat.gcd n s∣s:=Nat.gcd_dvd_right n s
 have hpos:0 < Nat.gcd n s:=Nat.gcd_pos_of_pos_left _ (by omega)
 have hle:Nat.gcd n s≤s:=Nat.le_of_dvd (by omega) hds
 generalize Nat.gcd n s=d at *
 rcases Nat.lt_or_ge d 2 with h|h2
 ·omega
 ·exfalso
  obtain⟨e,he⟩:=hdn
  by_cases hdd:d * d≤n
  ·have:=nZ h251 h2 hdd (by rw[he];exact Nat.mul_mod_right d e)
   rw[this] at hmm;cases hmm
  ·have hed:e < d:=by
    rcases Nat.lt_or_ge e d with h|h
    ·exact h
    ·have:=Nat.mul_le_mul_left d h;omega
   have he2:2≤e:=by
    rcases e with _|_|e
    ·simp at he;omega
    ·simp at he;omega
    ·omega
   have hee:e * e≤n:=by rw[he];exact Nat.mul_le_mul_right e (by omega)
   have:=nZ h251 he2 hee (by rw[he,Nat.mul_comm];exact Nat.mul_mod_right e d)
   rw[this] at hmm;cases hmm
theorem lL {n:Nat}(hm:dd n=true):3≤n∧n≤251:=by
 unfold dd at hm
 simp only[Bool.and_eq_true,decide_eq_true_eq] at hm
 exact hm.1
theorem sG {n:Nat}{l:List Be}(hm:dd n=true)(h:gP l.length l):Good (l.map (cH n)) n:=by
 obtain⟨h3,h251⟩:=lL hm
 have hok:∀b∈l,0≤b.id∧1≤b.weight:=by
  intro b hb
  obtain⟨j,hj,rfl⟩:=List.getElem_of_mem hb
  obtain⟨_,h1,_,h2,_⟩:=h.2.2 j hj
  exact⟨h1,h2⟩
 refine⟨by omega,?_,?_,?_,?_,?_⟩
 ·intro b hb
  obtain⟨x,hx,rfl⟩:=List.mem_map.1 hb
  exact Nat.mod_lt _ (by omega)
 ·intro b hb
  obtain⟨x,hx,rfl⟩:=List.mem_map.1 hb
  refine zy hm (by show 1≤ef x.id n;unfold ef;omega) ?_
  show ef x.id n < n
  have:ff 2 (eA x.id) % (n - 1) < n - 1:=Nat.mod_lt _ (by omega)
  unfold ef
  omega
 ·intro b hb
  obtain⟨x,hx,rfl⟩:=List.mem_map.1 hb
  exact(hok x hx).1
 ·intro b hb
  obtain⟨x,hx,rfl⟩:=List.mem_map.1 hb
  have:=(hok x hx).2
  show 0 < x.weight.toNat
  omega
 ·intro e
  have:=h.1
  simp at e
  subst e
  simp at this
open Classical in
noncomputable def tableF (l:List Be)(n:Nat):List Int:=if gP l.length l then jr (l.map (cH n)) n else List.replicate n (-1)
theorem qz {l:List Be}{n:Nat}(h:gP l.length l):tableF l n=jr (l.map (cH n)) n:=by unfold tableF;rw[if_pos h]
theorem qB {l:List Be}{n:Nat}(h:¬gP l.length l):tableF l n=List.replicate n (-1):=by unfold tableF;rw[if_neg h]
theorem p6:∀(bs:List Bk) (b:Bk) (k:Nat),eH k (bs++[b])=eH k bs++List.replicate b.weight (k + bs.length)
 |[],b,k=>by simp[eH]
 |x::r,b,k=>by
  simp only[List.cons_append,eH]
  rw[p6 r b (k + 1),List.append_assoc]
  congr 3
  simp
  omega
def iv (l:List Int):List Value:=l.map (Value.int .i64)
theorem Az (l:List Int):(iv l).length=l.length:=by simp[iv]
theorem AA {l:List Int}{j:Nat}(h:j < l.length):(iv l)[j]? =some (X Y l[j]):=by simp[iv,h]
theorem nB {w:World}{aa n c g:Nat}{e:TypeId}{l:List Int}(h:w.ownsRow aa e 1 (G (some ⟨g,0,none⟩) n c) n (iv l))(j:Nat)(hj:j < n)(hl:j < l.length):w.cell? ⟨g,j,none⟩=some (X Y l[j]):=by
 rw[h.cellAt j (by omega),AA hl]
theorem rp {w:World}{aa n c g:Nat}{e:TypeId}{l:List Int}(h:w.ownsRow aa e 1 (G (some ⟨g,0,none⟩) n c) n (iv l))(j:Nat)(x:Int):
  (w.setCell ⟨g,j,none⟩ (X Y x)).ownsRow aa e 1 (G (some ⟨g,0,none⟩) n c) n (iv (l.set j x)):=by
 have:=(h.stored j (X Y x)).1
 rwa [show (iv l).set j (X Y x)=iv (l.set j x) from by simp[iv,List.map_set]] at this
theorem rq {w:World}{aa n:Nat}{e:TypeId}{v:Value}{l:List Int}(h:w.ownsRow aa e 1 v n (iv l)):l.length=n:=by have:=h.1;rw[Az] at this;omega
structure er (w w':World)(p g:Nat):Prop where
 os:w'.os=w.os
 tape:w'.tape=w.tape
 output:w'.output=w.output
 size:w'.heap.size=w.heap.size
 block:∀k,k≠p→k≠g→w'.heap[k]? =w.heap[k]?
theorem er.refl (w:World)(p g:Nat):er w w p g:=⟨rfl,rfl,rfl,rfl,fun _ _ _=>rfl⟩
theorem er.drew {w w':World}{p g:Nat}(h:er w w' p g):er w w'.drew p g:=⟨h.os,h.tape,h.output,h.size,h.block⟩
theorem er.set_ {w w':World}{p g:Nat}(h:er w w' p g){a:Addr}(ha:a.block=p∨a.block=g)(u:Value):er w (w'.setCell a u) p g:=
 ⟨h.os,h.tape,h.output,by simpa [World.setCell] using h.size,fun k hp hg=>by
  rw[Below.heap_setCell _ _ _ _ (by rcases ha with e|e<;>rw[e]<;>assumption)]
  exact h.block k hp hg⟩
theorem er.blk {w w':World}{p g b:Nat}{t:TypeId}{cs:Array Value}(h:er w w' p g)(hb:ab w b t cs)(h1:b≠p)(h2:b≠g):ab w' b t cs:=(h.block b h1 h2).trans hb
theorem er.below {w w':World}{p g B:Nat}(h:er w w' p g)(h1:B≤p)(h2:B≤g):Below B w w':=⟨h.os,h.tape,h.output,Nat.le_of_eq h.size.symm,fun k hk=>h.block k (by omega) (by omega)⟩
theorem er.own {w w':World}{p g aa n size:Nat}{e:TypeId}{v:Value}{xs:List Value}(h:er w w' p g)(ho:w.ownsRow aa e size v n xs)(h1:v.ownBlock≠some p)(h2:v.ownBlock≠some g):w'.ownsRow aa e size v n xs:=by
 refine⟨ho.1,?_⟩
 rcases ho.2 with hn|⟨b,cap,cur,rfl,hb,hgg,rest⟩
 ·exact .inl hn
 ·refine .inr ⟨b,cap,cur,rfl,hb,?_,rest⟩
  rw[h.block b (by simpa [Value.ownBlock] using h1) (by simpa [Value.ownBlock] using h2)]
  exact hgg
theorem yV (p g n c aa:Nat)(id:Int)(at_ skip J v:Nat)(t:List Int)(w:World)(hp:ab w p 375 #[X Y id,X Y at_,X Y skip])
  (ho:w.ownsRow aa 3 1 (G (some ⟨g,0,none⟩) n c) n (iv t))(hn:n≤251)(hat:at_ < n)(hsk:skip < 4294967296)(hw:pv t at_ skip n J v):
  Calls Pg 286 #[PT (some ⟨p,0,none⟩),G (some ⟨g,0,none⟩) n c] w fun e w'=>e=rT (tU #[])∧
   ab w' p 375 #[X Y id,X Y v,X Y skip]∧w'.ownsRow aa 3 1 (G (some ⟨g,0,none⟩) n c) n (iv (t.set v id))∧er w w' p g:=by
 have ax:=rq ho
 have az:g≠p:=fun e=>by
  have:=dj ho hp (by decide)
  exact this (by simp[Value.ownBlock,e])
 go_enter func286,ntmps286
 go_wp2
 go_loopg [] J (fun k wr=>∃i:Nat,i + k=J∧ab wr p 375 #[X Y id,X Y ((at_ + i * skip) % n:Nat),X Y skip]∧wr.ownsRow aa 3 1 (G (some ⟨g,0,none⟩) n c) n (iv t)∧er w wr p g)
 case atStart=>exact⟨0,by omega,by simpa [Nat.mod_eq_of_lt hat] using hp,ho,er.refl _ _ _⟩
 case round=>
  obtain⟨i,hik,aZ,hown,htwo⟩:=hrel
  have hn0:0 < n:=by omega
  have ha:(at_ + i * skip) % n < n:=Nat.mod_lt _ hn0
  have dO:(((at_ + i * skip) % n:Nat):Int) + (skip:Int)=(((at_ + i * skip) % n + skip:Nat):Int):=by omega
  have hmod:((((at_ + i * skip) % n + skip:Nat):Int)) % (n:Int)=(((at_ + (i + 1) * skip) % n:Nat):Int):=by
   rw[←Int.natCast_emod,Nat.mod_add_mod,Nat.add_assoc,Nat.add_mul,Nat.one_mul]
  have HS:=jH (aI dO hmod)
  have htk:Hid (i < J→t[(at_ + i * skip) % n]?≠some (-1)):=hw.taken i
  have hfr:Hid (i=J→(at_ + i * skip) % n=v∧t[v]? =some (-1)):=fun e=>⟨by rw[e];exact hw.goes,hw.free⟩
  clear dO hmod
  generalize (at_ + i * skip) % n=a at *
  generalize ha':(at_ + (i + 1) * skip) % n=a' at *
  have HA:=jH ha'
  clear ha'
  have hal:a < t.length:=by omega
  have hct:=nB hown a ha hal
  have hcf:=hown.frozenAt a
  obtain⟨hc0,hc1,hc2⟩:=aZ.c3
  have hf1:=aZ.frozen 1
  have hgl:Hid (t[a]? =some t[a]):=List.getElem?_eq_getElem hal
  by_cases hk0:i < J
  ·have hx:t[a]≠-1:=fun e=>htk.out hk0 (by rw[hgl.out,e])
   have ae:(t[a]==-1)=false:=by simpa using hx
   have af:(t[a] !=-1)=true:=by simpa using hx
   clear hx
   generalize t[a]=x at hct ae af hgl
   obtain⟨dO,hmod⟩:=HS.out
   have hsum:(a:Int) + (skip:Int)=((a + skip:Nat):Int):=dO
   have hsl:a + skip < 4294967547:=by omega
   generalize a + skip=z at *
   clear hal dO
   go_wp2
   go_region
   go_wp2
   go_roundg (gk - 1)
   case measure=>omega
   case rel=>
    refine⟨i + 1,by omega,?_,?_,?_⟩
    ·rw[HA.out]
     exact aZ.set_ 1 (X Y a')
    ·exact aB hown aZ (by decide) 1 _
    ·exact(htwo.set_ (a:=⟨p,1,none⟩) (.inl rfl) _).drew
  ·have hiJ:i=J:=by omega
   obtain⟨e1,e2⟩:=hfr.out hiJ
   have E1:=jH e1
   have hx:t[a]=-1:=by
    have h:t[a]? =some (-1):=by rw[e1];exact e2
    rw[List.getElem?_eq_getElem hal] at h
    exact Option.some.inj h
   rw[hx] at hct
   clear hx e1 e2 hgl
   go_wp2
   go_region
   go_wp2
   go_end0
   have h2:ab (wr.setCell ⟨g,a,none⟩ (X Y id)) p 375 #[X Y id,X Y a,X Y skip]:=aZ.far (p:=⟨g,a,none⟩) (Ne.symm az) _
   have h3:=rp hown a id
   rw[E1.out] at h2 h3
   rw[E1.out]
   exact⟨rfl,h2,h3,(htwo.set_ (a:=⟨g,v,none⟩) (.inr rfl) _).drew⟩
end
section
open Go.RowKit
def fv (p:Nat):Value:=.func (.func 286) #[PT (some ⟨p,0,none⟩)] #[]
def fq (ps T:List Nat):List Value:=T.map fun b=>fv (ps[b]?.getD 0)
theorem BD (ps T:List Nat):(fq ps T).length=T.length:=by simp[fq]
theorem BE (ps:List Nat)(p:Nat)(T:List Nat)(h:∀b∈T,b < ps.length):fq (ps++[p]) T=fq ps T:=by
 unfold fq
 apply List.map_congr_left
 intro b hb
 rw[List.getElem?_append_left (h b hb)]
theorem BC (ps:List Nat)(p k j:Nat)(T:List Nat)(h:ps.length=k):fq (ps++[p]) (T++List.replicate (j + 1) k)=fq (ps++[p]) (T++List.replicate j k)++[fv p]:=by
 rw[List.replicate_succ',←List.append_assoc]
 simp[fq,←h]
theorem ry {w:World}{b1 b2 s1 s2 n1 n2:Nat}{e1 e2:TypeId}{v1 v2:Value}{x1 x2:List Value}(h:w.ownsRow b1 e1 s1 v1 n1 x1)(h':w.ownsRow b2 e2 s2 v2 n2 x2)(az:e1≠e2):v1.ownBlock=none∨v1.ownBlock≠v2.ownBlock:=by
 rcases h.2 with⟨rfl,_⟩|⟨g,cap,cur,rfl,_,hh,_⟩
 ·exact .inl rfl
 ·right
  have:=dj h' hh (fun e=>az e.symm)
  simpa [Value.ownBlock] using fun e=>this e.symm
structure RowsIn (w:World)(aa:Nat)(bs:List Bk)(ps ats:List Nat):Prop where
 plen:ps.length=bs.length
 alen:ats.length=bs.length
 lo:∀p∈ps,aa≤p∧p < w.heap.size
 inc:ps.Pairwise (·< ·)
 blk:∀(j:Nat) (b:Bk) (p a:Nat),bs[j]? =some b→ps[j]? =some p→ats[j]? =some a→ab w p 375 #[X Y b.id,X Y a,X Y b.skip]
section
variable {w w':World}{aa:Nat}{bs:List Bk}{ps ats:List Nat}
theorem RowsIn.at_ (h:RowsIn w aa bs ps ats){p:Nat}(hp:p∈ps):∃cs,ab w p 375 cs:=by
 obtain⟨j,hj,rfl⟩:=List.getElem_of_mem hp
 have h1:j < bs.length:=by rw[←h.plen];exact hj
 have h2:j < ats.length:=by rw[h.alen];exact h1
 exact⟨_,h.blk j _ _ _ (List.getElem?_eq_getElem h1) (List.getElem?_eq_getElem hj) (List.getElem?_eq_getElem h2)⟩
theorem RowsIn.keep (h:RowsIn w aa bs ps ats)(hk:∀p∈ps,w'.heap[p]? =w.heap[p]?)(hs:w.heap.size≤w'.heap.size):RowsIn w' aa bs ps ats:=
 ⟨h.plen,h.alen,fun p hp=>⟨(h.lo p hp).1,Nat.lt_of_lt_of_le (h.lo p hp).2 hs⟩,h.inc,fun j b p a hb hp ha=>(hk p (List.mem_of_getElem? hp)).trans (h.blk j b p a hb hp ha)⟩
theorem RowsIn.below (h:RowsIn w aa bs ps ats)(hb:Below w.heap.size w w'):RowsIn w' aa bs ps ats:=h.keep (fun p hp=>hb.block p (h.lo p hp).2) hb.size
theorem RowsIn.grown (h:RowsIn w aa bs ps ats){b n s:Nat}{e:TypeId}{v:Value}{xs:List Value}(ho:w.ownsRow b e s v n xs)(az:e≠375)(hg:w.grownBy w' v.ownBlock):RowsIn w' aa bs ps ats:=
 h.keep (fun p hp=>by
  obtain⟨cs,hc⟩:=h.at_ hp
  exact hg.block p (h.lo p hp).2 (fun e=>dj ho hc az e.symm)) hg.size
theorem RowsIn.snoc (h:RowsIn w aa bs ps ats)(b:Bk)(p a:Nat)(hp:ab w p 375 #[X Y b.id,X Y a,X Y b.skip])(hb:aa≤p)(au:∀q∈ps,q < p):
  RowsIn w aa (bs++[b]) (ps++[p]) (ats++[a]):=by
 refine⟨by simp[h.plen],by simp[h.alen],?_,?_,?_⟩
 ·intro q hq
  rcases List.mem_append.1 hq with hq|hq
  ·exact h.lo q hq
  ·rw[List.mem_singleton.1 hq];exact⟨hb,hp.lt⟩
 ·rw[List.pairwise_append]
  refine⟨h.inc,by simp,?_⟩
  intro q hq r hr
  rw[List.mem_singleton.1 hr]
  exact au q hq
 ·intro j b' p' a' hb' hp' ha'
  have hl1:=h.plen
  have hl2:=h.alen
  by_cases hj:j < bs.length
  ·rw[List.getElem?_append_left hj] at hb'
   rw[List.getElem?_append_left (by omega)] at hp' ha'
   exact h.blk j b' p' a' hb' hp' ha'
  ·have hj':j=bs.length:=by
    have:=(List.getElem?_eq_some_iff.1 hb').1
    simp at this
    omega
   rw[List.getElem?_append_right (by omega)] at hb' hp' ha'
   rw[hj',Nat.sub_self] at hb'
   rw[show j - ps.length=0 from by omega] at hp'
   rw[show j - ats.length=0 from by omega] at ha'
   simp at hb' hp' ha'
   subst hb' hp' ha'
   exact hp
theorem RowsIn.two (h:RowsIn w aa bs ps ats){j p g v:Nat}{b:Bk}(hb:bs[j]? =some b)(hp:ps[j]? =some p)(ht:er w w' p g)(hg:g∉ps)
  (hn:ab w' p 375 #[X Y b.id,X Y v,X Y b.skip]):RowsIn w' aa bs ps (ats.set j v):=by
 refine⟨h.plen,by simpa using h.alen,fun q hq=>⟨(h.lo q hq).1,by rw[ht.size];exact(h.lo q hq).2⟩,h.inc,?_⟩
 intro i b' p' a' hb' hp' ha'
 by_cases hij:i=j
 ·subst hij
  rw[hb] at hb'
  rw[hp] at hp'
  cases hb'
  cases hp'
  have hi:i < ats.length:=by
   have:=(List.getElem?_eq_some_iff.1 ha').1
   simpa using this
  rw[List.getElem?_set_self hi] at ha'
  cases ha'
  exact hn
 ·rw[List.getElem?_set_ne (by omega)] at ha'
  have ao:=h.blk i b' p' a' hb' hp' ha'
  have az:p'≠p:=by
   have hi:=(List.getElem?_eq_some_iff.1 hp')
   have hj:=(List.getElem?_eq_some_iff.1 hp)
   obtain⟨hi1,rfl⟩:=hi
   obtain⟨hj1,rfl⟩:=hj
   have hpw:=List.pairwise_iff_getElem.1 h.inc
   rcases Nat.lt_or_ge i j with au|hge
   ·have:=hpw i j hi1 hj1 au;omega
   ·have:=hpw j i hj1 hi1 (by omega);omega
  exact ht.blk ao az (fun e=>hg (by rw[←e];exact List.mem_of_getElem? hp'))
end
end
section
open Go.RowKit
theorem kB:(Pg.info? 3).map (fun i=>(i.zero,i.size,i.bytes))=some (some (X Y 0),1,8):=by kernel_rfl
theorem AN:(Pg.info? 228).map (fun i=>(i.zero,i.size,i.bytes))=some (some .nilFunc,1,8):=by kernel_rfl
theorem qy (A:Option Addr)(na ca B n:Nat)(l:List Be)(w:World)(hr:Reads w B 3 A na (aC l))(hB:B≤w.heap.size)(hok:dD l)(hna:na≤46912496118442)(hnc:na≤ca)(hm:dd n=true):
  Calls Pg 178 #[G A na ca,X Y n] w fun e w'=>∃A' c',e=rT (G A' n c')∧w'.ownsRow w.heap.size 3 1 (G A' n c') n (iv (tableF l n))∧Below w.heap.size w w':=by
 obtain⟨h3,h251⟩:=lL hm
 have HM:=jH (lM n (by omega))
 rw[hm] at HM
 obtain⟨i0,hi,hz0,hz1,hz2⟩:=info_parts kB
 have ax:=hr.be_length
 go_enter func178,ntmps178
 go_wp2_with (first|(at_make;refine cu ?_)|(go_at_call 83;refine(HM.out _).mono ?_;rintro e w' ⟨rfl,rfl⟩))
 refine cw ?_
 refine wpList_make_full _ rfl _ _ 51 rfl w.heap.size 3 i0 _ 1 underlying51 hi hz0 hz1 _ _ _ _ n rfl rfl rfl rfl (by rw[hz2];omega) (by unfold maxLen;omega) (nR _) ?_
 intro w1 hown hg
 have ae:Below w.heap.size w w1:=(bR _ _).grown hg (nR _) (by simp)
 have aQ:w1.ownsRow w.heap.size 3 1 (G (some ⟨w.heap.size,0,none⟩) n n) n (iv (List.replicate 0 (-1)++List.replicate (n - 0) 0)):=by
  have e:(madeCells (Value.int IntKind.i64 0).cells (n * 1)).toList=iv (List.replicate 0 (-1)++List.replicate (n - 0) 0):=by
   rw[Nat.mul_one]
   show (madeCells #[Value.int IntKind.i64 0] n).toList=_
   rw[toList_madeCells_one]
   simp[iv]
  rw[←e]
  exact hown
 clear hown hg
 go_wp2_with fail
 go_loopw [21] (fun i wr=>∃k:Nat,k≤n∧i=X Y k∧wr.ownsRow w.heap.size 3 1 (G (some ⟨w.heap.size,0,none⟩) n n) n (iv (List.replicate k (-1)++List.replicate (n - k) 0))∧Below w.heap.size w wr) (fun i _=>n - (intOf i).toNat)
 case atStart=>exact⟨0,by omega,rfl,aQ,ae⟩
 case round=>
  obtain⟨k,hk,rfl,hown,hbr⟩:=hrel
  clear aQ ae
  by_cases hkn:k < n
  ·have hl:(List.replicate k (-1:Int)++List.replicate (n - k) 0).length=n:=by simp;omega
   have hc:=nB hown k hkn (by rw[hl];exact hkn)
   have hf:=hown.frozenAt k
   generalize (List.replicate k (-1:Int)++List.replicate (n - k) 0)[k]=x at hc
   have hset:Hid ((List.replicate k (-1:Int)++List.replicate (n - k) 0).set k (-1)=List.replicate (k + 1) (-1)++List.replicate (n - (k + 1)) 0):=by
    show _=_
    rw[List.set_append_right _ _ (by simp),List.length_replicate,Nat.sub_self,show n - k=(n - (k + 1)) + 1 from by omega,List.replicate_succ,List.set_cons_zero,List.replicate_succ' (n:=k),List.append_assoc]
    rfl
   go_wp2_with fail
   go_roundw
   case rel=>
    refine⟨k + 1,by omega,by go_num,?_,hbr.setCell (p:=⟨w.heap.size,k,none⟩) (nR _) _⟩
    have:=rp hown k (-1)
    rw[hset.out] at this
    exact this
   case measure=>simp[intOf];omega
  ·have hkk:k=n:=by omega
   have bH:wr.ownsRow w.heap.size 3 1 (G (some ⟨w.heap.size,0,none⟩) n n) n (iv (List.replicate n (-1))):=by
    have:=hown
    rwa [hkk,Nat.sub_self,List.replicate_zero,List.append_nil] at this
   clear hown
   go_wp2_with fail
   refine(zx A na ca B l wr (hr.below (hbr.mono hB)) (nT hB hbr.size) hok hna hnc).mono ?_
   rintro e w2 ⟨⟨bb,rfl,hbb⟩,af⟩
   have hB2:Below w.heap.size w w2:=hbr.trans (af.mono hbr.size)
   have hlt2:w.heap.size < wr.heap.size:=by
    rcases bH.2 with⟨h,_⟩|⟨g,cap,cur,h,_,hh,_⟩
    ·cases h
    ·cases h;exact(Array.getElem?_eq_some_iff.1 hh).1
   have bK:=aJ bH af
   clear bH
   rcases bb with _|_
   ·have hno:Hid (tableF l n=List.replicate n (-1)):=qB (fun h=>by rw[ax] at h;exact Bool.false_ne_true (hbb.2 h))
    go_wp2_with fail
    go_ret
    refine⟨_,_,rfl,?_,hB2⟩
    rw[hno.out]
    exact bK
   ·have bu:gP na l:=hbb.1 rfl
    have hyes:Hid (tableF l n=jr (l.map (cH n)) n):=qz (by rw[ax];exact bu)
    have hgood:Good (l.map (cH n)) n:=sG hm (by rw[ax];exact bu)
    have HG:Hid (gP na l∧Good (l.map (cH n)) n):=⟨bu,hgood⟩
    have hna16:na≤16:=bu.2.1
    have hna0:0 < na:=bu.1
    clear hbb bu hgood
    go_wp2_with fail
    have hg2:w.heap.size < w2.heap.size:=by have:=af.size;omega
    go_loopw [7,34] (fun v i wr=>∃(k:Nat) (ps:List Nat) (A7:Option Addr) (c7 m7:Nat),k≤na∧i=X Y k∧v=G A7 m7 c7∧
      wr.ownsRow w.heap.size 228 1 (G A7 m7 c7) m7 (fq ps (eH 0 ((l.take k).map (cH n))))∧RowsIn wr w.heap.size ((l.take k).map (cH n)) ps (((l.take k).map (cH n)).map Bk.off)∧
      wr.ownsRow w.heap.size 3 1 (G (some ⟨w.heap.size,0,none⟩) n n) n (iv (List.replicate n (-1)))∧Below w.heap.size w wr∧w.heap.size < wr.heap.size∧m7≤10 * k) (fun _ i _=>na - (intOf i).toNat)
    case atStart=>exact⟨0,[],none,0,0,by omega,rfl,rfl,World.ownsRow_nil _ _ _ _,⟨rfl,rfl,by simp,by simp,by simp⟩,bK,hB2,hg2,by omega⟩
    case round=>
     obtain⟨k,ps,A7,c7,m7,hk,rfl,rfl,cT,hrows,hownt,hbr',hgr,hm7⟩:=hrel
     clear bK hB2 hg2 af hlt2 hbr
     by_cases hkna:k < na
     ·obtain⟨b,off,hl,rfl,hc0,hc1,hc2⟩:=(hr.below (hbr'.mono hB)).be hkna
      have hokb:=hok _ (List.getElem_mem hl)
      have hmayk:=HG.out.1.2.2 k hkna
      have HT:Hid ((l.take (k + 1)).map (cH n)=(l.take k).map (cH n)++[cH n l[k]]):=by
       show _=_
       rw[List.take_succ_eq_append_getElem hl,List.map_append]
       rfl
      obtain⟨_,hid0,hid1,hw0,hw1,_⟩:=hmayk
      have HB1:Hid ((cH n l[k]).id=l[k].id∧(cH n l[k]).weight=l[k].weight.toNat∧(cH n l[k]).off=fI l[k].id n∧(cH n l[k]).skip=ef l[k].id n):=⟨rfl,rfl,rfl,rfl⟩
      obtain⟨wt,hwt,hwt1,hwt10⟩:∃wt:Nat,l[k].weight=(wt:Int)∧1≤wt∧wt≤10:=⟨l[k].weight.toNat,by omega,by omega,by omega⟩
      rw[hwt] at hc2 HB1
      generalize cH n l[k]=bk at HT HB1
      generalize l[k].id=x at *
      generalize l[k].addr=ad at *
      clear hokb hwt hw0 hw1
      have aA:Below w.heap.size w (wr.alloc (cL #[X Y x,X Z ad,X Y wt] 34)):=hbr'.alloc (by omega) _
      have hbox:ab (wr.alloc (cL #[X Y x,X Z ad,X Y wt] 34)) wr.heap.size 34 #[X Y x,X Z ad,X Y wt]:=ab.new _ _ _
      have hown7b:=cT.alloc (cL #[X Y x,X Z ad,X Y wt] 34)
      have hownb:=hownt.alloc (cL #[X Y x,X Z ad,X Y wt] 34)
      have hrowsb:=hrows.below (w':=wr.alloc (cL #[X Y x,X Z ad,X Y wt] 34)) ((bR _ _).alloc (nR _) _)
      have hszb:(wr.alloc (cL #[X Y x,X Z ad,X Y wt] 34)).heap.size=wr.heap.size + 1:=by simp
      obtain⟨dc,-,hd2⟩:=hbox.c3
      clear cT hownt hrows
      go_wp2_with fail
      generalize wr.alloc (cL #[X Y x,X Z ad,X Y wt] 34)=w3 at *
      refine(xB x n h3 h251 hm (by omega) w3).mono ?_
      rintro e w4 ⟨rfl,aq⟩
      have hbox4:=hbox.below aq hbox.lt
      have hown74:=aJ hown7b aq
      have bF:=aJ hownb aq
      have hrows4:=hrowsb.below aq
      have hB4:Below w.heap.size w w4:=aA.trans (aq.mono (by omega))
      have hs4:=aq.size
      clear hbox hown7b hownb hrowsb aA dc hd2
      obtain⟨dc,-,hd2⟩:=hbox4.c3
      have hd2':(w4.alloc (cL #[X Y x,X Y (fI x n:Nat),X Y (ef x n:Nat)] 375)).cell? ⟨wr.heap.size,2,none⟩=some (X Y wt):=by
       rw[World.cell?_alloc_lt _ _ _ (World.block_lt_of_cell? w4 _ hd2)];exact hd2
      have hpl:ps.length=k:=by rw[hrows4.plen];simp;omega
      have hT0:∀q∈eH 0 ((l.take k).map (cH n)),q < ps.length:=fun q hq=>by
       have:=lj (bs:=(l.take k).map (cH n)) hq
       rw[hrows4.plen];exact this
      have hrow5:ab (w4.alloc (cL #[X Y x,X Y (fI x n:Nat),X Y (ef x n:Nat)] 375)) w4.heap.size 375 #[X Y x,X Y (fI x n:Nat),X Y (ef x n:Nat)]:=ab.new _ _ _
      have hrows5:=(hrows4.below (w':=w4.alloc (cL #[X Y x,X Y (fI x n:Nat),X Y (ef x n:Nat)] 375)) ((bR _ _).alloc (nR _) _)).snoc bk w4.heap.size bk.off
       (by rw[HB1.out.1,HB1.out.2.2.1,HB1.out.2.2.2];exact hrow5) (by omega) (fun q hq=>(hrows4.lo q hq).2)
      have hown75:=hown74.alloc (cL #[X Y x,X Y (fI x n:Nat),X Y (ef x n:Nat)] 375)
      have cC:=bF.alloc (cL #[X Y x,X Y (fI x n:Nat),X Y (ef x n:Nat)] 375)
      have hB5:Below w.heap.size w (w4.alloc (cL #[X Y x,X Y (fI x n:Nat),X Y (ef x n:Nat)] 375)):=hB4.alloc (by omega) _
      have hs5:w.heap.size < (w4.alloc (cL #[X Y x,X Y (fI x n:Nat),X Y (ef x n:Nat)] 375)).heap.size:=by simp;omega
      rw[←BE ps w4.heap.size _ hT0] at hown75
      have HPL:=jH hpl
      have hend:Hid (eH 0 ((l.take (k + 1)).map (cH n))=eH 0 ((l.take k).map (cH n))++List.replicate wt k):=by
       show _=_
       rw[HT.out,p6,HB1.out.2.1]
       congr 2
       simp
       omega
      have hend2:Hid (((l.take (k + 1)).map (cH n)).map Bk.off=((l.take k).map (cH n)).map Bk.off++[bk.off]):=by
       show _=_
       rw[HT.out]
       simp
      generalize eH 0 ((l.take k).map (cH n))=T at *
      clear hrow5 hrows4 hown74 bF hT0 hpl
      go_wp2_with fail
      clear dc hd2 hbox4
      obtain⟨wo,hwo⟩:∃wo:World,wo=wr:=⟨_,rfl⟩
      generalize hp4:w4.heap.size=p4 at *
      generalize w4.alloc (cL #[X Y x,X Y (fI x n:Nat),X Y (ef x n:Nat)] 375)=w5 at *
      clear hwo hp4 hd2'
      go_loopw [7,53] (fun v i wq=>∃(j:Nat) (A8:Option Addr) (c8 m8:Nat),j≤wt∧i=X Y j∧v=G A8 m8 c8∧Hid (m8=m7 + j)∧
        wq.ownsRow w.heap.size 228 1 (G A8 m8 c8) m8 (fq (ps++[p4]) (T++List.replicate j k))∧RowsIn wq w.heap.size ((l.take k).map (cH n)++[bk]) (ps++[p4]) (((l.take k).map (cH n)).map Bk.off++[bk.off])∧
        wq.ownsRow w.heap.size 3 1 (G (some ⟨w.heap.size,0,none⟩) n n) n (iv (List.replicate n (-1)))∧Below w.heap.size w wq∧w.heap.size < wq.heap.size) (fun _ i _=>wt - (intOf i).toNat)
      case atStart=>exact⟨0,A7,c7,m7,by omega,rfl,rfl,rfl,by simpa using hown75,hrows5,cC,hB5,hs5⟩
      case round=>
       obtain⟨j,A8,c8,m8,hj,rfl,rfl,hm8,hown8,hrows8,hownt8,hb8,hs8⟩:=hrel
       clear hown75 hrows5 cC hB5 hs5
       by_cases hjw:j < wt
       ·have hm8b:m8≤1000:=by have:=hm8.out;omega
        go_wp2_with (at_builtin;refine cu ?_)
        refine cw ?_
        refine pK rfl (.tmp 55) (.tmp 58) _ rfl 228 _ AN rfl underlying370 w.heap.size (G A8 m8 c8) m8 _ rfl (hown8.alloc _) (wr.heap.size + 1) _ 1 1 [fv p4] rfl
         (dQ _ _ _ _ 1 _ _ (by rfl) (by rfl) (by rfl) _ (by rfl)) (by intro u hu;rw[List.mem_singleton.1 hu];rfl) (m8 + 1) rfl (by omega) (by simp;omega) ?_
        intro A9 c9 w9 hown9 hb9 hg9 _
        have hB9:Below w.heap.size w w9:=(hb8.alloc (by omega) _).trans hb9
        have hs9:w.heap.size < w9.heap.size:=by have:=hb9.size;simp at this;omega
        have hrows9:=(hrows8.below (w':=wr.alloc (cL #[fv p4] 228)) ((bR _ _).alloc (nR _) _)).grown (hown8.alloc _) (by decide) hg9
        have hownt9:=(hownt8.alloc (cL #[fv p4] 228)).kept hg9 (ry (hownt8.alloc (cL #[fv p4] 228)) (hown8.alloc _) (by decide))
        rw[←BC ps p4 k j T HPL.out] at hown9
        clear hown8 hrows8 hownt8 hb8 hb9 hg9
        go_wp2_with fail
        go_roundw
        case rel=>exact⟨j + 1,A9,c9,m8 + 1,by omega,by go_num,rfl,by show _=_;have:=hm8.out;omega,hown9,hrows9,hownt9,hB9,hs9⟩
        case measure=>simp[intOf];omega
       ·have hjj:j=wt:=by omega
        have hfin:Hid (wr.ownsRow w.heap.size 228 1 (G A8 m8 c8) m8 (fq (ps++[p4]) (eH 0 ((l.take (k + 1)).map (cH n))))∧RowsIn wr w.heap.size ((l.take (k + 1)).map (cH n)) (ps++[p4]) (((l.take (k + 1)).map (cH n)).map Bk.off)):=by
         rw[hend.out,hend2.out,HT.out,←hjj]
         exact⟨hown8,hrows8⟩
        clear hown8 hrows8
        go_wp2_with fail
        go_roundw
        case rel=>exact⟨k + 1,ps++[p4],A8,c8,m8,by omega,by go_num,rfl,hfin.out.1,hfin.out.2,hownt8,hb8,hs8,by have:=hm8.out;omega⟩
        case measure=>simp[intOf];omega
     ·have hkk':k=na:=by omega
      have hfin:Hid (wr.ownsRow w.heap.size 228 1 (G A7 m7 c7) m7 (fq ps (dL (l.map (cH n))))∧RowsIn wr w.heap.size (l.map (cH n)) ps ((l.map (cH n)).map Bk.off)):=by
       have h1:=cT
       have h2:=hrows
       rw[List.take_of_length_le (by omega)] at h1 h2
       exact⟨h1,h2⟩
      clear cT hrows
      go_wp2_with fail
      clear hkk'
      obtain⟨cT,hrows⟩:=hfin.out
      clear hfin
      have hGood:=HG.out.2
      have hT7:m7=(dL (l.map (cH n))).length:=by have:=cT.1;rw[BD] at this;omega
      have hTpos:=mY hGood
      have HF:Hid (tableF l n=(run (l.map (cH n)) n n).2):=hyes.out
      have hskip:∀b∈l.map (cH n),b.skip < 4294967296:=by
       intro b hb
       obtain⟨y,_,rfl⟩:=List.mem_map.1 hb
       show ef y.id n < 4294967296
       have:ff 2 (eA y.id) % (n - 1) < n - 1:=Nat.mod_lt _ (by omega)
       unfold ef
       omega
      generalize l.map (cH n)=bs at *
      have HT7:=jH hT7
      have hm70:0 < m7:=by omega
      have hm7b:m7≤1000:=by omega
      clear hT7 hTpos hyes
      go_loopg [64] n (fun gk i wq=>∃q:Nat,q + gk=n∧i=X Y q∧RowsIn wq w.heap.size bs ps (run bs n q).1∧wq.ownsRow w.heap.size 3 1 (G (some ⟨w.heap.size,0,none⟩) n n) n (iv (run bs n q).2)∧
        wq.ownsRow w.heap.size 228 1 (G A7 m7 c7) m7 (fq ps (dL bs))∧Below w.heap.size w wq)
      case atStart=>exact⟨0,by omega,rfl,hrows,hownt,cT,hbr'⟩
      case round=>
       obtain⟨q,hq,rfl,hrq,htq,h7q,hbq⟩:=hrel
       clear hrows hownt cT hbr' hgr
       by_cases hqn:q < n
       ·have hrq1:q % m7 < m7:=Nat.mod_lt _ hm70
        have hmodq:((q:Int) % (m7:Int))=((q % m7:Nat):Int):=(Int.natCast_emod q m7).symm
        have hTq:q % m7 < (dL bs).length:=by have:=HT7.out;omega
        have hinv:=kd hGood q (by omega)
        have hbl:(dL bs)[q % m7] < bs.length:=lj (List.getElem_mem hTq)
        obtain⟨_,at_,J,hat,hatn,hwalk,hturn⟩:=mV hGood hinv hqn hbl
        have hrun:Hid (run bs n (q + 1)=turn bs n (run bs n q) (dL bs)[q % m7]):=by
         show _=_
         rw[run,←HT7.out,List.getElem?_eq_getElem hTq]
         rfl
        have hpl:(dL bs)[q % m7] < ps.length:=by rw[hrq.plen];exact hbl
        obtain⟨g7,rfl,hg7,_⟩:=fy h7q hm70
        have hcell:wr.cell? ⟨g7,q % m7,none⟩=some (fv ps[(dL bs)[q % m7]]):=by
         rw[h7q.cellAt (q % m7) (by omega)]
         unfold fq
         rw[List.getElem?_map,List.getElem?_eq_getElem hTq]
         simp[hpl]
        have aZ:=hrq.blk _ _ _ _ (List.getElem?_eq_getElem hbl) (List.getElem?_eq_getElem hpl) hat
        have hnt:w.heap.size∉ps:=fun hm=>by
         obtain⟨cs,hc⟩:=hrq.at_ hm
         exact dj htq hc (by decide) rfl
        have hget:=List.getElem?_eq_getElem hbl
        have hgetp:=List.getElem?_eq_getElem hpl
        have hskl:(bs[(dL bs)[q % m7]]).skip < 4294967296:=hskip _ (List.getElem_mem hbl)
        rw[hturn] at hrun
        have HRUN:=hrun
        generalize (dL bs)[q % m7]=bq at *
        generalize bs[bq]=bk at *
        generalize ps[bq]=p at *
        generalize findF (run bs n q).2 bk.skip n n at_=v at *
        have c1:=yV p w.heap.size n n w.heap.size bk.id at_ bk.skip J v (run bs n q).2 wr aZ htq h251 hatn hskl hwalk
        have C1:=jH c1
        have HX:Hid (RowsIn wr w.heap.size bs ps (run bs n q).1∧wr.ownsRow w.heap.size 228 1 (G (some ⟨g7,0,none⟩) m7 c7) m7 (fq ps (dL bs))∧ab wr p 375 #[X Y bk.id,X Y at_,X Y bk.skip]∧wr.ownsRow w.heap.size 3 1 (G (some ⟨w.heap.size,0,none⟩) n n) n (iv (run bs n q).2)∧bs[bq]? =some bk∧ps[bq]? =some p):=⟨hrq,h7q,aZ,htq,hget,hgetp⟩
        clear hrq h7q aZ htq hwalk hturn hinv hat hget hgetp c1 hrun hpl hbl hTq
        have hq7:q % m7 < m7:=hrq1
        generalize q % m7=s7 at *
        unfold fv at hcell
        go_wp2_with fail
        refine C1.out.mono ?_
        rintro e w6 ⟨rfl,hblk6,ht6,h2⟩
        obtain⟨hrq,h7q,aZ,htq,hget,hgetp⟩:=HX.out
        have hplo:=(hrq.lo p (List.mem_of_getElem? hgetp)).1
        have hrows6:=hrq.two hget hgetp h2 hnt hblk6
        have h76:=h2.own h7q (dj h7q aZ (by decide)) (by
         rcases ry h7q htq (by decide) with h|h
         ·cases h
         ·exact h)
        have hb6:Below w.heap.size w w6:=hbq.trans (h2.below hplo (nR _))
        clear hrq h7q aZ htq hget hgetp hblk6 C1 HX h2
        go_wp2_with fail
        go_roundg (gk - 1)
        case measure=>omega
        case rel=>
         refine⟨q + 1,by omega,by go_num,?_,?_,h76,hb6⟩
         ·rw[HRUN.out];exact hrows6
         ·rw[HRUN.out];exact ht6
       ·have hqq:q=n:=by omega
        have hfin2:Hid (wr.ownsRow w.heap.size 3 1 (G (some ⟨w.heap.size,0,none⟩) n n) n (iv (tableF l n))):=by
         rw[HF.out]
         have:=htq
         rwa [hqq] at this
        clear htq hrq h7q
        go_wp2_with fail
        go_ret
        exact⟨_,_,rfl,hfin2.out,hbq⟩
end
section
open Go.RowKit Go.Maps
theorem eo (w:World)(e:TypeId)(fr:Nat×Nat)(C:Array Value)(n size B g:Nat)(hn:C.size=n * size)(hB:B=w.heap.size + 1)(hg:g=w.heap.size)(xs:List Value)(hx:C.toList=xs):
  Reads (w.alloc (.cells C e fr)) B size (some ⟨g,0,none⟩) n xs:=by
 subst hB hg hx
 refine⟨by simpa using hn,fun _=>⟨_,rfl,by show w.heap.size < w.heap.size + 1;omega,?_⟩⟩
 intro j u hu
 have h1:=(dQ w e fr C C.size (w.heap.size + 1) w.heap.size rfl rfl rfl C.toList rfl)
 have h0:0 < C.size:=by
  have:=(List.getElem?_eq_some_iff.1 hu).1
  simp at this
  omega
 obtain⟨ad,ha,_,hc⟩:=h1.2 h0
 injection ha with ha
 subst ha
 exact hc j u hu
end
section
open Go.RowKit
theorem AO:(Pg.info? 104).map (fun i=>(i.zero,i.size,i.bytes))=some (some (aG #[X Y 0,.string ⟨#[]⟩,.string ⟨#[]⟩,PT none]),4,48):=by kernel_rfl
theorem DZ (l:List et):∀u∈eE l,u.oneCell'=true:=by
 intro u hu
 unfold eE at hu
 rw[List.mem_flatMap] at hu
 obtain⟨b,_,hb⟩:=hu
 simp[et.cells] at hb
 rcases hb with rfl|rfl|rfl|rfl<;>rfl
theorem D0 (a b:List et):eE (a++b)=eE a++eE b:=by unfold eE;rw[List.flatMap_append]
theorem vT {w:World}{ops:Array Oper}{o:Oper}{a:Act}{K:Act→World→Prop}{Q:Exit→Act→World→Prop}{E:Prop}(hw:Region.wanted o (yielded ops a.tmps)=true)(s x:Operand)
  (ho:o.op=.call {callee:=.builtin .append,args:=#[s,x],argTypes:=#[100,100]})
  (aa:Nat)(v:Value)(n:Nat)(l:List et)(hs:a.eval s=v)(hown:w.ownsRow aa 104 4 v n (eE l))
  (B:Nat)(A:Option Addr)(m c:Nat)(news:List et)(hx:a.eval x=G A m c)(hr:Reads w B 4 A m (eE news))
  (k:Nat)(hk:n + m=k)(eB:k≤1099511627776)(an:aa≤w.heap.size)
  (h:∀A' c' w',w'.ownsRow aa 104 4 (G A' k c') k (eE (l++news))→w.grownBy w' v.ownBlock→K (a.put o.dst (G A' k c')) w'):
  if Region.wanted o (yielded ops a.tmps)=true then Oper.wp Pg o a w K Q else E:=by
 subst hk
 obtain⟨i0,hi0,hz0,hz1,hz2⟩:=info_parts AO
 rw[if_pos hw]
 refine kV w s x 100 ho aa 104 i0 _ 4 48 underlying100 hi0 hz0 hz1 hz2 rfl (by omega) v n (eE l) hs hown B A m c (eE news) hx hr (DZ _) (by unfold maxLen;omega) (by omega) an ?_
 intro v' w' h1 h2 h3
 obtain⟨A',c',rfl⟩:=cV h1
 rw[←D0] at h1
 exact h A' c' w' h1 h2
def gI (D:aF)(c:et):aF:={D with now:=eV c D.now,chg:=D.chg++[c]}
theorem Db {c:et}{m:List (ByteArray×Nat)}{p:ByteArray×Nat}(h:p∈eV c m):(∃q∈m,q.2=p.2)∨c.f=some p.2:=by
 unfold eV at h
 split at h
 ·cases hf:c.f with
  |none=>rw[hf] at h;exact .inl ⟨p,h,rfl⟩
  |some f=>
   rw[hf] at h
   rcases nN h with h|rfl
   ·exact .inl ⟨p,h,rfl⟩
   ·exact .inr rfl
 ·split at h
  ·cases hf:av m c.name with
   |none=>rw[hf] at h;exact .inl ⟨p,h,rfl⟩
   |some f=>
    rw[hf] at h
    rcases nN (rU h) with h|rfl
    ·exact .inl ⟨p,h,rfl⟩
    ·exact .inl ⟨_,gW hf,rfl⟩
  ·exact .inl ⟨p,rU h,rfl⟩
theorem ar.changed {w w':World}{aa d mn ms:Nat}{D:aF}(h:ar w aa d mn ms D)(c:et)(hcf:∀f,c.f=some f→f∈aU D.fs)(cv:Value)
  (hb:ab w' d 102 #[X Y D.quota,.map (some mn),.map (some ms),cv,X Y D.ops,X Y D.fail])
  (hc:w'.ownsRow aa 104 4 cv (D.chg.length + 1) (eE (D.chg++[c])))(hm:aL w' Value.string aY aW mn (eV c D.now))(hf:Fr [102,104] [mn] aa w w'):ar w' aa d mn ms (gI D c):=
 {lod:=h.lod,lon:=h.lon,los:=h.los,hi:=nT h.hi hf.size,ne:=h.ne,blk:=⟨cv,hb,by unfold gI;dsimp only;rw[List.length_append];exact hc⟩,now:=hm,sure:=hf.mapIs h.sure (by have:=h.ne;simp;omega),files:=h.files.fr hf (by decide) (by decide),ids:=h.ids,
  nowIn:=fun p hp=>(Db hp).elim (fun⟨q,hq,e⟩=>e▸h.nowIn q hq) (fun e=>hcf _ e),sureIn:=h.sureIn,chgIn:=fun c' hc' f hf'=>by
   rcases List.mem_append.1 hc' with h1|h1
   ·exact h.chgIn c' h1 f hf'
   ·rw[List.mem_singleton.1 h1] at hf';exact hcf f hf',quotaB:=h.quotaB,opsB:=h.opsB,failB:=h.failB}
theorem tI (aa d mn ms:Nat)(D:aF)(c:et)(w:World)(h:ar w aa d mn ms D)(hc:uo c D.now)(hcf:∀f,c.f=some f→f∈aU D.fs)(hnl:D.chg.length≤1000000):
  Calls Pg 314 #[PT (some ⟨d,0,none⟩),aG #[X Y c.kind,.string c.name,.string c.tt,fc c.f]] w fun e w'=>e=rT (tU #[])∧ar w' aa d mn ms (gI D c)∧Fr [102,104] [mn] aa w w':=by
 obtain⟨cv,hb,hco⟩:=h.blk
 obtain⟨CA,CC,rfl⟩:=cV hco
 have hal:=(bR w.heap.size w).alloc (nR _) (cL #[X Y c.kind,.string c.name,.string c.tt,fc c.f] 104)
 have hq:=ab.new w 104 #[X Y c.kind,.string c.name,.string c.tt,fc c.f]
 have hD1:=h.made hal
 have ae:=hb.below hal hb.lt
 have CD:=jH (fun W (hm:aL W Value.string aY aW mn D.now)=>Da c mn aa D.now W hm hc h.lon)
 have HC:=jH (aI hcf hc)
 obtain⟨kz,hkz⟩:∃z:Int,(c.kind:Int)=z:=⟨_,rfl⟩
 rw[hkz] at hal hq hD1 ae CD⊢
 obtain⟨fp,hfp⟩:∃v,c.f.map (fun g=>(⟨g,0,none⟩:Addr))=v:=⟨_,rfl⟩
 unfold fc at hal hq hD1 ae CD⊢
 rw[hfp] at hal hq hD1 ae CD⊢
 have HK:=jH (aI hkz hfp)
 have hco1:=aJ hco hal
 have H:=jH (aI h (aI hq (aI hD1 (aI ae hal))))
 have HO:=jH hco1
 clear hco1
 clear h hb hco hq hD1 ae hkz hfp hc hcf hal
 go_enter func314,ntmps314
 go_wp2_with fail
 obtain⟨q,hqe⟩:∃q,q=w.heap.size:=⟨_,rfl⟩
 rw[←hqe] at H⊢
 have HQ:=jH hqe
 clear hqe
 generalize w.alloc (cL #[X Y kz,.string c.name,.string c.tt,.pointer fp] 104)=w1 at *
 have d0:w1.drew.cell? ⟨q,0,none⟩=some (X Y kz):=by have:=H.out.2.1.cell 0;simpa using this
 have d1:w1.drew.cell? ⟨q,1,none⟩=some (.string c.name):=by have:=H.out.2.1.cell 1;simpa using this
 have d2:w1.drew.cell? ⟨q,2,none⟩=some (.string c.tt):=by have:=H.out.2.1.cell 2;simpa using this
 have d3:w1.drew.cell? ⟨q,3,none⟩=some (.pointer fp):=by have:=H.out.2.1.cell 3;simpa using this
 have d4:w1.drew.cell? ⟨d,1,none⟩=some (.map (some mn)):=by have:=H.out.2.2.2.1.cell 1;simpa using this
 go_region_held3 (fun wS=>wS.cell? ⟨q,0,none⟩=some (X Y kz)∧wS.cell? ⟨q,1,none⟩=some (.string c.name)∧wS.cell? ⟨q,2,none⟩=some (.string c.tt)∧wS.cell? ⟨q,3,none⟩=some (.pointer fp)∧wS.cell? ⟨d,1,none⟩=some (.map (some mn))) (first|with_reducible exact⟨d0,d1,d2,d3,d4⟩|with_reducible exact⟨e0,e1,e2,e3,e4⟩|fail)
  (first|(go_at_call 35;(with_reducible refine(CD.out _ H.out.2.2.1.drew.now).mono ?_);rintro e w2 ⟨rfl,hm2,hf2⟩;have hq2:=hf2.blk _ _ _ H.out.2.1.drew (by simp);have af:=hf2.blk _ _ _ H.out.2.2.2.1.drew (by simp);have e0:=hq2.cell 0;have e1:=hq2.cell 1;have e2:=hq2.cell 2;have e3:=hq2.cell 3;have e4:=af.cell 1;simp only[ga,gz,gN] at e0 e1 e2 e3 e4))
 go_wp2_with fail
 have hco2:=hf2.own (show w1.drew.ownsRow aa 104 4 (G CA D.chg.length CC) D.chg.length (eE D.chg) from HO.out) (by simp)
 have hs2:aa≤w2.heap.size:=nT H.out.2.2.1.hi hf2.size
 have g3:=af.cell 3
 have fz:=af.frozen 3
 simp only[ga,gz,gN] at g3
 have hdlt:=af.lt
 have hqlt:=hq2.lt
 have az:104≠102:=by decide
 have HX:=jH (aI hq2 (aI af (aI hf2 hm2)))
 clear d0 d1 d2 d3 d4 e4 hf2 hm2 hq2 CD
 have hrd:Hid (∀W:World,Reads (W.alloc (cL #[X Y kz,.string c.name,.string c.tt,.pointer fp] 104)) (W.heap.size + 1) 4 (some ⟨W.heap.size,0,none⟩) 1 (eE [c])):=fun W=>by
  have e:eE [c]=[X Y kz,.string c.name,.string c.tt,.pointer fp]:=by rw[←HK.out.1,←HK.out.2];rfl
  rw[e]
  exact eo _ _ _ _ 1 4 _ _ (by rfl) (by rfl) (by rfl) _ (by rfl)
 go_region_law (refine vT rfl (.tmp 14) (.tmp 16) rfl aa (G CA D.chg.length CC) D.chg.length D.chg (by simp[Act.eval,Act.put]) (hco2.alloc _) (w2.heap.size + 1) (some ⟨w2.heap.size,0,none⟩) 1 1 [c] (by simp[Act.eval,Act.put]) (hrd.out w2) (D.chg.length + 1) rfl (by omega) (by simp;omega) ?_;intro A3 c3 w3 bK hg3;have hbk3:ab w3 d 102 #[X Y D.quota,.map (some mn),.map (some ms),G CA D.chg.length CC,X Y D.ops,X Y D.fail]:=ab.grown ((af.alloc _).drew) hg3 (fun e=>dj hco2 af az e.symm);have hc3:=hbk3.cell 3;have hf3:=hbk3.frozen 3;simp only[ga,gz,gN] at hc3)
 all_goals
  go_wp2_with fail
  go_end0
  obtain⟨h,hq0,hD1,ae,hal⟩:=H.out
  obtain⟨hq2,af,hf2,hm2⟩:=HX.out
  have hk3:=hbk3.set_ 3 (G A3 (D.chg.length + 1) c3)
  have fr1:Fr [102,104] [mn] aa w w1.drew:=(Fr.of_below _ _ (HQ.out▸hal) h.hi).drew
  have fr2:=fr1.trans (hf2.mono (by simp) (by simp))
  have fr3:=(fr2.trans (Fr.of_below _ _ ((bR w2.heap.size w2).alloc (nR _) (cL #[X Y kz,.string c.name,.string c.tt,.pointer fp] 104)) hs2)).drew
  have fr4:=fr3.grown ((hco2.alloc _).drew) hg3 (by decide) (nR _) (by simp;omega)
  have fr5:=fr4.set_ hbk3 (by decide) h.lod 3 (G A3 (D.chg.length + 1) c3)
  have hm5:aL (w3.setCell ⟨d,3,none⟩ (G A3 (D.chg.length + 1) c3)) Value.string aY aW mn (eV c D.now):=by
   have m3:=(hm2.alloc (cL #[X Y kz,.string c.name,.string c.tt,.pointer fp] 104)).drew
   have fr6:Fr [102,104] [] aa _ _:=((Fr.refl _ _ _ _).grown ((hco2.alloc _).drew) hg3 (by decide) (nR _) (by simp;omega)).set_ hbk3 (by decide) h.lod 3 (G A3 (D.chg.length + 1) c3)
   exact fr6.mapIs m3 (by simp)
  exact⟨rfl,h.changed c HC.out.1 _ hk3 (aB bK hbk3 (by decide) 3 _) hm5 fr5,fr5⟩
def aF.op (D:aF):aF:={D with ops:=D.ops + 1}
theorem me {D:aF}(h:D.fail=0):dH D=(0,D.op):=by unfold dH aF.op;rw[if_neg (by omega)]
theorem oQ {D:aF}(h:D.fail=0){name:ByteArray}{f:Nat}(hm:av D.now name=some f):gG D name=(some f,0,D.op):=by
 unfold gG
 rw[me h]
 show (if (0:Int)=0 then _ else _)=_
 rw[if_pos rfl]
 show (match av D.now name with|some f=>_|none=>_)=_
 rw[hm]
theorem nD {w w':World}{aa n size:Nat}{e:TypeId}{v:Value}{xs:List Value}{row:Option Nat}(h:w.ownsRow aa e size v n xs)(hg:w.grownBy w' row)(az:v.ownBlock=none∨v.ownBlock≠row):w'.ownsRow aa e size v n xs:=by
 refine⟨h.1,?_⟩
 rcases h.2 with hn|⟨g,cap,cur,rfl,hb,hh,rest⟩
 ·exact .inl hn
 ·refine .inr ⟨g,cap,cur,rfl,hb,?_,rest⟩
  have:(Value.slice (some ⟨g,0,none⟩) n cap).ownBlock=some g:=rfl
  rw[this] at az
  rw[hg.block g (Array.getElem?_eq_some_iff.1 hh).1 (az.resolve_left (by simp))]
  exact hh
theorem E7 (aa base2 d mn ms:Nat)(D:aF)(name:ByteArray)(A:Option Addr)(n c:Nat)(l:List Nat)(w:World)(h:ar w aa d mn ms D)(aP:D.ops≤900000000000)(bo:D.fail=0)(dv:fJ name=true)(aV:D.now.length≤100000)
  (f:Nat)(p:bM)(hm:av D.now name=some f)(hp:av D.fs f=some p)(hsrc:w.ownsRow base2 5 1 (G A n c) n (bv l))(hlb:ay l)(cy:db D (some f) n=true):
  Calls Pg 276 #[PT (some ⟨d,0,none⟩),.string name,G A n c] w fun e w'=>e=rT (X Y 0)∧ar w' aa d mn ms {D.op with fs:=aw D.fs f ⟨p.b++l,p.sure⟩}∧Fr [102,111,5] [] aa w w':=by
 have CB:=jH (l9 aa d mn ms D w h aP)
 rw[me bo] at CB
 dsimp only at CB
 have CN:=jH (fun w=>nM name w)
 rw[dv] at CN
 have hok:aY name:=by have:=of_decide_eq_true dv;unfold aY;omega
 have hroom2:dM D≤D.quota∧n + dM D≤D.quota∧n + iM D (some f)≤1048576:=by unfold db at cy;simp only[Option.isSome_some,Bool.true_or,Bool.and_true,decide_eq_true_eq] at cy;exact cy
 have hqb:=h.quotaB
 have CR:=jH (fun W (hW:ar W aa d mn ms D.op)=>xC aa d mn ms D.op W hW aV f n (by exact h.nowIn _ (gW hm)) (by omega))
 rw[show db D.op (some f) n=true from cy] at CR
 have HS:=jH hsrc
 have HP:=jH (aI hm (aI hp (aI hlb hroom2)))
 have hN:=jH (aI hok h)
 clear h hsrc hm hp hlb cy hroom2 aV dv hok
 go_enter func276,ntmps276
 go_wp2_with fail
 refine CB.out.mono ?_
 rintro e w1 ⟨rfl,hD1,hf1⟩
 go_wp2_with fail
 refine(CN.out _).mono ?_
 rintro e w2 ⟨rfl,rfl⟩
 obtain⟨cv,hb,hc⟩:=hD1.blk
 obtain⟨-,c1⟩:=hb.c2
 have hlk:=hD1.now.lookup (P:=Pg) encS (t:=97) underlying97 (z:=PT none) (by kernel_rfl) name hN.out.1 false
 rw[show av D.op.now name=some f from HP.out.1] at hlk
 simp only[Bool.false_eq_true,if_false,aW] at hlk
 have H1:=jH (aI hD1 hf1)
 clear hb hc hD1 hf1
 go_wp2_with fail
 refine(CR.out _ H1.out.1).mono ?_
 rintro e w3 ⟨rfl,hbl⟩
 clear hlk
 have hD3:=H1.out.1.made hbl
 have hf3:=H1.out.2.made hbl H1.out.1.hi
 have hs3:=hf3.own HS.out (by decide)
 obtain⟨R,hR,hd⟩:=hD3.files
 obtain⟨a1,a2,a3,a4,a5,a6⟩:=hR f p HP.out.2.1
 obtain⟨A0,c0,eR⟩:=cV a3
 have a2':=a2
 have a3':=a3
 rw[eR] at a2' a3'
 have g0:=a2'.c1
 have fz:=a2'.frozen 0
 have hn3:n + p.b.length≤1048576:=by have:=HP.out.2.2.2.2.2;have e:iM D (some f)=p.b.length:=by {show gd D.fs f=_;unfold gd;rw[HP.out.2.1]};rw[e] at this;exact this
 have HD:=jH (aI hD3 (aI hf3 (aI hs3 (aI a2 (aI a3 (aI hR hd))))))
 have HE:=jH (aI eR (aI a1 (aI a4 (aI a5 a6))))
 have HO:=jH (aI a2' a3')
 have hflt:=a2.lt
 have hbs:=hD3.hi
 clear hD3 hf3 hs3 a2 a3 hR hd eR a1 a4 a5 a6 a2' a3' c1
 go_wp2_with (at_builtin;refine cu ?_)
 refine cw ?_
 refine ee rfl (.tmp 42) (.tmp 43) _ rfl 5 cJ underlying23 aa (G A0 p.b.length c0) p.b.length p.b rfl HO.out.2 w3.heap.size A n c l rfl (Reads.of_own HD.out.2.2.1) (p.b.length + n) rfl (by omega) hbs ?_
 intro A3 c3 w4 bF hbl4 hg4 hblk4
 have aq:=HO.out.1.grown hg4 (fun e=>dj HO.out.2 HO.out.1 (by decide) e.symm)
 have hflt4:=aq.lt
 have fz4:=aq.frozen 0
 have g4:=aq.c1
 clear g0 fz hflt
 go_wp2_with fail
 go_ret
 obtain⟨hD3,hf3,hs3,a2,a3,hR,hd⟩:=HD.out
 obtain⟨eR,a1,a4,a5,a6⟩:=HE.out
 have hk4:=aq.set_ 0 (G A3 (p.b.length + n) c3)
 have fr0:Fr [111,5] [] aa w3 w4:=(Fr.refl [111,5] [] aa w3).grown HO.out.2 hg4 (by decide) (nR _) hbs
 have fr4:=fr0.set_ aq (by decide) a1 0 (G A3 (p.b.length + n) c3)
 have hl:l.length=n:=by have:=HS.out.1;simp[bv] at this;omega
 have hfa:gR (w4.setCell ⟨f,0,none⟩ (G A3 (p.b.length + n) c3)) aa (aw D.fs f ⟨p.b++l,p.sure⟩):=by
  refine kH f (G A3 (p.b.length + n) c3) _ ?_ hd a1 hk4 (by have:=aB bF aq (by decide) 0 (G A3 (p.b.length + n) c3);rw[show (p.b++l).length=p.b.length + n by simp[hl]];exact this) (by simp;omega) (by simp;omega) (fun x hx=>(List.mem_append.1 hx).elim (a6 x) (HP.out.2.2.1 x)) ?_
  ·intro g q hq az
   obtain⟨b1,b2,b3,b4,b5,b6⟩:=hR g q hq
   have hdis:=hd g f q p hq HP.out.2.1 az
   have hob:(R g).ownBlock=none∨(R g).ownBlock≠(Value.slice A0 p.b.length c0).ownBlock:=by rw[←eR];exact hdis
   refine⟨b1,?_,?_,b4,b5,b6⟩
   ·exact(b2.grown hg4 (fun e=>dj HO.out.2 b2 (by decide) e.symm)).far az _
   ·exact aB (nD b3 hg4 hob) aq (by decide) 0 _
  ·intro g q hq az
   have hdis:=hd g f q p hq HP.out.2.1 az
   rw[eR] at hdis
   rcases hdis with e|e
   ·exact .inl e
   ·cases hv:(R g).ownBlock with
    |none=>exact .inl rfl
    |some x=>
     right
     rcases hblk4 with e4|e4
     ·rw[e4,←hv];exact e
     ·rw[e4]
      obtain⟨b1,b2,b3,b4,b5,b6⟩:=hR g q hq
      have:=(b3.lt x hv).2
      simp;omega
 exact⟨rfl,ar.refile (D:=D.op) f _ hD3 fr4 hfa,(hf3.mono (by decide) (by simp)).trans (fr4.mono (by decide) (by simp))⟩
theorem ar.row {w:World}{aa d mn ms:Nat}{D:aF}(h:ar w aa d mn ms D){f:Nat}{p:bM}(hp:av D.fs f=some p):
  ∃A0 c0,ab w f 111 #[G A0 p.b.length c0,X Y p.sure]∧w.ownsRow aa 5 1 (G A0 p.b.length c0) p.b.length (bv p.b)∧aa≤f∧p.b.length≤1048576∧
   ∀(l:List Nat) (k:Nat) (A3:Option Addr) (c3:Nat) (w4:World),ay l→p.b.length + l.length=k→k≤1048576→w4.ownsRow aa 5 1 (G A3 k c3) k (bv (p.b++l))→w.grownBy w4 (Value.slice A0 p.b.length c0).ownBlock→((Value.slice A3 k c3).ownBlock=(Value.slice A0 p.b.length c0).ownBlock∨(Value.slice A3 k c3).ownBlock=some w.heap.size)→
    ar (w4.setCell ⟨f,0,none⟩ (G A3 k c3)) aa d mn ms {D with fs:=aw D.fs f ⟨p.b++l,p.sure⟩}∧Fr [111,5] [] aa w (w4.setCell ⟨f,0,none⟩ (G A3 k c3)):=by
 obtain⟨R,hR,hd⟩:=h.files
 obtain⟨a1,a2,a3,a4,a5,a6⟩:=hR f p hp
 obtain⟨A0,c0,eR⟩:=cV a3
 rw[eR] at a2 a3
 refine⟨A0,c0,a2,a3,a1,a5,fun l k A3 c3 w4 hl hk hk2 bF hg4 hblk4=>?_⟩
 subst hk
 have aq:=a2.grown hg4 (fun e=>dj a3 a2 (by decide) e.symm)
 have hk4:=aq.set_ 0 (G A3 (p.b.length + l.length) c3)
 have fr0:Fr [111,5] [] aa w w4:=(Fr.refl [111,5] [] aa w).grown a3 hg4 (by decide) (nR _) h.hi
 have fr4:=fr0.set_ aq (by decide) a1 0 (G A3 (p.b.length + l.length) c3)
 refine⟨ar.refile f _ h fr4 ?_,fr4⟩
 refine kH f (G A3 (p.b.length + l.length) c3) _ ?_ hd a1 hk4 (by have:=aB bF aq (by decide) 0 (G A3 (p.b.length + l.length) c3);rw[show (p.b++l).length=p.b.length + l.length by simp];exact this) (by simp;omega) (by simp;omega) (fun x hx=>(List.mem_append.1 hx).elim (a6 x) (hl x)) ?_
 ·intro g q hq az
  obtain⟨b1,b2,b3,b4,b5,b6⟩:=hR g q hq
  have hdis:=hd g f q p hq hp az
  have hob:(R g).ownBlock=none∨(R g).ownBlock≠(Value.slice A0 p.b.length c0).ownBlock:=by rw[←eR];exact hdis
  refine⟨b1,?_,?_,b4,b5,b6⟩
  ·exact(b2.grown hg4 (fun e=>dj a3 b2 (by decide) e.symm)).far az _
  ·exact aB (nD b3 hg4 hob) aq (by decide) 0 _
 ·intro g q hq az
  have hdis:=hd g f q p hq hp az
  rw[eR] at hdis
  rcases hdis with e|e
  ·exact .inl e
  ·cases hv:(R g).ownBlock with
   |none=>exact .inl rfl
   |some x=>
    right
    rcases hblk4 with e4|e4
    ·rw[e4,←hv];exact e
    ·rw[e4]
     obtain⟨b1,b2,b3,b4,b5,b6⟩:=hR g q hq
     have:=(b3.lt x hv).2
     simp;omega
theorem Fr.grown_none {aa:Nat}{w w':World}(hg:w.grownBy w' none)(hs:aa≤w.heap.size):Fr [] [] aa w w':=
 ⟨(bR _ _).grown hg hs (fun k hk=>by cases hk),fun g t cs h _=>h.grown hg (by simp),fun b es c h0 _=>(hg.block b (Array.getElem?_eq_some_iff.1 h0).1 (by simp)).trans h0⟩
theorem BH {w:World}{aa d mn ms:Nat}{D:aF}(h:ar w aa d mn ms D){q:Nat}(hq:w.heap.size≤q):q∉aU D.fs:=fun hm=>by
 obtain⟨p,hp⟩:=jc hm
 obtain⟨R,hR,hd⟩:=h.files
 have:=(hR q p hp).2.1.lt
 omega
theorem ar.fresh {w:World}{aa d mn ms:Nat}{D:aF}(h:ar w aa d mn ms D):
  ar (w.alloc (cL #[G none 0 0,X Y 0] 111)) aa d mn ms {D with fs:=aw D.fs w.heap.size ⟨[],0⟩}:=by
 have hb:=(bR w.heap.size w).alloc (nR _) (cL #[G none 0 0,X Y 0] 111)
 have hw:=h.made hb
 have hfr:Fr [111,5] [] aa w (w.alloc (cL #[G none 0 0,X Y 0] 111)):=Fr.of_below _ _ hb h.hi
 refine ar.refile w.heap.size ⟨[],0⟩ h hfr ?_
 obtain⟨R,hR,hd⟩:=hw.files
 exact kH w.heap.size (G none 0 0) ⟨[],0⟩ (fun g p hp _=>hR g p hp) hd h.hi (ab.new w _ _) ⟨rfl,.inl ⟨rfl,rfl⟩⟩ (by simp) (by simp) (by simp[ay]) (fun g q hq az=>by
  cases hv:(R g).ownBlock with
  |none=>exact .inl rfl
  |some x=>right;simp[Value.ownBlock])
theorem yO:aY ByteArray.empty:=by unfold aY;decide
theorem zi {κ ν:Type}[DecidableEq κ](m:List (κ×ν))(x:κ)(u v:ν):aw (aw m x u) x v=aw m x v:=by
 have hin:(aw m x u).any (fun p=>p.1=x)=true:=by
  have:x∈aU (aw m x u):=iq.2 (.inr rfl)
  obtain⟨p,hp,e⟩:=List.mem_map.1 this
  exact List.any_eq_true.2 ⟨p,hp,by simpa using e⟩
 have e1:aw (aw m x u) x v=(aw m x u).map (fun p=>if p.1=x then (x,v) else p):=by
  show (if _ then _ else _)=_
  rw[if_pos hin]
 rw[e1]
 unfold aw
 split
 ·rw[List.map_map]
  apply List.map_congr_left
  intro p _
  simp only[Function.comp]
  by_cases hp:p.1=x<;>simp[hp]
 ·rename_i hn
  rw[List.map_append]
  have:m.map (fun p=>if p.1=x then (x,v) else p)=m:=by
   conv=>rhs;rw[←List.map_id m]
   apply List.map_congr_left
   intro p hp
   rw[if_neg (fun e=>hn (List.any_eq_true.2 ⟨p,hp,by simpa using e⟩))]
   rfl
  rw[this]
  simp
theorem uj (aa base2 d mn ms:Nat)(D:aF)(name:ByteArray)(A:Option Addr)(n c:Nat)(l:List Nat)(w:World)(h:ar w aa d mn ms D)(aP:D.ops≤900000000000)(bo:D.fail=0)(dv:fJ name=true)(aV:D.now.length≤100000)
  (hcl:D.chg.length≤1000000)(hm:av D.now name=none)(hsrc:w.ownsRow base2 5 1 (G A n c) n (bv l))(hlb:ay l)(cy:db D none n=true):
  Calls Pg 276 #[PT (some ⟨d,0,none⟩),.string name,G A n c] w fun e w'=>e=rT (X Y 0)∧(∃f,f∉aU D.fs∧ar w' aa d mn ms {gI D.op ⟨1,name,ByteArray.empty,some f⟩ with fs:=aw D.fs f ⟨l,0⟩})∧Fr [102,104,111] [mn] aa w w':=by
 have CB:=jH (l9 aa d mn ms D w h aP)
 rw[me bo] at CB
 dsimp only at CB
 have CN:=jH (fun w=>nM name w)
 rw[dv] at CN
 have hok:aY name:=by have:=of_decide_eq_true dv;unfold aY;omega
 have hroom2:dM D≤D.quota∧n + dM D≤D.quota∧n + 0≤1048576:=by unfold db at cy;simp only[Bool.and_eq_true,decide_eq_true_eq] at cy;exact cy.1
 have hqb:=h.quotaB
 have CR:=jH (fun W (hW:ar W aa d mn ms D.op)=>xD aa d mn ms D.op W hW aV n (by omega))
 rw[show db D.op none n=true from cy] at CR
 have HS:=jH hsrc
 have HP:=jH (aI hm (aI hlb (aI hroom2 hcl)))
 have hN:=jH (aI hok h)
 clear h hsrc hm hlb cy hroom2 aV dv hok hcl
 go_enter func276,ntmps276
 go_wp2_with fail
 refine CB.out.mono ?_
 rintro e w1 ⟨rfl,hD1,hf1⟩
 go_wp2_with fail
 refine(CN.out _).mono ?_
 rintro e w2 ⟨rfl,rfl⟩
 obtain⟨cv,hb,hc⟩:=hD1.blk
 obtain⟨-,c1⟩:=hb.c2
 have hlk:=hD1.now.lookup (P:=Pg) encS (t:=97) underlying97 (z:=PT none) (by kernel_rfl) name hN.out.1 false
 rw[show av D.op.now name=none from HP.out.1] at hlk
 simp only[Bool.false_eq_true,if_false,aW] at hlk
 have H1:=jH (aI hD1 hf1)
 clear hb hc hD1 hf1
 go_wp2_with fail
 refine(CR.out _ H1.out.1).mono ?_
 rintro e w3 ⟨rfl,hbl⟩
 clear hlk
 have hD3:=H1.out.1.made hbl
 have hf3:=H1.out.2.made hbl H1.out.1.hi
 have hs3:=hf3.own HS.out (by decide)
 have HD:=jH (aI hD3 (aI hf3 hs3))
 clear hD3 hf3 hs3 c1
 obtain⟨q,hq⟩:∃q,q=w3.heap.size:=⟨_,rfl⟩
 have hDq:=HD.out.1.fresh
 have hkey:=BH HD.out.1 (nR _)
 have hfq:=HD.out.2.1.made ((bR w3.heap.size w3).alloc (nR _) (cL #[G none 0 0,X Y 0] 111)) HD.out.1.hi
 rw[←hq] at hDq hkey
 have CC:=jH (tI aa d mn ms {D.op with fs:=aw D.fs q ⟨[],0⟩} ⟨1,name,ByteArray.empty,some q⟩ _ hDq
  ⟨.inl rfl,hN.out.1,yO,fun _=>⟨q,rfl⟩,fun h=>by cases h⟩ (fun f hf=>by injection hf with hf;subst hf;exact iq.2 (.inr rfl)) HP.out.2.2.2)
 have HQ:=jH (aI hkey hfq)
 clear hDq hkey hfq
 go_wp2_with fail
 rw[←hq]
 refine CC.out.mono ?_
 rintro e w4 ⟨rfl,hD4,hf4⟩
 have hs4:=(HD.out.2.2.alloc (cL #[G none 0 0,X Y 0] 111))
 have hs5:=hf4.own hs4 (by decide)
 clear hs4
 obtain⟨A0,c0,a2,a3,a1,a5,hgrow⟩:=hD4.row (f:=q) (p:=⟨[],0⟩) (eP _ _ _)
 have bI:A0=none∧c0=0:=by
  have e1:ab w4 q 111 #[G none 0 0,X Y 0]:=hf4.blk _ _ _ (hq▸ab.new w3 _ _) (by decide)
  unfold ab at e1 a2
  rw[a2] at e1
  injection e1 with e1
  injection e1 with e1
  simpa using e1
 obtain⟨rfl,rfl⟩:=bI
 have HA1:=jH a1
 have g0:=a2.c1
 have fz:=a2.frozen 0
 have HO:=jH (aI a2 a3)
 have hflt:=a2.lt
 have hbs:=hD4.hi
 have HD4:=jH (aI hD4 (aI hf4 hgrow))
 have HS5:=jH hs5
 clear hD4 hf4 hgrow a1 a2 a3 a5 hs5 hq CC
 go_wp2_with (at_builtin;refine cu ?_)
 refine cw ?_
 refine ee rfl (.tmp 42) (.tmp 43) _ rfl 5 cJ underlying23 aa (G none 0 0) 0 [] rfl HO.out.2 w4.heap.size A n c l rfl (Reads.of_own HS5.out) n (by omega) (by have:=HP.out.2.2.1.2.2;omega) hbs ?_
 intro A3 c3 w5 cC hbl5 hg5 hblk5
 have aK:=HO.out.1.grown hg5 (fun e=>dj HO.out.2 HO.out.1 (by decide) e.symm)
 have hflt5:=aK.lt
 have fz5:=aK.frozen 0
 have g5:=aK.c1
 clear g0 fz hflt
 go_wp2_with fail
 go_ret
 have hl:l.length=n:=by have:=HS.out.1;simp[bv] at this;omega
 obtain⟨r1,r2⟩:=HD4.out.2.2 l n A3 c3 w5 HP.out.2.1 (by simpa using hl) (by have:=HP.out.2.2.1.2.2;omega) cC hg5 hblk5
 have e0:aw (aw D.fs q ⟨[],0⟩) q ⟨l,0⟩=aw D.fs q ⟨l,0⟩:=zi _ _ _ _
 have r1':ar (w5.setCell ⟨q,0,none⟩ (G A3 n c3)) aa d mn ms {gI D.op ⟨1,name,ByteArray.empty,some q⟩ with fs:=aw (aw D.fs q ⟨[],0⟩) q ⟨l,0⟩}:=r1
 rw[e0] at r1'
 exact⟨rfl,⟨q,HQ.out.1,r1'⟩,((HQ.out.2.mono (by decide) (by simp)).trans (HD4.out.2.1.mono (by decide) (by simp))).trans (((Fr.grown_none hg5 hbs).mono (by simp) (by simp)).set_ aK (by simp) HA1.out 0 _)⟩
theorem xK (aa d mn ms:Nat)(D:aF)(frm tn:ByteArray)(w:World)(h:ar w aa d mn ms D)(aP:D.ops≤900000000000)(bo:D.fail=0)(hfrm:aY frm)(hto:fJ tn=true)(az:(frm.toList==tn.toList)=false)
  (hcl:D.chg.length≤1000000)(f:Nat)(hm:av D.now frm=some f):
  Calls Pg 283 #[PT (some ⟨d,0,none⟩),.string frm,.string tn] w fun e w'=>e=rT (X Y 0)∧ar w' aa d mn ms (gI D.op ⟨2,frm,tn,none⟩)∧Fr [102,104] [mn] aa w w':=by
 have CF:=jH (oP aa d mn ms D frm w h aP hfrm)
 rw[oQ bo hm] at CF
 dsimp only[fc,Option.map_some] at CF
 have CN:=jH (fun w=>nM tn w)
 rw[hto] at CN
 have hok:aY tn:=by have:=of_decide_eq_true hto;unfold aY;omega
 have CC:=jH (fun W (hW:ar W aa d mn ms D.op)=>tI aa d mn ms D.op ⟨2,frm,tn,none⟩ W hW ⟨.inr (.inl rfl),hfrm,hok,fun h=>(by cases h),fun _=>⟨f,hm⟩⟩ (fun f hf=>(by cases hf)) hcl)
 clear h hm hok hto hfrm hcl
 go_enter func283,ntmps283
 go_wp2_with fail
 refine CF.out.mono ?_
 rintro e w1 ⟨rfl,hD1,hf1⟩
 have H1:=jH (aI hD1 hf1)
 clear hD1 hf1
 go_wp2_with fail
 refine(CN.out _).mono ?_
 rintro e w2 ⟨rfl,rfl⟩
 go_wp2_with fail
 refine(CC.out _ H1.out.1).mono ?_
 rintro e w2 ⟨rfl,hD2,hf2⟩
 have H2:=jH (aI hD2 hf2)
 clear hD2 hf2
 go_wp2_with fail
 go_ret
 exact⟨rfl,H2.out.1,(H1.out.2.mono (by decide) (by simp)).trans H2.out.2⟩
def eZ (D:aF):aF:={D.op with sure:=D.now,chg:=[]}
theorem qC (aa d mn ms:Nat)(D:aF)(w:World)(h:ar w aa d mn ms D)(aP:D.ops≤900000000000)(bo:D.fail=0):
  Calls Pg 197 #[PT (some ⟨d,0,none⟩)] w fun e w'=>e=rT (X Y 0)∧(∃ms',w.heap.size≤ms'∧ar w' aa d mn ms' (eZ D))∧Fr [102] [] aa w w':=by
 have CB:=jH (l9 aa d mn ms D w h aP)
 rw[me bo] at CB
 dsimp only at CB
 have H0:=jH h
 clear h
 go_enter func197,ntmps197
 go_wp2_with fail
 refine CB.out.mono ?_
 rintro e w1 ⟨rfl,hD1,hf1⟩
 obtain⟨cv,hb,hc⟩:=hD1.blk
 obtain⟨-,c1⟩:=hb.c2
 have CC:=jH (oV w1 hD1.now)
 have H1:=jH (aI hD1 (aI hf1 (aI hb hc)))
 clear hb hc hD1 hf1
 go_wp2_with fail
 refine CC.out.mono ?_
 rintro e w2 ⟨rfl,hm2,hbl2,hs2⟩
 have af:=H1.out.2.2.1.below hbl2 H1.out.2.2.1.lt
 obtain⟨-,-,g2,g3⟩:=af.c4
 obtain⟨-,-,fz2,fz3⟩:=af.f4
 have hblt:=af.lt
 have H2:=jH (aI hm2 (aI hbl2 hs2))
 clear hm2 hbl2 hs2 c1
 go_wp2_with fail
 go_ret
 obtain⟨hD1,hf1,hb,hc⟩:=H1.out
 obtain⟨hm2,hbl2,hs2⟩:=H2.out
 have hD2:=hD1.made hbl2
 have hk:=(af.set_ 2 (.map (some w1.heap.size))).set_ 3 (G none 0 0)
 have fr2:Fr [102] [] aa w2 ((w2.setCell ⟨d,2,none⟩ (.map (some w1.heap.size))).setCell ⟨d,3,none⟩ (G none 0 0)):=((Fr.refl _ _ _ _).set_ af (by decide) hD1.lod 2 _).set_ (af.set_ 2 (.map (some w1.heap.size))) (by decide) hD1.lod 3 _
 have hw:w.heap.size≤w1.heap.size:=hf1.size
 refine⟨rfl,⟨w1.heap.size,hw,?_⟩,(hf1.made hbl2 hD1.hi).trans fr2⟩
 exact{lod:=hD1.lod,lon:=hD1.lon,los:=hD1.hi,hi:=nT hD2.hi fr2.size,ne:=fun e=>by have:=hD1.now.lt;omega,blk:=⟨G none 0 0,hk,rfl,.inl ⟨rfl,rfl⟩⟩,now:=fr2.mapIs hD2.now (by simp),sure:=fr2.mapIs hm2 (by simp),files:=hD2.files.fr fr2 (by decide) (by decide),ids:=hD1.ids,nowIn:=hD1.nowIn,sureIn:=hD1.nowIn,chgIn:=fun c hc'=>absurd hc' (by simp[eZ]),quotaB:=hD1.quotaB,opsB:=hD1.opsB,failB:=hD1.failB}
theorem yW (n:Nat)(w:World)(hn:n≤1000000):
  Calls Pg 30 #[X Y n] w fun e w'=>∃d mn ms,e=rT (PT (some ⟨d,0,none⟩))∧ar w' w.heap.size d mn ms ⟨n,0,0,[],[],[],[]⟩∧Below w.heap.size w w':=by
 have hmk:∀W:World,(Instr.makeMap 97 none).run Pg W=.ok (.map (some W.heap.size)) (W.alloc (.map #[] 0)):=fun _=>rfl
 have d1:min (n:Int) 67108864=(n:Int):=by omega
 have d2:max 0 (n:Int)=(n:Int):=by omega
 go_enter func30,ntmps30
 go_wp2_with fail
 go_ret
 have m1:aL (w.alloc (.map #[] 0)) Value.string aY aW w.heap.size []:=aL.made w
 have m2:aL ((w.alloc (.map #[] 0)).alloc (.map #[] 0)) Value.string aY aW (w.heap.size + 1) []:=by have:=aL.made (ek:=Value.string) (ok:=aY) (ev:=aW) (w.alloc (.map #[] 0));simpa using this
 have hb:=(((bR w.heap.size w).alloc (nR _) (.map #[] 0)).alloc (by simp) (.map #[] 0)).alloc (by simp;omega) (cL #[X Y n,.map (some w.heap.size),.map (some (w.heap.size + 1)),G none 0 0,X Y 0,X Y 0] 102)
 refine⟨w.heap.size + 2,w.heap.size,w.heap.size + 1,rfl,?_,hb⟩
 exact{lod:=by omega,lon:=by omega,los:=by omega,hi:=by simp;omega,ne:=by omega,blk:=⟨G none 0 0,ab.new_ (by simp),rfl,.inl ⟨rfl,rfl⟩⟩,now:=(m1.alloc _).alloc _,sure:=m2.alloc _,files:=⟨fun _=>G none 0 0,fun f p hp=>by simp[av] at hp,fun f g p q hp=>by simp[av] at hp⟩,ids:=by simp[aU],nowIn:=fun p hp=>(by cases hp),sureIn:=fun p hp=>(by cases hp),chgIn:=fun c hc=>(by cases hc),quotaB:=by dsimp only;omega,opsB:=by simp,failB:=by simp}
def KN:List TypeId:=[102,104,111]
def KD:List TypeId:=[102,104,111,5]
def cY (D:aF)(name:ByteArray)(f:Nat)(l:List Nat):aF:={gI D.op ⟨1,name,ByteArray.empty,some f⟩ with fs:=aw D.fs f ⟨l,0⟩}
theorem qn (aa d mn ms:Nat)(D:aF)(name:ByteArray)(w:World)(h:ar w aa d mn ms D)(dv:aY name):
  Calls Pg 167 #[PT (some ⟨d,0,none⟩),.string name] w fun e w'=>e=rT (bL (av D.now name).isSome)∧Below w.heap.size w w':=by
 have CR:=jH (kg aa d mn ms D name w h dv)
 have HR:Hid (eM D name=none↔(av D.now name).isSome=false):=by show _↔_;unfold eM;simp
 generalize eM D name=r at *
 generalize (av D.now name).isSome=s at *
 clear h
 go_enter func167,ntmps167
 go_wp2_with fail
 refine CR.out.mono ?_
 rintro e w1 ⟨hret,hb⟩
 cases r with
 |none=>
  obtain rfl:=hret
  obtain rfl:=HR.out.1 rfl
  go_wp2_with fail
  go_ret
  exact⟨rfl,hb⟩
 |some l=>
  obtain⟨A,c,rfl,-,-⟩:=hret
  have hs:s=true:=by
   cases s with
   |true=>rfl
   |false=>exact absurd (HR.out.2 rfl) (by simp)
  subst hs
  go_wp2_with fail
  go_ret
  exact⟨rfl,hb⟩
theorem tH (aa d mn ms:Nat)(D:aF)(name:ByteArray)(w:World)(h:ar w aa d mn ms D)(dv:aY name)(hm:av D.now name=none):
  Calls Pg 274 #[PT (some ⟨d,0,none⟩),.string name] w fun e w'=>e=rT (X Y 0)∧Below w.heap.size w w':=by
 have CT:=jH (qn aa d mn ms D name w h dv)
 rw[hm] at CT
 dsimp only[Option.isSome_none] at CT
 clear h hm
 go_enter func274,ntmps274
 go_wp2_with fail
 refine CT.out.mono ?_
 rintro e w1 ⟨rfl,hb⟩
 go_wp2_with fail
 go_ret
 exact⟨rfl,hb⟩
theorem Ew (aa d mn ms:Nat)(D:aF)(name:ByteArray)(bx bn:Nat)(w:World)(hx:ab w bx 63 #[PT (some ⟨d,0,none⟩)])(hy:ab w bn 9 #[.string name])(h:ar w aa d mn ms D)(dv:aY name)(hm:av D.now name=none):
  Calls Pg 273 #[PT (some ⟨bx,0,none⟩),PT (some ⟨bn,0,none⟩)] w fun e w'=>e=rT (X Y 0)∧Below w.heap.size w w':=by
 have CC:=jH (tH aa d mn ms D name w h dv hm)
 have c0:=hx.c1
 have c1:=hy.c1
 clear h hm hx hy
 go_enter func273,ntmps273
 go_wp2_with fail
 refine CC.out.mono ?_
 rintro e w1 ⟨rfl,hb⟩
 go_wp2_with fail
 go_ret
 exact⟨rfl,hb⟩
theorem Ev (aa d mn ms:Nat)(D:aF)(name:ByteArray)(bx bn:Nat)(w:World)(hx:ab w bx 63 #[PT (some ⟨d,0,none⟩)])(hy:ab w bn 9 #[.string name])(h:ar w aa d mn ms D)(aP:D.ops≤900000000000)(bo:D.fail=0)(dv:fJ name=true)(aV:D.now.length≤100000)
  (hcl:D.chg.length≤1000000)(hm:av D.now name=none)(cy:db D none 0=true):
  Calls Pg 275 #[PT (some ⟨bx,0,none⟩),PT (some ⟨bn,0,none⟩)] w fun e w'=>e=rT (X Y 0)∧(∃f,f∉aU D.fs∧ar w' aa d mn ms (cY D name f []))∧Fr [102,104,111] [mn] aa w w':=by
 have CC:=jH (uj aa aa d mn ms D name none 0 0 [] w h aP bo dv aV hcl hm ⟨rfl,.inl ⟨rfl,rfl⟩⟩ (by intro x hx;cases hx) cy)
 have c0:=hx.c1
 have c1:=hy.c1
 clear h hm hx hy
 go_enter func275,ntmps275
 go_wp2_with fail
 refine CC.out.mono ?_
 rintro e w1 ⟨rfl,hD,hf⟩
 have H:=jH (aI hD hf)
 clear hD hf
 go_wp2_with fail
 go_ret
 exact⟨rfl,H.out.1,H.out.2⟩
theorem fK (n:Nat):fJ (aN n)=true:=by
 have h:(aN n).size=7:=by simp[aN,eJ,gC,ByteArray.size]
 unfold fJ
 rw[h];rfl
theorem fe {s:ByteArray}(h:fJ s=true):aY s:=by have:=of_decide_eq_true h;unfold aY;omega
theorem tY (aa d mn ms:Nat)(D:aF)(aj:Nat)(w:World)(h:ar w aa d mn ms D)(aP:D.ops≤900000000000)(bo:D.fail=0)(h1:1≤aj)(h2:aj < 1000000)(aV:D.now.length≤100000)
  (hcl:D.chg.length≤1000000)(hm:av D.now (aN aj)=none)(cy:db D none 0=true):
  Calls Pg 170 #[PT (some ⟨d,0,none⟩),X Y aj] w fun e w'=>e=rT (X Y 0)∧(∃f,f∉aU D.fs∧ar w' aa d mn ms (cY D (aN aj) f []))∧Fr KN [mn] aa w w':=by
 have CN:=jH (fun W=>kl aj h1 h2 W)
 have H:=jH h
 obtain⟨q,hq⟩:∃q,q=w.heap.size:=⟨_,rfl⟩
 have HQ:=jH hq
 have ao:=(bR w.heap.size w).alloc (nR _) (cL #[PT (some ⟨d,0,none⟩)] 63)
 have hx0:=ab.new w 63 #[PT (some ⟨d,0,none⟩)]
 have hs0:(w.alloc (cL #[PT (some ⟨d,0,none⟩)] 63)).heap.size=q + 1:=by rw[hq];simp
 rw[←hq] at ao hx0
 clear h
 go_enter func170,ntmps170
 go_wp2_with fail
 rw[←hq]
 clear hq
 generalize w.alloc (cL #[PT (some ⟨d,0,none⟩)] 63)=w0 at *
 refine(CN.out _).mono ?_
 rintro e w1 ⟨rfl,ae⟩
 have hx1:=hx0.below ae (by omega)
 have hs1:=ae.size
 have bf:=ao.trans (ae.mono (by omega))
 have HX:=jH (aI hx1 bf)
 clear hx1 bf ao hx0
 go_wp2_with fail
 have hx2:=((HX.out.1.alloc (cL #[.string (aN aj)] 9)).alloc (cL #[.func (.func 273) #[] #[PT (some ⟨q,0,none⟩),PT (some ⟨w1.heap.size,0,none⟩)],.func (.func 275) #[] #[PT (some ⟨q,0,none⟩),PT (some ⟨w1.heap.size,0,none⟩)]] 71))
 have hn2:=(ab.new w1 9 #[.string (aN aj)]).alloc (cL #[.func (.func 273) #[] #[PT (some ⟨q,0,none⟩),PT (some ⟨w1.heap.size,0,none⟩)],.func (.func 275) #[] #[PT (some ⟨q,0,none⟩),PT (some ⟨w1.heap.size,0,none⟩)]] 71)
 have hg2:=ab.new (w1.alloc (cL #[.string (aN aj)] 9)) 71 #[.func (.func 273) #[] #[PT (some ⟨q,0,none⟩),PT (some ⟨w1.heap.size,0,none⟩)],.func (.func 275) #[] #[PT (some ⟨q,0,none⟩),PT (some ⟨w1.heap.size,0,none⟩)]]
 have hbl2:=HX.out.2.trans ((((bR w1.heap.size w1).alloc (nR _) (cL #[.string (aN aj)] 9)).alloc (by simp) (cL #[.func (.func 273) #[] #[PT (some ⟨q,0,none⟩),PT (some ⟨w1.heap.size,0,none⟩)],.func (.func 275) #[] #[PT (some ⟨q,0,none⟩),PT (some ⟨w1.heap.size,0,none⟩)]] 71)).mono (by omega))
 rw[show (w1.alloc (cL #[.string (aN aj)] 9)).heap.size=w1.heap.size + 1 by simp] at hg2
 generalize (w1.alloc (cL #[.string (aN aj)] 9)).alloc (cL #[.func (.func 273) #[] #[PT (some ⟨q,0,none⟩),PT (some ⟨w1.heap.size,0,none⟩)],.func (.func 275) #[] #[PT (some ⟨q,0,none⟩),PT (some ⟨w1.heap.size,0,none⟩)]] 71)=w2 at *
 generalize w1.heap.size=k1 at *
 have hD2:ar w2 aa d mn ms D:=H.out.made (HQ.out▸hbl2)
 have hf02:Fr KN [mn] aa w w2:=Fr.of_below _ _ (HQ.out▸hbl2) H.out.hi
 refine(pt [(273,#[PT (some ⟨q,0,none⟩),PT (some ⟨k1,0,none⟩)]),(275,#[PT (some ⟨q,0,none⟩),PT (some ⟨k1,0,none⟩)])] (some ⟨k1 + 1,0,none⟩) 2 2 (k1 + 2)
  (fun i W=>Fr KN [mn] aa w2 W∧match i with|0=>ar W aa d mn ms D|1=>ar W aa d mn ms D|_=>∃f,f∉aU D.fs∧ar W aa d mn ms (cY D (aN aj) f [])) w2 rfl (by omega)
  (fun p hp=>by
   rcases List.mem_cons.1 hp with rfl|hp
   ·exact enters_of func273 (by kernel_rfl) rfl
   ·rcases List.mem_cons.1 hp with rfl|hp
    ·exact enters_of func275 (by kernel_rfl) rfl
    ·cases hp)
  (fun i W hW=>gV (hW.1.blk _ _ _ hg2 (by decide)) rfl) ⟨Fr.refl _ _ _ _,hD2⟩ ?_).mono ?_
 ·intro i hi W hW
  have hxW:=hW.1.blk _ _ _ hx2 (by decide)
  have hnW:=hW.1.blk _ _ _ hn2 (by decide)
  match i,hi,hW with
  |0,_,hW=>
   refine(Ew aa d mn ms D (aN aj) q k1 W hxW hnW hW.2 (fe (fK aj)) hm).mono ?_
   rintro e w' ⟨rfl,hb⟩
   exact⟨rfl,hW.1.made hb (ar.hi hW.2),ar.made hW.2 hb⟩
  |1,_,hW=>
   refine(Ev aa d mn ms D (aN aj) q k1 W hxW hnW hW.2 aP bo (fK aj) aV hcl hm cy).mono ?_
   rintro e w' ⟨rfl,hD,hf⟩
   exact⟨rfl,hW.1.trans hf,hD⟩
 ·rintro e w3 ⟨rfl,hfw,hD3⟩
  have HE:=jH (aI hD3 (hf02.trans hfw))
  clear hD3 hfw hx2 hn2 hg2 hbl2 hD2 hf02
  go_wp2_with fail
  go_ret
  exact⟨rfl,HE.out.1,HE.out.2⟩
theorem Eu (aa d mn ms:Nat)(D:aF)(aj:Nat)(w:World)(h:ar w aa d mn ms D)(aP:D.ops≤900000000000)(bo:D.fail=0)(h1:1≤aj)(h2:aj < 1000000)(aV:D.now.length≤100000)
  (hcl:D.chg.length≤1000000)(hm:av D.now (aN aj)=none)(cy:db D none 0=true):
  Calls Pg 170 #[PT (some ⟨d,0,none⟩),X Y aj] w fun e w'=>e=rT (X Y 0)∧(∃f,f∉aU D.fs∧ar w' aa d mn ms (cY D (aN aj) f []))∧Fr KD [mn] aa w w':=
 (tY aa d mn ms D aj w h aP bo h1 h2 aV hcl hm cy).mono fun _ _ ⟨q1,q2,q3⟩=>⟨q1,q2,q3.mono (by decide) (fun _ hb=>hb)⟩
def nv (l:List Nat):List Value:=l.map fun x:Nat=>X Y x
theorem lG (l:List Nat):(nv l).length=l.length:=by simp[nv]
theorem yQ {l:List Nat}{j:Nat}(h:j < l.length):(nv l)[j]? =some (X Y (l[j]:Nat)):=by simp[nv,h]
theorem nG {w:World}{B:Nat}{A:Option Addr}{n:Nat}{l:List Nat}(h:Reads w B 1 A n (nv l)){j:Nat}(hj:j < n):
  ∃(b off:Nat) (hl:j < l.length),A=some ⟨b,off,none⟩∧b < B∧w.cell? ⟨b,off + j,none⟩=some (X Y (l[j]:Nat)):=by
 have ax:l.length=n:=by have:=h.1;rw[lG] at this;omega
 obtain⟨b,off,e,hb,hc⟩:=h.plain (by omega) (by omega)
 exact⟨b,off,by omega,e,hb,hc j _ (yQ (by omega))⟩
def jz (l:List Nat)(k:Nat):Nat:=if k=0 then 0 else l.getD (k - 1) 0
structure gQ (V nx:Nat)(l:List Nat):Prop where
 v1:1≤V
 v3:V≤3
 l1:1≤l.length
 l64:l.length≤64
 n1:1≤nx
 n2:nx≤1000000
 inc:∀j (hj:j < l.length),jz l j < l[j]∧l[j] < nx
theorem rO (V nx:Nat)(l:List Nat)(A:Option Addr)(n c B:Nat)(w:World)(ho:gQ V nx l)(hr:Reads w B 1 A n (nv l))(hB:B≤w.heap.size):
  Calls Pg 308 #[aG #[X Y V,X Y nx,G A n c]] w fun e w'=>e=rT (bL true)∧Below w.heap.size w w':=by
 obtain⟨v1,v3,l1,l64,n1,n2,inc⟩:=ho
 have hln:l.length=n:=by have:=hr.1;rw[lG] at this;omega
 obtain⟨q,hq⟩:∃q,q=w.heap.size:=⟨_,rfl⟩
 have hbl:=(bR w.heap.size w).alloc (nR _) (cL #[X Y V,X Y nx,G A n c] 259)
 have hb:=ab.new w 259 #[X Y V,X Y nx,G A n c]
 rw[←hq] at hbl hb
 have hr1:=hr.alloc hB (cL #[X Y V,X Y nx,G A n c] 259)
 have d1:decide ((V:Int) < 1)=false:=decide_eq_false (by omega)
 have d2:decide ((3:Int) < (V:Int))=false:=decide_eq_false (by omega)
 have d3:decide ((n:Int) < 1)=false:=decide_eq_false (by omega)
 have d4:decide ((64:Int) < (n:Int))=false:=decide_eq_false (by omega)
 have d5:decide ((nx:Int) < 1)=false:=decide_eq_false (by omega)
 have d6:decide ((1000000:Int) < (nx:Int))=false:=decide_eq_false (by omega)
 obtain⟨c0,c1,c2⟩:=hb.c3
 have H:=jH (aI hb (aI hbl (aI hq hr1)))
 have hqB:B≤q:=by omega
 clear hb hbl hr1 hr hB
 go_enter func308,ntmps308
 go_wp2_with fail
 rw[←hq]
 clear hq
 generalize w.alloc (cL #[X Y V,X Y nx,G A n c] 259)=w1 at *
 go_loopw [3,39] (fun x i wr=>∃k:Nat,k≤n∧x=X Y (jz l k:Nat)∧i=X Y k∧wr=w1) (fun _ i _=>n - (intOf i).toNat)
 case atStart=>exact⟨0,by omega,rfl,rfl,rfl⟩
 case round=>
  obtain⟨k,hk,rfl,rfl,rfl⟩:=hrel
  by_cases hkn:k < n
  ·obtain⟨b,off,hl,rfl,hbB,hcell⟩:=nG H.out.2.2.2 hkn
   have hi:=inc k hl
   have hp:jz l (k + 1)=l[k]:=by unfold jz;rw[if_neg (by omega)];simp[List.getD,hl]
   obtain⟨x,hx⟩:∃x,l[k]=x:=⟨_,rfl⟩
   obtain⟨y,hy⟩:∃y,jz l k=y:=⟨_,rfl⟩
   rw[hx,hy] at hi
   rw[hx] at hp hcell
   rw[hy]
   have HP:=jH hp
   clear hx hy hp
   have e1:decide ((x:Int)≤(y:Int))=false:=decide_eq_false (by omega)
   have e2:decide ((nx:Int)≤(x:Int))=false:=decide_eq_false (by omega)
   have e3:decide ((k:Int) < (n:Int))=true:=decide_eq_true (by omega)
   go_wp2_with fail
   go_roundw
   case rel=>exact⟨k + 1,by omega,by rw[HP.out],by go_num,by first|rfl|trivial⟩
   case measure=>simp[intOf];omega
  ·have hkk:k=n:=by omega
   have e3:decide ((n:Int) < (n:Int))=false:=decide_eq_false (by omega)
   subst hkk
   go_wp2_with fail
   go_ret
   exact⟨rfl,H.out.2.2.1▸H.out.2.1⟩
theorem rh (p aa B:Nat)(A:Option Addr)(n c:Nat)(news l:List Nat)(w:World)(hl:l.length + n≤1099511627776)(h:bh w aa p l)(an:aa≤w.heap.size)(hr:Reads w B 1 A n (bv news)):
  Calls Pg 158 #[PT (some ⟨p,0,none⟩),G A n c] w fun e w'=>e=rT (tU #[])∧bh w' aa p (l++news)∧Below aa w w':=by
 obtain⟨hbp,A0,c0,aZ,hown⟩:=h
 have ax:news.length=n:=by have:=hr.length;omega
 have g0:=aZ.c1
 have fz:=aZ.frozen 0
 have au:=aZ.lt
 have HO:=jH (aI aZ (aI hown hr))
 clear aZ hown hr
 go_enter func158,ntmps158
 go_wp2_with (at_builtin;refine cu ?_)
 refine cw ?_
 refine ee rfl (.tmp 10) (.tmp 11) _ rfl 5 cJ underlying23 aa (G A0 l.length c0) l.length l rfl HO.out.2.1 B A n c news rfl HO.out.2.2 (l.length + n) rfl (by omega) an ?_
 intro A3 c3 w4 bF hbl4 hg4 hblk4
 have aq:=HO.out.1.grown hg4 (fun e=>dj HO.out.2.1 HO.out.1 (by decide) e.symm)
 have hlt4:=aq.lt
 have fz4:=aq.frozen 0
 have g4:=aq.c1
 clear g0 fz au
 go_wp2_with fail
 go_end0
 have aK:=aq.set_ 0 (G A3 (l.length + n) c3)
 have ho5:=aB bF aq (by decide) 0 (G A3 (l.length + n) c3)
 refine⟨rfl,⟨hbp,A3,c3,?_,?_⟩,hbl4.setCell (p:=⟨p,0,none⟩) hbp _⟩
 ·rw[List.length_append,ax];exact aK
 ·rw[List.length_append,ax];exact ho5
theorem uD (p aa:Nat)(l:List Nat)(w:World)(h:bh w aa p l):
  Calls Pg 161 #[PT (some ⟨p,0,none⟩)] w fun e w'=>e=rT (X Y l.length)∧w=w':=by
 obtain⟨hbp,A0,c0,aZ,hown⟩:=h
 have g0:=aZ.c1
 clear aZ hown
 generalize l.length=n at *
 go_enter func161,ntmps161
 go_wp2_with fail
 go_ret
 exact⟨rfl,rfl⟩
theorem folded_any (s:Nat)(hs:s < 4294967296)(w:World):
  Calls Pg 436 #[X Z s] w fun e w'=>e=rT (X Z (fo s))∧w=w':=by
 go_enter func436,ntmps436
 go_wp2
 go_loop [0] (fun t=>∃k:Nat,k < 4294967296∧Hid (fo k=fo s)∧t=X Z k) (fun t=>(intOf t).toNat)
 case atStart=>exact⟨s,hs,rfl,rfl⟩
 case round=>
  obtain⟨k,hk,hf,rfl⟩:=hrel
  by_cases h:65535 < k
  ·have hb:bits BinOp.and IntKind.u32 (k:Int) 65535=((k % 65536:Nat):Int):=by
    have:=u32_and_nat k 65535 hk (by omega)
    rw[nat_mask16] at this
    exact this
   have hr:(((k:Int) / 65536 + ((k % 65536:Nat):Int)) % 4294967296)=((k / 65536 + k % 65536:Nat):Int):=by omega
   have HB:=jH hb
   have HR:=jH hr
   clear hb hr
   go_wp2
   go_round
   case rel=>exact⟨k / 65536 + k % 65536,by omega,by rw[←hf.out];exact sN h,by rw[HB.out,HR.out]⟩
   case measure=>rw[HB.out,HR.out];simp only[intOf];omega
  ·go_wp2
   go_ret
   exact⟨gU (by rw[←hf.out,sO (by omega)]),rfl⟩
theorem folded_at (z:Int)(h0:0≤z)(h1:z < 4294967296)(w:World):
  Calls Pg 436 #[X Z z] w fun e w'=>e=rT (X Z (fo z.toNat))∧w=w':=by
 obtain⟨n,rfl⟩:=Int.eq_ofNat_of_zero_le h0
 exact folded_any n (by omega) w
theorem fold_any (s:Nat)(hs:s < 4294967296)(w:World):
  Calls Pg 385 #[X Z s] w fun e w'=>e=rT (X .u16 (jI s))∧w=w':=by
 have hl:=kE s
 go_enter func385,ntmps385
 go_wp2_with (go_at_call 436;refine(folded_any s hs _).mono ?_;rintro e w' ⟨rfl,rfl⟩)
 go_ret
 exact⟨gU (lH _ hl),rfl⟩
theorem part_any (s:Nat)(hs:s < 4294967296)(w:World)(B:Nat)(A:Option Addr)(n c:Nat)(l:List Nat)(h:Reads w B 1 A n (bv l))(hn:n≤281474976710656)(hb:ay l):
  Calls Pg 386 #[X Z s,G A n c] w fun e w'=>e=rT (X Z (dE s l))∧w=w':=by
 have hln:l.length=n:=by have:=h.1;rw[el] at this;omega
 have hfs:=kE s
 go_enter func386,ntmps386
 go_wp2_with (go_at_call 436;refine(folded_any s hs _).mono ?_;rintro e w' ⟨rfl,rfl⟩)
 go_loop [0,5] (fun t i=>∃k:Nat,2 * k≤n + 1∧i=X Y (2 * (k:Int))∧t=X Z (dE s (l.take (2 * k)))) (fun _ i=>n + 1 - (intOf i).toNat)
 case atStart=>exact⟨0,by omega,rfl,by simp[dE,ed]⟩
 case round=>
  obtain⟨k,hk,rfl,rfl⟩:=hrel
  have hp:=lC s (l.take (2 * k))
  generalize hP:dE s (l.take (2 * k))=p at hp
  have HP:=jH hP
  clear hP
  by_cases au:2 * k < n
  ·obtain⟨ad,hl0,rfl,hc0⟩:=gJ h au
   have hx:=hb _ (List.getElem_mem hl0)
   generalize hX:l[2 * k]=x at hc0 hx
   have HX:=jH hX
   clear hX
   by_cases hlt1:2 * k + 1 < n
   ·obtain⟨_,hl1,e,hc1⟩:=gJ h hlt1
    cases e
    have hy:=hb _ (List.getElem_mem hl1)
    rw[add_succ] at hc1
    generalize hY:l[2 * k + 1]=y at hc1 hy
    have HY:=jH hY
    clear hY h
    have HF:Hid (fo (p + (x * 256 + y))=dE s (l.take (2 * (k + 1)))):=by
     show _=_
     rw[dE,pG l k (by omega),HX.out,HY.out,←HP.out,dE,kF,Nat.add_assoc]
    have hor:bits BinOp.or IntKind.u32 ((x:Int) * 256) (y:Int)=((x * 256 + y:Nat):Int):=by
     have:=u32_or_nat (x * 256) y (by omega) (by omega)
     rw[nat_join 8 (x * 256) y (by omega) (by omega)] at this
     exact this
    go_wp2_with (go_at_call 436;refine(folded_at _ (by omega) (by omega) _).mono ?_;rintro e w' ⟨rfl,rfl⟩)
    go_round
    case rel=>exact⟨k + 1,by omega,by go_num,by rw[←HF.out];congr 3⟩
    case measure=>simp[intOf];omega
   ·have HF:Hid (fo (p + x * 256)=dE s (l.take (2 * (k + 1)))):=by
     show _=_
     rw[dE,List.take_of_length_le (by omega),pH l k (by omega),HX.out,←HP.out,dE,kF,Nat.add_assoc]
    clear h
    go_wp2_with (go_at_call 436;refine(folded_at _ (by omega) (by omega) _).mono ?_;rintro e w' ⟨rfl,rfl⟩)
    go_round
    case rel=>exact⟨k + 1,by omega,by go_num,by rw[←HF.out];congr 3⟩
    case measure=>simp[intOf];omega
  ·have HF:Hid (p=dE s l):=by
    show _=_
    rw[←HP.out,List.take_of_length_le (by omega)]
   go_wp2
   go_ret
   exact⟨gU (by rw[HF.out]),rfl⟩
theorem BR (z:Int)(h0:0≤z)(h1:z < 4294967296)(w:World):
  Calls Pg 385 #[X Z z] w fun e w'=>e=rT (X .u16 (jI z.toNat))∧w=w':=by
 obtain⟨s,rfl⟩:=Int.eq_ofNat_of_zero_le h0
 exact fold_any s (by omega) w
theorem net_any (w:World)(B:Nat)(A:Option Addr)(n c:Nat)(l:List Nat)(h:Reads w B 1 A n (bv l))(hn:n≤281474976710656)(hb:ay l):
  Calls Pg 264 #[G A n c] w fun e w'=>e=rT (X .u16 (eh l))∧w=w':=by
 have hp:=lC 0 l
 have HF:=jH (rK l)
 go_enter func264,ntmps264
 go_wp2_with (first|(go_at_call 386;refine(part_any 0 (by omega) _ B A n c l h hn hb).mono ?_;rintro e w' ⟨rfl,rfl⟩)|(go_at_call 385;refine(fold_any _ (by omega) _).mono ?_;rintro e w' ⟨rfl,rfl⟩))
 go_ret
 exact⟨gU (by rw[HF.out]),rfl⟩
theorem Cc (x old now:Nat)(hx:x < 65536)(ho:old < 65536)(hn:now < 65536)(w:World):
  Calls Pg 322 #[X .u16 x,X .u16 old,X .u16 now] w fun e w'=>e=rT (X .u16 (jK x old now))∧w=w':=by
 have h1:=lH x (by omega)
 have h2:=lH old (by omega)
 go_enter func322,ntmps322
 go_wp2_with (go_at_call 385;refine(BR _ (by omega) (by omega) _).mono ?_;rintro e w' ⟨rfl,rfl⟩)
 go_ret
 exact⟨gU (by unfold jK jI;congr 3;omega),rfl⟩
theorem and_one (k:Nat)(hk:k < 4294967296):bits BinOp.and IntKind.u32 (k:Int) 1=((k % 2:Nat):Int):=by
 have:=u32_and_nat k 1 hk (by omega)
 rw[nat_mask1] at this
 exact this
theorem lW (w:World)(B:Nat)(A:Option Addr)(n c:Nat)(l:List Nat)(h:Reads w B 1 A n (bv l))(hn:n≤281474976710656)(hb:ay l):
  Calls Pg 351 #[G A n c] w fun e w'=>e=rT (X Z (bV l))∧w=w':=by
 have hln:l.length=n:=by have:=h.1;rw[el] at this;omega
 go_enter func351,ntmps351
 go_wp2
 go_loop [3,9] (fun t i=>∃k:Nat,k≤n∧i=X Y k∧t=X Z ((l.take k).foldl ix 4294967295:Nat)) (fun _ i=>n - (intOf i).toNat)
 case atStart=>exact⟨0,by omega,rfl,rfl⟩
 case round=>
  obtain⟨k,hk,rfl,rfl⟩:=hrel
  have hp:(l.take k).foldl ix 4294967295 < 4294967296:=oJ (fun _ _=>Do) _ _ (hb.take k) (by omega)
  by_cases au:k < n
  ·obtain⟨ad,hl0,rfl,hc0⟩:=gJ h au
   have hx:=hb _ (List.getElem_mem hl0)
   have hnext:=sM (f:=ix) l k 4294967295 hl0
   generalize (l.take k).foldl ix 4294967295=p at hp hnext
   generalize l[k]=x at hc0 hx hnext
   have HN:=jH hnext
   clear hnext
   have hxor:bits BinOp.xor IntKind.u32 (p:Int) (x:Int)=((p ^^^ x:Nat):Int):=u32_xor_nat p x hp (by omega)
   have hq:p ^^^ x < 4294967296:=jQ hp (by omega)
   have HQ:Hid (ix p x=hG 8 (p ^^^ x)):=rfl
   generalize p ^^^ x=q at hxor hq HQ
   go_wp2
   go_loop [3,17] (fun t i=>∃j:Nat,j≤8∧i=X Y j∧t=X Z (hG j q:Nat)) (fun _ i=>8 - (intOf i).toNat)
   case atStart=>exact⟨0,by omega,rfl,rfl⟩
   case round=>
    obtain⟨j,hj,rfl,rfl⟩:=hrel
    have hr:=tD j hq
    have HR:Hid (hG (j + 1) q=iR (hG j q)):=rfl
    have HR8:Hid (hG j q=hG j q):=rfl
    by_cases hj8:j < 8
    ·generalize hG j q=r at hr HR
     by_cases h1:r % 2=1
     ·have hand:bits BinOp.and IntKind.u32 (r:Int) 1=1:=by rw[and_one r hr,h1];rfl
      have hx2:bits BinOp.xor IntKind.u32 ((r:Int) / 2) 2197175160=((iR r:Nat):Int):=by
       unfold iR
       rw[if_pos h1]
       exact u32_xor_nat (r / 2) 2197175160 (by omega) (by omega)
      clear h1
      go_wp2
      go_round
      case rel=>exact⟨j + 1,by omega,by go_num,by rw[HR.out]⟩
      case measure=>simp[intOf];omega
     ·have hand:bits BinOp.and IntKind.u32 (r:Int) 1=0:=by rw[and_one r hr];omega
      have hx2:Hid (((r:Int) / 2)=((iR r:Nat):Int)):=by
       show _=_
       unfold iR
       rw[if_neg h1]
       exact(Int.natCast_ediv r 2).symm
      clear h1
      go_wp2
      go_round
      case rel=>exact⟨j + 1,by omega,by go_num,by rw[HR.out,←hx2.out]⟩
      case measure=>simp[intOf];omega
    ·obtain rfl:j=8:=by omega
     rw[←HQ.out,←HN.out]
     clear hr
     go_wp2
     go_round
     case rel=>exact⟨k + 1,by omega,by go_num,rfl⟩
     case measure=>simp[intOf];omega
  ·have HF:Hid (4294967295 - (l.take k).foldl ix 4294967295=bV l):=by
    show _=_
    unfold bV tC
    rw[List.take_of_length_le (by omega)]
   have hnot:=yU _ hp
   generalize (l.take k).foldl ix 4294967295=p at hp hnot HF
   rw[HF.out] at hnot
   go_wp2
   go_ret
   exact⟨rfl,rfl⟩
def lh (bs:List Bk)(i:Nat):Nat:=(dL bs)[i % (dL bs).length]?.getD 0
theorem p9 {bs:List Bk}{n:Nat}(hg:Good bs n)(i:Nat):lh bs i < bs.length:=by
 have hl:=mY hg
 have hm:i % (dL bs).length < (dL bs).length:=Nat.mod_lt _ hl
 unfold lh
 rw[List.getElem?_eq_getElem hm]
 exact lj (List.getElem_mem hm)
theorem xj {bs:List Bk}{n i:Nat}(hg:Good bs n)(hi:i < n):
  ∃v:Nat,(run bs n i).2[v]? =some (-1)∧(run bs n (i + 1)).2=(run bs n i).2.set v ((bs[lh bs i]?.map Bk.id).getD (-1)):=by
 have hb:=p9 hg i
 have ih:=kd hg i (by omega)
 obtain⟨_,at_,J,_,_,hw,he⟩:=mV hg ih hi hb
 refine⟨_,hw.free,?_⟩
 rw[run]
 show (turn bs n (run bs n i) (lh bs i)).2=_
 rw[he]
 simp[hb]
theorem qY {bs:List Bk}{n:Nat}(hg:Good bs n):∀i,i≤n→∀x∈(run bs n i).2,x=-1∨∃b∈bs,x=b.id
 |0,_,x,hx=>by
  simp only[run,List.mem_replicate] at hx
  exact .inl hx.2
 |i + 1,hi,x,hx=>by
  obtain⟨v,hv,he⟩:=xj hg (i:=i) (by omega)
  rw[he] at hx
  rcases List.mem_or_eq_of_mem_set hx with hx|rfl
  ·exact qY hg i (by omega) x hx
  ·have ht:=p9 hg i
   rw[List.getElem?_eq_getElem ht]
   exact .inr ⟨_,List.getElem_mem ht,rfl⟩
theorem xn {bs:List Bk}{n:Nat}(hg:Good bs n):∀x∈(run bs n n).2,∃b∈bs,x=b.id:=by
 intro x hx
 have hf:=(kd hg n (nR _)).free
 rw[Nat.sub_self] at hf
 rcases qY hg n (nR _) x hx with rfl|h
 ·have:0 < je (run bs n n).2:=List.countP_pos_iff.2 ⟨-1,hx,by simp⟩
  omega
 ·exact h
theorem vG {bs:List Bk}{n:Nat}(hg:Good bs n):(jr bs n).length=n:=(kd hg n (nR _)).len
theorem vH {bs:List Bk}{n:Nat}(hg:Good bs n):∀x∈jr bs n,∃b∈bs,x=b.id:=xn hg
def okB (b:Be):Bool:=decide (0≤b.id∧b.id≤65535∧1≤b.weight∧b.weight≤10)
theorem nF {b:Be}:okB b=true↔0≤b.id∧b.id≤65535∧1≤b.weight∧b.weight≤10:=by unfold okB;rw[decide_eq_true_eq]
def dz (n:Nat)(l:List Be):Prop:=n≤16∧∀j,j < n→dy l j
def kT (n:Nat)(l:List Be)(e:Ending):Prop:=∃b:Bool,e=rT (.bool b)∧(b=true↔dz n l)
theorem sa {n:Nat}{l:List Be}(h:¬dz n l):kT n l (rT (bL false)):=⟨false,rfl,by simp[h]⟩
theorem zB {n:Nat}{l:List Be}(h:dz n l):kT n l (rT (bL true)):=⟨true,rfl,by simp[h]⟩
theorem uI (x:Int)(w:World):
  Calls Pg 226 #[X Y x] w fun e w'=>e=rT (bL (decide (1≤x∧x≤10)))∧w'=w:=by
 obtain⟨r,hr⟩:∃r,r=decide (1≤x∧x≤10):=⟨_,rfl⟩
 rw[←hr]
 by_cases h1:1≤x
 ·by_cases h2:x≤10
  ·have HR:Hid (r=true):=hr.trans (decide_eq_true ⟨h1,h2⟩)
   clear hr
   go_enter func226,ntmps226
   go_wp2_with fail
   go_ret
   exact⟨by rw[HR.out];rfl,rfl⟩
  ·have HR:Hid (r=false):=hr.trans (decide_eq_false (fun h=>h2 h.2))
   clear hr
   go_enter func226,ntmps226
   go_wp2_with fail
   go_ret
   exact⟨by rw[HR.out];rfl,rfl⟩
 ·have HR:Hid (r=false):=hr.trans (decide_eq_false (fun h=>h1 h.1))
  clear hr
  go_enter func226,ntmps226
  go_wp2_with fail
  go_ret
  exact⟨by rw[HR.out];rfl,rfl⟩
theorem lQ (A:Option Addr)(n c B:Nat)(l:List Be)(w:World)(hr:Reads w B 3 A n (aC l))(hB:B≤w.heap.size)(hok:dD l)(hn:n≤46912496118442)(hnc:n≤c):
  Calls Pg 119 #[G A n c] w fun e w'=>kT n l e∧Below w.heap.size w w':=by
 have ax:=hr.be_length
 by_cases h16:16 < n
 ·go_enter func119,ntmps119
  go_wp2
  go_ret
  exact⟨sa (fun h=>by have:=h.1;omega),bR _ _⟩
 go_enter func119,ntmps119
 go_wp2
 go_loopw [10] (fun i wr=>∃k:Nat,k≤n∧i=X Y k∧Hid (∀j,j < k→dy l j)∧Below w.heap.size w wr) (fun i _=>n - (intOf i).toNat)
 case atStart=>exact⟨0,by omega,rfl,(fun j h=>by omega),bR _ _⟩
 case round=>
  obtain⟨k,hk,rfl,hall,hbr⟩:=hrel
  by_cases hkn:k < n
  ·obtain⟨b,off,hl,rfl,hc0,hc1,hc2⟩:=(hr.below (hbr.mono hB)).be hkn
   have hp:∃y:Int,0 < k→wr.cell? ⟨b,off + (k - 1) * 3,none⟩=some (X Y y)∧Hid (∃h:k - 1 < l.length,l[k - 1].id=y):=by
    by_cases h:0 < k
    ·obtain⟨b',off',hl',e,hc',_⟩:=(hr.below (hbr.mono hB)).be (j:=k - 1) (by omega)
     cases e
     exact⟨_,fun _=>⟨hc',hl',rfl⟩⟩
    ·exact⟨0,fun h'=>absurd h' h⟩
   obtain⟨y,hy⟩:=hp
   have hdec:Hid (dy l k↔0≤l[k].id∧l[k].id≤65535∧1≤l[k].weight∧l[k].weight≤10∧(0 < k→y < l[k].id)):=by
    constructor
    ·rintro⟨_,h1,h2,h3,h4,h5⟩
     refine⟨h1,h2,h3,h4,fun h=>?_⟩
     obtain⟨_,e⟩:=(hy h).2.out
     rw[←e];exact h5 h
    ·rintro⟨h1,h2,h3,h4,h5⟩
     refine⟨hl,h1,h2,h3,h4,fun h=>?_⟩
     obtain⟨_,e⟩:=(hy h).2.out
     rw[e];exact h5 h
   have hbad:Hid (¬dy l k→kT n l (rT (bL false))):=fun h=>sa (fun hm=>h (hm.2 k hkn))
   have hgood:Hid (dy l k→∀j,j < k + 1→dy l j):=by
    intro h j hj
    by_cases e:j=k
    ·subst e;exact h
    ·exact hall.out j (by omega)
   have hbl:=hok _ (List.getElem_mem hl)
   generalize l[k].id=x at *
   generalize l[k].weight=wt at *
   generalize l[k].addr=ad at *
   obtain⟨ae,_,al⟩:=hbl
   have hsz:=hbr.size
   have hbox:Below w.heap.size w (wr.alloc (cL #[X Y x,X Z ad,X Y wt] 34)):=hbr.alloc hsz _
   have dc:(wr.alloc (cL #[X Y x,X Z ad,X Y wt] 34)).cell? ⟨wr.heap.size,0,none⟩=some (X Y x):=(ab.new wr _ _).cell 0
   have hd2:(wr.alloc (cL #[X Y x,X Z ad,X Y wt] 34)).cell? ⟨wr.heap.size,2,none⟩=some (X Y wt):=(ab.new wr _ _).cell 2
   have hy2:0 < k→(wr.alloc (cL #[X Y x,X Z ad,X Y wt] 34)).cell? ⟨b,off + (k - 1) * 3,none⟩=some (X Y y):=fun h=>by
    have h1:=(hy h).1
    rw[World.cell?_alloc_lt _ _ _ (World.block_lt_of_cell? wr _ h1)]
    exact h1
   have HY:=jH hy2
   clear hy hy2
   go_wp2
   generalize wr.alloc (cL #[X Y x,X Z ad,X Y wt] 34)=w2 at *
   have hcase:(x < 0∧Hid (¬dy l k))∨(0≤x∧65535 < x∧Hid (¬dy l k))∨(0≤x∧x≤65535∧¬(1≤wt∧wt≤10)∧Hid (¬dy l k))∨
     (0≤x∧x≤65535∧(1≤wt∧wt≤10)∧0 < k∧x≤y∧Hid (¬dy l k))∨(0≤x∧x≤65535∧(1≤wt∧wt≤10)∧0 < k∧y < x∧Hid (dy l k))∨(0≤x∧x≤65535∧(1≤wt∧wt≤10)∧k=0∧Hid (dy l k)):=by
    have hd:=hdec.out
    unfold Hid
    rw[hd]
    omega
   have CW:=jH (fun w=>uI wt w)
   rcases hcase with⟨q1,hno⟩|⟨q1,q2,hno⟩|⟨q1,q2,q3,hno⟩|⟨q1,q2,q3,hk0,q5,hno⟩|⟨q1,q2,q3,hk0,q5,hyes⟩|⟨q1,q2,q3,rfl,hyes⟩
   ·have d1:decide (x < 0)=true:=decide_eq_true (by omega)
    clear q1
    go_quiet (fail)
    go_wp2
    go_ret
    exact⟨hbad.out hno.out,hbox.trans ⟨rfl,rfl,rfl,nR _,fun _ _=>rfl⟩⟩
   ·have d1:decide (x < 0)=false:=decide_eq_false (by omega)
    have d2:decide (65535 < x)=true:=decide_eq_true (by omega)
    clear q1 q2
    go_quiet (fail)
    go_wp2
    go_ret
    exact⟨hbad.out hno.out,hbox.trans ⟨rfl,rfl,rfl,nR _,fun _ _=>rfl⟩⟩
   ·have d1:decide (x < 0)=false:=decide_eq_false (by omega)
    have d2:decide (65535 < x)=false:=decide_eq_false (by omega)
    have d3:decide (1≤wt∧wt≤10)=false:=decide_eq_false q3
    rw[d3] at CW
    clear d3
    clear q1 q2 q3
    go_quiet (first|(go_at_call 226;exact Calls.quiet_of_same (CW.out _)))
    go_wp2
    go_ret
    exact⟨hbad.out hno.out,hbox.trans ⟨rfl,rfl,rfl,nR _,fun _ _=>rfl⟩⟩
   ·have d1:decide (x < 0)=false:=decide_eq_false (by omega)
    have d2:decide (65535 < x)=false:=decide_eq_false (by omega)
    have d5:decide (x≤y)=true:=decide_eq_true (by omega)
    have d6:decide (0 < (k:Int))=true:=decide_eq_true (by omega)
    have hcy:=HY.out hk0
    obtain⟨j,hj,hjk⟩:∃j:Nat,k - 1=j∧j < n:=⟨k - 1,rfl,by omega⟩
    have e1:IntKind.i64.wrap ((k:Int) - 1)=(j:Int):=by rw[IntWalk.i64_in _ (by omega)];omega
    rw[hj] at hcy
    clear hj
    have d3:decide (1≤wt∧wt≤10)=true:=decide_eq_true q3
    rw[d3] at CW
    clear d3
    clear q1 q2 q3 q5
    go_quiet (first|(go_at_call 226;exact Calls.quiet_of_same (CW.out _)))
    go_wp2
    go_ret
    exact⟨hbad.out hno.out,hbox.trans ⟨rfl,rfl,rfl,nR _,fun _ _=>rfl⟩⟩
   ·have d1:decide (x < 0)=false:=decide_eq_false (by omega)
    have d2:decide (65535 < x)=false:=decide_eq_false (by omega)
    have d5:decide (x≤y)=false:=decide_eq_false (by omega)
    have d6:decide (0 < (k:Int))=true:=decide_eq_true (by omega)
    have hcy:=HY.out hk0
    obtain⟨j,hj,hjk⟩:∃j:Nat,k - 1=j∧j < n:=⟨k - 1,rfl,by omega⟩
    have e1:IntKind.i64.wrap ((k:Int) - 1)=(j:Int):=by rw[IntWalk.i64_in _ (by omega)];omega
    rw[hj] at hcy
    clear hj
    have d3:decide (1≤wt∧wt≤10)=true:=decide_eq_true q3
    rw[d3] at CW
    clear d3
    clear q1 q2 q3 q5
    go_quiet (first|(go_at_call 226;exact Calls.quiet_of_same (CW.out _)))
    go_wp2
    go_roundw
    case rel=>exact⟨k + 1,by omega,by go_num,hgood.out hyes.out,hbox.trans ⟨rfl,rfl,rfl,nR _,fun _ _=>rfl⟩⟩
    case measure=>simp[intOf];omega
   ·have d1:decide (x < 0)=false:=decide_eq_false (by omega)
    have d2:decide (65535 < x)=false:=decide_eq_false (by omega)
    have d3:decide (1≤wt∧wt≤10)=true:=decide_eq_true q3
    rw[d3] at CW
    clear d3
    clear q1 q2 q3
    go_quiet (first|(go_at_call 226;exact Calls.quiet_of_same (CW.out _)))
    go_wp2
    go_roundw
    case rel=>exact⟨1,by omega,by go_num,hgood.out hyes.out,hbox.trans ⟨rfl,rfl,rfl,nR _,fun _ _=>rfl⟩⟩
    case measure=>simp[intOf];omega
  ·have hfin:Hid (kT n l (rT (bL true))):=zB ⟨by omega,fun j hj=>hall.out j (by omega)⟩
   go_wp2
   go_ret
   exact⟨hfin.out,hbr⟩
def Kept (w w':World):Prop:=∀g t cs,ab w g t cs→t≠251→t≠5→ab w' g t cs
theorem Kept.refl (w:World):Kept w w:=fun _ _ _ h _ _=>h
theorem Kept.trans {a b c:World}(h:Kept a b)(k:Kept b c):Kept a c:=fun g t cs h0 h1 h2=>k g t cs (h g t cs h0 h1 h2) h1 h2
theorem Kept.alloc {a w:World}(h:Kept a w)(o:Obj):Kept a (w.alloc o):=fun g t cs h0 h1 h2=>(h g t cs h0 h1 h2).alloc o
theorem Kept.drew {a w:World}(h:Kept a w):Kept a w.drew:=fun g t cs h0 h1 h2=>(h g t cs h0 h1 h2).drew
theorem Kept.grown {a w w':World}{aa n:Nat}{v:Value}{xs:List Value}(h:Kept a w)(ho:w.ownsRow aa 5 1 v n xs)(hg:w.grownBy w' v.ownBlock):Kept a w':=
 fun g t cs h0 h1 h2=>(h g t cs h0 h1 h2).grown hg (fun e=>dj ho (h g t cs h0 h1 h2) h2.symm e.symm)
theorem Kept.setW {a w:World}{p:Nat}{ds:Array Value}(h:Kept a w)(hp:ab w p 251 ds)(i:Nat)(u:Value):Kept a (w.setCell ⟨p,i,none⟩ u):=
 fun g t cs h0 h1 h2=>(h g t cs h0 h1 h2).far (ab.ne_ (h g t cs h0 h1 h2) hp h1) u
theorem ly (p aa:Nat)(n aO:Nat)(l:List Nat)(w:World)(hn:n < 18446744073709551616)(hwd:aO≤8)(hl:l.length≤1099511627776)(h:bh w aa p l)(an:aa≤w.heap.size):
  Calls Pg 261 #[PT (some ⟨p,0,none⟩),X .u64 n,X Y aO] w fun e w'=>e=rT (tU #[])∧bh w' aa p (l++be n aO)∧Below aa w w'∧Kept w w':=by
 go_enter func261,ntmps261
 go_wp2
 go_loopw [10] (fun i wr=>∃k:Nat,k≤aO∧i=X Y k∧bh wr aa p (l++(be n aO).take k)∧Below aa w wr∧Kept w wr) (fun i _=>aO - (intOf i).toNat)
 case atStart=>exact⟨0,by omega,rfl,by simpa using h,bR _ _,Kept.refl _⟩
 case round=>
  obtain⟨k,hk,rfl,hwb,hbr,hkr⟩:=hrel
  by_cases hkw:k < aO
  ·obtain⟨hbp,A,c,aZ,hown⟩:=hwb
   have hcell:=aZ.cell 0
   have hfr:=aZ.frozen 0
   simp only[ga,gz] at hcell
   have hml:(l++(be n aO).take k).length≤1099511627784:=by rw[List.length_append,List.length_take,be_length];omega
   have HT:=jH (ub n aO k hkw)
   have HT2:Hid (l++(be n aO).take (k + 1)=(l++(be n aO).take k)++[n / 256 ^ (aO - 1 - k) % 256]):=by
    show _=_
    rw[HT.out,List.append_assoc]
   generalize l++(be n aO).take k=m at *
   obtain⟨W,d,hW,hd,hdlt⟩:∃W d:Nat,W + 1=aO∧d + k=W∧d≤7:=⟨aO - 1,aO - 1 - k,by omega,by omega,by omega⟩
   have e1:IntKind.i64.wrap ((aO:Int) - 1)=(W:Int):=by rw[IntWalk.i64_in _ (by omega)];omega
   have e2:IntKind.i64.wrap ((W:Int) - (k:Int))=(d:Int):=by rw[IntWalk.i64_in _ (by omega)];omega
   have e3:IntKind.i64.wrap (8 * (d:Int))=((8 * d:Nat):Int):=by rw[IntWalk.i64_in _ (by omega)];omega
   have hq:n / 256 ^ (aO - 1 - k)=n / 2 ^ (8 * d):=by
    rw[show aO - 1 - k=d from by omega,Nat.pow_mul]
   have hsh:Op.shift BinOp.shr .u64 (n:Int) .i64 ((8 * d:Nat):Int)=pure (X .u64 (n / 2 ^ (8 * d):Nat)):=by
    rw[shift_shr_any _ _ _ _ (by omega)]
    have:min ((8 * d:Nat):Int).toNat IntKind.u64.bits=8 * d:=by rw[Int.toNat_natCast];show min (8 * d) 64=_;omega
    rw[this,Int.natCast_ediv,Int.natCast_pow]
    rfl
   have hql:n / 2 ^ (8 * d) < 18446744073709551616:=Nat.lt_of_le_of_lt (Nat.div_le_self _ _) hn
   rw[hq] at HT2
   generalize n / 2 ^ (8 * d)=q at *
   generalize 8 * d=s8 at *
   clear hq hW hd
   have hwq:IntKind.u8.wrap (q:Int)=((q % 256:Nat):Int):=by rw[IntKind.wrap_u8'];omega
   have hsz:aa≤wr.heap.size:=nT an hbr.size
   have hplt:=aZ.lt
   go_wp2
   go_region_law (refine eL rfl (.tmp 17) (.tmp 26) _ rfl 5 cJ underlying23 aa (G A m.length c) m.length m (by simp[Act.eval,Act.put]) (hown.alloc _) (wr.heap.size + 1) (some ⟨wr.heap.size,0,none⟩) 1 1 [q % 256] (by simp[Act.eval,Act.put]) (dQ _ _ _ _ 1 _ _ (by rfl) (by rfl) (by rfl) _ (by simp[bv])) (m.length + 1) rfl (by omega) (by simp;omega) ?_;intro A1 c1 w1 aQ ae hg1 hat1;have hblk1:ab w1 p 251 #[G A m.length c]:=ab.grown ((aZ.alloc _).drew) hg1 (fun e=>dj hown aZ (by decide) e.symm);have hcell1:=hblk1.cell 0;have hfr1:=hblk1.frozen 0;simp only[ga,gz] at hcell1)
   all_goals
    go_wp2
    go_roundw
    case rel=>
     refine⟨k + 1,by omega,by go_num,⟨hbp,A1,c1,?_,?_⟩,?_,?_⟩
     ·rw[HT2.out,List.length_append]
      exact hblk1.set_ 0 _
     ·rw[HT2.out,List.length_append]
      exact aB aQ hblk1 (by decide) 0 _
     ·exact(hbr.trans (((bR _ _).alloc hsz _).drew.trans ae)).setCell hbp _
     ·exact(hkr.trans ((((Kept.refl _).alloc _).drew).grown (hown.alloc _) hg1)).setW hblk1 _ _
    case measure=>simp[intOf];omega
  ·have hkk:k=aO:=by omega
   have hfin:Hid (bh wr aa p (l++be n aO)):=by
    have:=hwb
    rw[hkk,List.take_of_length_le (by rw[be_length];omega)] at this
    exact this
   clear hwb
   go_wp2
   go_end0
   exact⟨rfl,hfin.out,hbr,hkr⟩
theorem iV (p aa n:Nat)(l:List Nat)(w:World)(hn:n < 4294967296)(hl:l.length≤1099511627776)(h:bh w aa p l)(an:aa≤w.heap.size):
  Calls Pg 263 #[PT (some ⟨p,0,none⟩),X Z n] w fun e w'=>e=rT (tU #[])∧bh w' aa p (l++be n 4)∧Below aa w w'∧Kept w w':=by
 have HC:=jH (ly p aa n 4 l w (by omega) (by omega) hl h an)
 go_enter func263,ntmps263
 go_wp2_with fail
 refine HC.out.mono ?_
 rintro e w' ⟨rfl,hwb,aA,hkw⟩
 go_wp2_with fail
 go_end0
 exact⟨rfl,hwb,aA,hkw⟩
theorem kY (p aa:Nat)(z:Int)(l:List Nat)(w:World)(hl:l.length≤1099511627776)(h:bh w aa p l)(an:aa≤w.heap.size):
  Calls Pg 159 #[PT (some ⟨p,0,none⟩),X Y z] w fun e w'=>e=rT (tU #[])∧bh w' aa p (l++be (ai z) 1)∧Below aa w w'∧Kept w w':=by
 have HC:=jH (ly p aa (ai z) 1 l w (kZ z) (by omega) hl h an)
 have hw:=jl z
 go_enter func159,ntmps159
 go_wp2_with fail
 refine HC.out.mono ?_
 rintro e w' ⟨rfl,hwb,aA,hkw⟩
 go_wp2_with fail
 go_end0
 exact⟨rfl,hwb,aA,hkw⟩
theorem jn (p aa:Nat)(z:Int)(l:List Nat)(w:World)(hl:l.length≤1099511627776)(h:bh w aa p l)(an:aa≤w.heap.size):
  Calls Pg 157 #[PT (some ⟨p,0,none⟩),X Y z] w fun e w'=>e=rT (tU #[])∧bh w' aa p (l++be (ai z) 2)∧Below aa w w'∧Kept w w':=by
 have HC:=jH (ly p aa (ai z) 2 l w (kZ z) (by omega) hl h an)
 have hw:=jl z
 go_enter func157,ntmps157
 go_wp2_with fail
 refine HC.out.mono ?_
 rintro e w' ⟨rfl,hwb,aA,hkw⟩
 go_wp2_with fail
 go_end0
 exact⟨rfl,hwb,aA,hkw⟩
theorem Fk (k:Tu)(w:World):
  Calls Pg 11 #[.agg k.vals] w fun e w'=>e=rT (bL (cP k))∧Below w.heap.size w w':=by
 obtain⟨src,dst,proto,sport,dport⟩:=k
 unfold Tu.vals
 dsimp only
 by_cases hp:proto=6∨proto=17
 ·have hb:((proto==6)=true)∨((proto==6)=false∧(proto==17)=true):=by
   rcases hp with h|h
   ·left;simp[h]
   ·right;simp[h]
  rcases hb with b6|⟨b6,b17⟩
  all_goals
   by_cases h1:0≤sport
   case neg=>
    have HB:Hid (cP ⟨src,dst,proto,sport,dport⟩=false):=decide_eq_false (by dsimp only;omega)
    clear hp
    go_enter func11,ntmps11
    go_wp2_with fail
    go_ret
    exact⟨by rw[HB.out];rfl,(bR _ _).alloc (nR _) _⟩
   by_cases h2:sport≤65535
   case neg=>
    have HB:Hid (cP ⟨src,dst,proto,sport,dport⟩=false):=decide_eq_false (by dsimp only;omega)
    clear hp
    go_enter func11,ntmps11
    go_wp2_with fail
    go_ret
    exact⟨by rw[HB.out];rfl,(bR _ _).alloc (nR _) _⟩
   by_cases h3:0≤dport
   case neg=>
    have HB:Hid (cP ⟨src,dst,proto,sport,dport⟩=false):=decide_eq_false (by dsimp only;omega)
    clear hp
    go_enter func11,ntmps11
    go_wp2_with fail
    go_ret
    exact⟨by rw[HB.out];rfl,(bR _ _).alloc (nR _) _⟩
   by_cases h4:dport≤65535
   case neg=>
    have HB:Hid (cP ⟨src,dst,proto,sport,dport⟩=false):=decide_eq_false (by dsimp only;omega)
    clear hp
    go_enter func11,ntmps11
    go_wp2_with fail
    go_ret
    exact⟨by rw[HB.out];rfl,(bR _ _).alloc (nR _) _⟩
   have HB:Hid (cP ⟨src,dst,proto,sport,dport⟩=true):=decide_eq_true (by dsimp only;omega)
   clear hp
   go_enter func11,ntmps11
   go_wp2_with fail
   go_ret
   exact⟨by rw[HB.out];rfl,(bR _ _).alloc (nR _) _⟩
 ·have b6:(proto==6)=false:=by simp;omega
  have b17:(proto==17)=false:=by simp;omega
  have HB:Hid (cP ⟨src,dst,proto,sport,dport⟩=false):=decide_eq_false (by dsimp only;omega)
  clear hp
  go_enter func11,ntmps11
  go_wp2_with fail
  go_ret
  exact⟨by rw[HB.out];rfl,(bR _ _).alloc (nR _) _⟩
theorem jV (k:Tu)(w:World):
  Calls Pg 204 #[.agg k.vals] w fun e w'=>e=rT (bL (cP k))∧Below w.heap.size w w':=by
 obtain⟨src,dst,proto,sport,dport⟩:=k
 unfold Tu.vals
 dsimp only
 by_cases hp:proto=6∨proto=17
 ·have hb:((proto==6)=true)∨((proto==6)=false∧(proto==17)=true):=by
   rcases hp with h|h
   ·left;simp[h]
   ·right;simp[h]
  rcases hb with b6|⟨b6,b17⟩
  all_goals
   by_cases h1:0≤sport
   case neg=>
    have HB:Hid (cP ⟨src,dst,proto,sport,dport⟩=false):=decide_eq_false (by dsimp only;omega)
    clear hp
    go_enter func204,ntmps204
    go_wp2_with fail
    go_ret
    exact⟨by rw[HB.out];rfl,(bR _ _).alloc (nR _) _⟩
   by_cases h2:sport≤65535
   case neg=>
    have HB:Hid (cP ⟨src,dst,proto,sport,dport⟩=false):=decide_eq_false (by dsimp only;omega)
    clear hp
    go_enter func204,ntmps204
    go_wp2_with fail
    go_ret
    exact⟨by rw[HB.out];rfl,(bR _ _).alloc (nR _) _⟩
   by_cases h3:0≤dport
   case neg=>
    have HB:Hid (cP ⟨src,dst,proto,sport,dport⟩=false):=decide_eq_false (by dsimp only;omega)
    clear hp
    go_enter func204,ntmps204
    go_wp2_with fail
    go_ret
    exact⟨by rw[HB.out];rfl,(bR _ _).alloc (nR _) _⟩
   by_cases h4:dport≤65535
   case neg=>
    have HB:Hid (cP ⟨src,dst,proto,sport,dport⟩=false):=decide_eq_false (by dsimp only;omega)
    clear hp
    go_enter func204,ntmps204
    go_wp2_with fail
    go_ret
    exact⟨by rw[HB.out];rfl,(bR _ _).alloc (nR _) _⟩
   have HB:Hid (cP ⟨src,dst,proto,sport,dport⟩=true):=decide_eq_true (by dsimp only;omega)
   clear hp
   go_enter func204,ntmps204
   go_wp2_with fail
   go_ret
   exact⟨by rw[HB.out];rfl,(bR _ _).alloc (nR _) _⟩
 ·have b6:(proto==6)=false:=by simp;omega
  have b17:(proto==17)=false:=by simp;omega
  have HB:Hid (cP ⟨src,dst,proto,sport,dport⟩=false):=decide_eq_false (by dsimp only;omega)
  clear hp
  go_enter func204,ntmps204
  go_wp2_with fail
  go_ret
  exact⟨by rw[HB.out];rfl,(bR _ _).alloc (nR _) _⟩
end
end Go.Proofs.YtgjnoccflmjheaaGreatDoor
