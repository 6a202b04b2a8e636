import Derived.Below
import Derived.Laws.OwnMore
import Derived.Deep.AppendLies
import Derived.Deep.Draws
import Derived.Laws.Rows
import Derived.Maps.AppendAt
import Derived.RegionTactic
import Derived.OwnWalk
import Derived.BigFrame
import Derived.Laws.IdiomStrings
import Derived.Laws.Bits64
import Derived.BigQuiet
import Derived.Test.YtgjnoccflmjheaaGreatDoorRows
import Derived.WalkKit
import Derived.WalkSpells
import Derived.WalkLawsBesides
import Derived.Outline
import Derived.LoopTactic
import Derived.Lib.Hide
import Derived.Laws.BitsAllLaws
import Derived.Laws.ShiftsVarLaws
import Derived.ProofKit
import Derived.OpenShut
import Derived.ChangeOld
import Derived.SizedLaws
import Derived.Lib.SmallJoins
import Derived.Laws.BytesString
import Derived.Laws.Strings
import Derived.Deep.RegionLaw
import Derived.Deep.RegionHeld3
import Derived.BigRegion
import Derived.Deep.LoopGhost
import Derived.Deep.Slices
import Derived.Deep.Fields
import Derived.ChangeSame
import Derived.Deep.RegionWith
import Derived.Deep.Cut
import Derived.Shelf.Abstract
import Derived.Lib.SliceRun
import Derived.Laws.IdiomCopy
import Derived.Deep.QuietTactic
import Derived.Lib.SlBytesConst
import Derived.Maps.Keyed
import Derived.Maps.OwnSet
import Derived.Maps.RangeRun
import Derived.Shelf.SlMaps.Clone
import Derived.Deep.DeepCutAuto
namespace Go.Proofs.YtgjnoccflmjheaaGreatDoor
set_option linter.unusedVariables false
set_option linter.unusedSimpArgs false
set_option maxHeartbeats 8000000
set_option maxRecDepth 100000
open Value renaming int→X,slice→G,pointer→PT,bool→bL,agg→aG,tuple→tU
open Obj renaming cells→cL
open Ending renaming returned→rT
open Go.Proofs.Tryz
open Go.Proofs.Tryz renaming prog→Pg
open RowKit.Below renaming refl→bR
open IntKind renaming i64→Y,u32→Z
open List renaming getElem?_toArray→ga,getElem?_cons_zero→gz,getElem?_cons_succ→gN
open Lib renaming hid→jH
open Nat renaming le_refl→nR,le_trans→nT,le_succ→nS
open And renaming intro→aI
section
def fo (s:Nat):Nat:=if s=0 then 0 else (s - 1) % 65535 + 1
theorem fo_le (s:Nat):fo s≤65535:=by unfold fo;split<;>omega
theorem fo_small {s:Nat}(h:s≤65535):fo s=s:=by unfold fo;split<;>omega
theorem fo_step {s:Nat}(h:65535 < s):fo (s / 65536 + s % 65536)=fo s:=by unfold fo;split<;>split<;>omega
theorem fo_add (a b:Nat):fo (fo a + b)=fo (a + b):=by unfold fo;split<;>split<;>(try split)<;>omega
theorem fo_fo (a:Nat):fo (fo a)=fo a:=by have:=fo_add a 0;simpa using this
theorem fo_behind (a:Nat):fo (a + (65535 - fo a))=65535:=by unfold fo;split<;>split<;>omega
def wsum:List Nat→Nat
 |[]=>0
 |[x]=>x * 256
 |x::y::r=>x * 256 + y + wsum r
def AllB (l:List Nat):Prop:=∀x∈l,x < 256
theorem wsum_append:∀(k:Nat) (a b:List Nat),a.length=2 * k→wsum (a++b)=wsum a + wsum b
 |0,a,b,h=>by
  have:a=[]:=List.eq_nil_of_length_eq_zero (by omega)
  subst this;simp[wsum]
 |k + 1,[],b,h=>by simp at h
 |k + 1,[x],b,h=>by simp at h;omega
 |k + 1,x::y::r,b,h=>by
  simp only[List.cons_append,wsum]
  rw[wsum_append k r b (by simp at h;omega)]
  omega
theorem wsum_take_two (l:List Nat)(k:Nat)(h:2 * k + 1 < l.length):wsum (l.take (2 * (k + 1)))=wsum (l.take (2 * k)) + (l[2 * k] * 256 + l[2 * k + 1]):=by
 have e:l.take (2 * (k + 1))=l.take (2 * k)++[l[2 * k],l[2 * k + 1]]:=by
  rw[show 2 * (k + 1)=2 * k + 1 + 1 from by omega,List.take_succ_eq_append_getElem h,List.take_succ_eq_append_getElem (show 2 * k < l.length from by omega),List.append_assoc]
  rfl
 rw[e,wsum_append k _ _ (by simp;omega)]
 simp[wsum]
theorem wsum_take_last (l:List Nat)(k:Nat)(h:2 * k + 1=l.length):wsum l=wsum (l.take (2 * k)) + l[2 * k] * 256:=by
 have e:l=l.take (2 * k)++[l[2 * k]]:=by
  have:=List.take_succ_eq_append_getElem (l:=l) (i:=2 * k) (by omega)
  rw[←this,List.take_of_length_le (by omega)]
 conv=>lhs;rw[e]
 rw[wsum_append k _ _ (by simp;omega)]
 simp[wsum]
def partN (s:Nat)(b:List Nat):Nat:=fo (s + wsum b)
def foldN (s:Nat):Nat:=65535 - fo s
def netN (b:List Nat):Nat:=65535 - fo (wsum b)
def fixN (x old now:Nat):Nat:=65535 - fo ((65535 - x) + (65535 - old) + now)
theorem partN_le (s:Nat)(b:List Nat):partN s b≤65535:=fo_le _
theorem netN_lt (b:List Nat):netN b < 65536:=by unfold netN;omega
theorem fixN_lt (x o n:Nat):fixN x o n < 65536:=by unfold fixN;omega
theorem net_of (b:List Nat):foldN (partN 0 b)=netN b:=by unfold foldN partN netN;rw[fo_fo];simp
def crcBit (c:Nat):Nat:=if c % 2=1 then (c / 2) ^^^ 2197175160 else c / 2
def crcBits:Nat→Nat→Nat
 |0,c=>c
 |j + 1,c=>crcBit (crcBits j c)
def crcByte (c x:Nat):Nat:=crcBits 8 (c ^^^ x)
def crcL (l:List Nat):Nat:=l.foldl crcByte 4294967295
def crcN (l:List Nat):Nat:=4294967295 - crcL l
theorem xor_lt32 {a b:Nat}(ha:a < 4294967296)(hb:b < 4294967296):a ^^^ b < 4294967296:=Nat.xor_lt_two_pow (n:=32) (by omega) (by omega)
theorem crcBit_lt {c:Nat}(h:c < 4294967296):crcBit c < 4294967296:=by
 unfold crcBit
 split
 ·exact xor_lt32 (by omega) (by omega)
 ·omega
theorem crcBits_lt (j:Nat){c:Nat}(h:c < 4294967296):crcBits j c < 4294967296:=by
 induction j with
 |zero=>exact h
 |succ j ih=>exact crcBit_lt ih
theorem crcByte_lt {c x:Nat}(h:c < 4294967296)(hx:x < 256):crcByte c x < 4294967296:=crcBits_lt 8 (xor_lt32 h (by omega))
theorem foldl_lt {f:Nat→Nat→Nat}(hf:∀c x,c < 4294967296→x < 256→f c x < 4294967296):∀(l:List Nat) (c:Nat),AllB l→c < 4294967296→l.foldl f c < 4294967296
 |[],_,_,h=>h
 |x::r,c,hb,h=>foldl_lt hf r (f c x) (fun y hy=>hb y (List.mem_cons_of_mem _ hy)) (hf c x h (hb x (List.mem_cons_self ..)))
theorem foldl_take {f:Nat→Nat→Nat}(l:List Nat)(k c:Nat)(h:k < l.length):(l.take (k + 1)).foldl f c=f ((l.take k).foldl f c) l[k]:=by
 rw[List.take_succ_eq_append_getElem h,List.foldl_append];rfl
theorem AllB.take {l:List Nat}(h:AllB l)(k:Nat):AllB (l.take k):=fun x hx=>h x (List.mem_of_mem_take hx)
theorem AllB.drop {l:List Nat}(h:AllB l)(k:Nat):AllB (l.drop k):=fun x hx=>h x (List.mem_of_mem_drop hx)
theorem AllB.append {a b:List Nat}(h:AllB a)(k:AllB b):AllB (a++b):=fun x hx=>(List.mem_append.1 hx).elim (h x) (k x)
theorem crcN_lt (l:List Nat):crcN l < 4294967296:=by unfold crcN;omega
def mixByte (c x:Nat):Nat:=(c ^^^ x) * 16777619 % 4294967296
def mixL (seed:Nat)(l:List Nat):Nat:=l.foldl mixByte (seed ^^^ 2166136261)
def mixEnd (c:Nat):Nat:=let d:=(c ^^^ c / 32768) * 2246822507 % 4294967296;d ^^^ d / 8192
def mixN (seed:Nat)(l:List Nat):Nat:=mixEnd (mixL seed l)
theorem mixByte_lt (c x:Nat):mixByte c x < 4294967296:=Nat.mod_lt _ (by omega)
theorem mixL_lt {seed:Nat}{l:List Nat}(h:seed < 4294967296)(hl:AllB l):mixL seed l < 4294967296:=foldl_lt (fun _ _ _ _=>mixByte_lt _ _) l _ hl (xor_lt32 h (by omega))
theorem mixEnd_lt (c:Nat):mixEnd c < 4294967296:=by
 have:(c ^^^ c / 32768) * 2246822507 % 4294967296 < 4294967296:=Nat.mod_lt _ (by omega)
 exact xor_lt32 this (by omega)
theorem mixN_lt (seed:Nat)(l:List Nat):mixN seed l < 4294967296:=mixEnd_lt _
end
section
open Go.RowKit
theorem block_of_add (a:Addr)(n:Nat):(a.add n).block=a.block:=by unfold Addr.add;split<;>rfl
theorem add_of_add (a:Addr)(i j:Nat):(a.add i).add j=a.add (i + j):=by
 unfold Addr.add
 by_cases hi:i=0<;>by_cases hj:j=0<;>simp[hi,hj,Nat.add_assoc]
def Reads (w:World)(B size:Nat)(A:Option Addr)(n:Nat)(xs:List Value):Prop:=
 xs.length=n * size∧(0 < n→∃ad,A=some ad∧ad.block < B∧∀j u,xs[j]? =some u→w.cell? (ad.add j)=some u)
section
variable {w w':World}{B B' size n:Nat}{A:Option Addr}{xs:List Value}
theorem Reads.none_:Reads w B size A 0 []:=⟨by simp,fun h=>absurd h (by omega)⟩
theorem Reads.at_ {k:Nat}(h:Reads w B 1 A n xs)(hk:k < n):∃ad u,A=some ad∧ad.block < B∧xs[k]? =some u∧w.cell? (ad.add k)=some u:=by
 obtain⟨ad,e,hb,hc⟩:=h.2 (by omega)
 have hl:k < xs.length:=by have:=h.1;omega
 exact⟨ad,xs[k],e,hb,List.getElem?_eq_getElem hl,hc k _ (List.getElem?_eq_getElem hl)⟩
theorem Reads.keep (h:Reads w B size A n xs)(hk:∀p:Addr,p.block < B→w'.cell? p=w.cell? p):Reads w' B size A n xs:=
 ⟨h.1,fun hn=>by
  obtain⟨ad,e,hb,hc⟩:=h.2 hn
  exact⟨ad,e,hb,fun j u hu=>(hk _ (by rw[block_of_add];exact hb)).trans (hc j u hu)⟩⟩
theorem Reads.more (h:Reads w B size A n xs)(hB:B≤B'):Reads w B' size A n xs:=
 ⟨h.1,fun hn=>by
  obtain⟨ad,e,hb,hc⟩:=h.2 hn
  exact⟨ad,e,by omega,hc⟩⟩
theorem Reads.below (h:Reads w B size A n xs)(hb:Below B w w'):Reads w' B size A n xs:=h.keep fun _ hp=>hb.cell hp
theorem Reads.drew (h:Reads w B size A n xs):Reads w.drew B size A n xs:=h
theorem Reads.alloc (h:Reads w B size A n xs)(hB:B≤w.heap.size)(o:Obj):Reads (w.alloc o) B size A n xs:=h.keep fun p hp=>World.cell?_alloc_lt w o p (by omega)
theorem Reads.setCell (h:Reads w B size A n xs){p:Addr}(hB:B≤p.block)(u:Value):Reads (w.setCell p u) B size A n xs:=
 h.keep fun q hq=>World.cell?_setCell_other w p q u (fun e=>by subst e;omega)
theorem Reads.cut (h:Reads w B size A n xs){k cap:Nat}(hk:k≤n)(hc:n≤cap):
  Reads w B size (if cap=k then A else A.map (·.add (k * size))) (n - k) (xs.drop (k * size)):=by
 refine⟨by rw[List.length_drop,h.1,Nat.sub_mul],fun hn=>?_⟩
 obtain⟨ad,rfl,hb,hcell⟩:=h.2 (by omega)
 rw[if_neg (by omega)]
 refine⟨ad.add (k * size),rfl,by rw[block_of_add];exact hb,fun j u hu=>?_⟩
 rw[add_of_add]
 exact hcell _ u (by rw[←hu,List.getElem?_drop])
theorem Reads.of_own {base:Nat}{e:TypeId}{c:Nat}(h:w.ownsRow base e size (G A n c) n xs):Reads w w.heap.size size A n xs:=by
 refine⟨h.1,fun hn=>?_⟩
 obtain⟨g,cap,hv,_,hlt⟩:=h.form hn
 have hA:A=some ⟨g,0,none⟩:=by injection hv
 subst hA
 exact⟨_,rfl,hlt,h.cells (g:=g) rfl⟩
end
def Blk (w:World)(g:Nat)(t:TypeId)(cs:Array Value):Prop:=w.heap[g]? =some (.cells cs t (0,0))
section
variable {w w':World}{g:Nat}{t:TypeId}{cs:Array Value}
theorem Blk.lt (h:Blk w g t cs):g < w.heap.size:=by
 rcases Nat.lt_or_ge g w.heap.size with hlt|hge
 ·exact hlt
 ·unfold Blk at h;rw[Array.getElem?_eq_none hge] at h;cases h
theorem Blk.cell (h:Blk w g t cs)(i:Nat):w.cell? ⟨g,i,none⟩=cs[i]?:=cell_of_row w g i cs t (0,0) h
theorem Blk.frozen (h:Blk w g t cs)(i:Nat):w.frozen? ⟨g,i,none⟩=false:=by
 unfold Blk at h
 simp[World.frozen?,h]
theorem Blk.new (w:World)(t:TypeId)(cs:Array Value):Blk (w.alloc (.cells cs t)) w.heap.size t cs:=heap_alloc_new w _
theorem Blk.drew (h:Blk w g t cs):Blk w.drew g t cs:=h
theorem Blk.drewN (h:Blk w g t cs)(n:Nat):Blk (w.drewN n) g t cs:=h
theorem Blk.alloc (h:Blk w g t cs)(o:Obj):Blk (w.alloc o) g t cs:=(Below.heap_alloc w o g h.lt).trans h
theorem Blk.set_ (h:Blk w g t cs)(i:Nat)(u:Value):Blk (w.setCell ⟨g,i,none⟩ u) g t (cs.setIfInBounds i u):=by
 unfold Blk at h⊢
 simp[World.setCell,Array.getElem?_modify,h]
theorem Blk.far (h:Blk w g t cs){p:Addr}(hp:g≠p.block)(u:Value):Blk (w.setCell p u) g t cs:=(Below.heap_setCell w p u g hp).trans h
theorem Blk.below {B:Nat}(h:Blk w g t cs)(hb:Below B w w')(hg:g < B):Blk w' g t cs:=(hb.block g hg).trans h
theorem Blk.grown {row:Option Nat}(h:Blk w g t cs)(hb:w.grownBy w' row)(hg:some g≠row):Blk w' g t cs:=(hb.block g h.lt hg).trans h
theorem Blk.ne_ {g':Nat}{t':TypeId}{cs':Array Value}(h:Blk w g t cs)(h':Blk w g' t' cs')(hne:t≠t'):g≠g':=by
 rintro rfl
 unfold Blk at h h'
 rw[h] at h'
 injection h' with h'
 injection h' with _ ht
 exact hne ht
theorem own_blk_ne {base:Nat}{e:TypeId}{size n:Nat}{v:Value}{xs:List Value}(h:w.ownsRow base e size v n xs)(hg:Blk w g t cs)(hne:e≠t):v.ownBlock≠some g:=by
 rcases h.2 with⟨rfl,_⟩|⟨g',cap,cur,rfl,_,hh,_⟩
 ·simp[Value.ownBlock]
 ·intro he
  have:g'=g:=by simpa [Value.ownBlock] using he
  subst this
  exact Blk.ne_ (t:=e) hh hg hne rfl
end
section
variable {P:Program}(w:World)
theorem run_append_of_nil (base:Nat)(t ty e:TypeId)(i:TypeInfo)(size:Nat)(ht:P.underlying t=some (.slice e))(hi:P.info? e=some i)
  (v:Value)(n:Nat)(xs:List Value)(hown:w.ownsRow base e size v n xs)(c:Nat):(Builtin.append_ #[t,t] ty #[v,G none 0 c]).run P w=.ok v w:=by
 rcases hown.2 with⟨rfl,rfl⟩|⟨g,cap,cur,rfl,_,_,hnc,_⟩
 ·simp[Builtin.append_,run_underlying ht,sizeOf,typeInfo,hi,Builtin.lenOf,Builtin.firstCells]
 ·simp[Builtin.append_,run_underlying ht,sizeOf,typeInfo,hi,Builtin.lenOf,Builtin.firstCells,hnc,storeCells]
theorem run_append_any (base:Nat)(t ty e:TypeId)(i:TypeInfo)(z:Value)(size bytes:Nat)(ht:P.underlying t=some (.slice e))(hi:P.info? e=some i)(hz:i.zero=some z)
  (hsize:i.size=size)(hby:i.bytes=bytes)(hzs:z.cells.size=size)(hsz:0 < size)
  (v:Value)(n:Nat)(xs:List Value)(hown:w.ownsRow base e size v n xs)
  (B:Nat)(A:Option Addr)(m c:Nat)(news:List Value)(hr:Reads w B size A m news)(h1:∀u∈news,u.oneCell'=true)
  (h63:n + m≤maxLen)(hbytes:(n + m) * bytes≤140737488355328)(hbase:base≤w.heap.size):
  ∃v' w',(Builtin.append_ #[t,t] ty #[v,G A m c]).run P w=.ok v' w'∧w'.ownsRow base e size v' (n + m) (xs++news)∧w.grownBy w' v.ownBlock∧
   (v'.ownBlock=v.ownBlock∨v'.ownBlock=some w.heap.size):=by
 rcases A with _|ad
 ·have hm:m=0:=by
   rcases Nat.eq_zero_or_pos m with h0|h0
   ·exact h0
   ·obtain⟨ad,h,_⟩:=hr.2 h0
    cases h
  subst hm
  have hn:news=[]:=List.eq_nil_of_length_eq_zero (by simpa using hr.1)
  subst hn
  exact⟨v,w,run_append_of_nil w base t ty e i size ht hi v n xs hown c,by simpa using hown,World.grownBy.refl w _,.inl rfl⟩
 ·have hcells:∀j u,news[j]? =some u→w.cell? (ad.add j)=some u:=by
   intro j u hu
   rcases Nat.eq_zero_or_pos m with h0|h0
   ·subst h0
    have hn:news=[]:=List.eq_nil_of_length_eq_zero (by simpa using hr.1)
    subst hn
    simp at hu
   ·obtain⟨ad',h,_,hc⟩:=hr.2 h0
    injection h with h
    subst h
    exact hc j u hu
  obtain⟨v',w',hrun,h2,h3,_,h5⟩:=run_append_own_at (P:=P) w base t ty e i z size bytes ht hi hz hsize hby hzs hsz v n xs hown ad m c news hr.1 hcells h1 h63 hbytes hbase
  exact⟨v',w',hrun,h2,h3,h5⟩
theorem wp_append_any {o:Oper}{a:Act}{K:Act→World→Prop}{Q:Exit→Act→World→Prop}(s x:Operand)(t:TypeId)
  (ho:o.op=.call {callee:=.builtin .append,args:=#[s,x],argTypes:=#[t,t]})
  (base:Nat)(e:TypeId)(i:TypeInfo)(z:Value)(size bytes:Nat)(ht:P.underlying t=some (.slice e))(hi:P.info? e=some i)(hz:i.zero=some z)
  (hsize:i.size=size)(hby:i.bytes=bytes)(hzs:z.cells.size=size)(hsz:0 < size)
  (v:Value)(n:Nat)(xs:List Value)(hs:a.eval s=v)(hown:w.ownsRow base e size v n xs)
  (B:Nat)(A:Option Addr)(m c:Nat)(news:List Value)(hx:a.eval x=G A m c)(hr:Reads w B size A m news)(h1:∀u∈news,u.oneCell'=true)
  (h63:n + m≤maxLen)(hbytes:(n + m) * bytes≤140737488355328)(hbase:base≤w.heap.size)
  (h:∀v' w',w'.ownsRow base e size v' (n + m) (xs++news)→w.grownBy w' v.ownBlock→(v'.ownBlock=v.ownBlock∨v'.ownBlock=some w.heap.size)→K (a.put o.dst v') w'):o.wp P a w K Q:=by
 obtain⟨v',w',hrun,h2,h3,h4⟩:=run_append_any (P:=P) w base t o.type e i z size bytes ht hi hz hsize hby hzs hsz v n xs hown B A m c news hr h1 h63 hbytes hbase
 unfold Oper.wp execOp
 simp only[ho,resolve,invoke,builtin,Sem.run_bind,Sem.run_pure,Result.andThen_ok,List.map_toArray,List.map_cons,List.map_nil,hs,hx,hrun]
 exact h v' w' h2 h3 h4
theorem wpList_append_want {ops:Array Oper}{rest:List Oper}{o:Oper}{a:Act}{Q:Exit→Act→World→Prop}(hgd:Region.wanted o (yielded ops a.tmps)=true)(s x:Operand)(t:TypeId)
  (ho:o.op=.call {callee:=.builtin .append,args:=#[s,x],argTypes:=#[t,t]})
  (base:Nat)(e:TypeId)(i:TypeInfo)(z:Value)(size bytes:Nat)(ht:P.underlying t=some (.slice e))(hi:P.info? e=some i)(hz:i.zero=some z)
  (hsize:i.size=size)(hby:i.bytes=bytes)(hzs:z.cells.size=size)(hsz:0 < size)
  (v:Value)(n:Nat)(xs:List Value)(hs:a.eval s=v)(hown:w.ownsRow base e size v n xs)
  (B:Nat)(A:Option Addr)(m c:Nat)(news:List Value)(hx:a.eval x=G A m c)(hr:Reads w B size A m news)(h1:∀u∈news,u.oneCell'=true)
  (h63:n + m≤maxLen)(hbytes:(n + m) * bytes≤140737488355328)(hbase:base≤w.heap.size)
  (h:∀v' w',w'.ownsRow base e size v' (n + m) (xs++news)→w.grownBy w' v.ownBlock→(v'.ownBlock=v.ownBlock∨v'.ownBlock=some w.heap.size)→wpList P ops Q rest (a.put o.dst v') w'):wpList P ops Q (o::rest) a w:=
 BigFrame.wpList_want hgd fun _ hK=>wp_append_any w s x t ho base e i z size bytes ht hi hz hsize hby hzs hsz v n xs hs hown B A m c news hx hr h1 h63 hbytes hbase fun v' w' h2 h3 h4=>hK _ _ (h v' w' h2 h3 h4)
end
theorem lit_own {w':World}{g base n:Nat}{e:TypeId}{cs:Array Value}{xs:List Value}(hh:Blk w' g e cs)(hb:base≤g)(hm:n≤maxLen)(hs:cs.size=n)(hx:cs.toList=xs):w'.ownsRow base e 1 (G (some ⟨g,0,none⟩) n n) n xs:=by
 subst hs hx
 exact⟨by simp,.inr ⟨g,_,cs,rfl,hb,hh,nR _,hm,by simp,List.take_of_length_le (by simp)⟩⟩
theorem Blk.new_ {w:World}{g:Nat}{t:TypeId}{cs:Array Value}(hg:g=w.heap.size):Blk (w.alloc (.cells cs t)) g t cs:=by subst hg;exact Blk.new w t cs
theorem stop_ {p:Prop}(h:Hid p):p:=h
theorem on_ {p:Prop}(h:p):Hid p:=h
def bv (l:List Nat):List Value:=l.map fun x:Nat=>X .u8 x
theorem bv_length (l:List Nat):(bv l).length=l.length:=by simp[bv]
theorem bv_get {l:List Nat}{j:Nat}(h:j < l.length):(bv l)[j]? =some (X .u8 (l[j]:Nat)):=by simp[bv,h]
theorem bv_append (a b:List Nat):bv (a++b)=bv a++bv b:=by simp[bv]
theorem bv_one (l:List Nat):∀u∈bv l,u.oneCell'=true:=by
 intro u hu
 obtain⟨_,_,rfl⟩:=List.mem_map.1 hu
 rfl
theorem bv_nil:bv []=[]:=rfl
theorem bytes_at {w:World}{B:Nat}{A:Option Addr}{n:Nat}{l:List Nat}(h:Reads w B 1 A n (bv l)){j:Nat}(hj:j < n):
  ∃(ad:Addr) (hl:j < l.length),A=some ad∧w.cell? (ad.add j)=some (X .u8 (l[j]:Nat)):=by
 obtain⟨ad,u,ha,_,hx,hc⟩:=h.at_ hj
 have hl:j < l.length:=by have:=h.1;rw[bv_length] at this;omega
 rw[bv_get hl] at hx
 cases hx
 exact⟨ad,hl,ha,hc⟩
theorem Reads.length {w:World}{B:Nat}{A:Option Addr}{n:Nat}{l:List Nat}(h:Reads w B 1 A n (bv l)):l.length=n:=by have:=h.1;rw[bv_length] at this;omega
theorem Reads.take {w:World}{B:Nat}{A:Option Addr}{n k:Nat}{xs:List Value}(h:Reads w B 1 A n xs)(hk:k≤n):Reads w B 1 A k (xs.take k):=by
 have hl:=h.1
 refine⟨by simp;omega,fun hn=>?_⟩
 obtain⟨ad,rfl,hb,hc⟩:=h.2 (by omega)
 refine⟨ad,rfl,hb,fun j u hu=>hc j u ?_⟩
 have hj:j < k:=by
  have:=(List.getElem?_eq_some_iff.1 hu).1
  simp at this
  omega
 rwa [List.getElem?_take_of_lt hj] at hu
theorem Reads.takeb {w:World}{B:Nat}{A:Option Addr}{n k:Nat}{l:List Nat}(h:Reads w B 1 A n (bv l))(hk:k≤n):Reads w B 1 A k (bv (l.take k)):=by
 have:=h.take hk
 rwa [show (bv l).take k=bv (l.take k) from by simp[bv]] at this
theorem own_head {w:World}{base n c:Nat}{e:TypeId}{A:Option Addr}{xs:List Value}(h:w.ownsRow base e 1 (G A n c) n xs)(hn:0 < n):∃g,A=some ⟨g,0,none⟩∧base≤g∧g < w.heap.size:=by
 obtain⟨g,cap,hv,hg,hlt⟩:=h.form hn
 injection hv with hA
 exact⟨g,hA,hg,hlt⟩
theorem Reads.plain {w:World}{B size n:Nat}{A:Option Addr}{xs:List Value}(h:Reads w B size A n xs)(hn:0 < n)(hs:0 < size):∃b off,A=some ⟨b,off,none⟩∧b < B∧∀j u,xs[j]? =some u→w.cell? ⟨b,off + j,none⟩=some u:=by
 obtain⟨⟨b,off,spot⟩,ha,hb,hc⟩:=h.2 hn
 have hl:0 < xs.length:=by rw[h.1];exact Nat.mul_pos hn hs
 have h0:=hc 0 _ (List.getElem?_eq_getElem hl)
 rw[Addr.add_zero'] at h0
 have hsp:spot=none:=by
  cases spot with
  |none=>rfl
  |some s=>
   unfold World.cell? at h0
   split at h0
   ·simp at h0
   ·cases h0
 subst hsp
 refine⟨b,off,ha,hb,fun j u hu=>?_⟩
 have:=hc j u hu
 rwa [Addr.add_lit] at this
theorem own_set_far {w:World}{base n size g:Nat}{e t:TypeId}{v:Value}{xs:List Value}{cs:Array Value}(h:w.ownsRow base e size v n xs)(hb:Blk w g t cs)(hne:e≠t)(i:Nat)(u:Value):
  (w.setCell ⟨g,i,none⟩ u).ownsRow base e size v n xs:=
 h.kept (row:=some g) ⟨rfl,rfl,rfl,by simp,fun k _ hk=>heap_setCell_other w ⟨g,i,none⟩ k u (fun e=>hk (by simp[e]))⟩ (.inr (own_blk_ne h hb hne))
theorem own_below {w w':World}{base n size:Nat}{e:TypeId}{v:Value}{xs:List Value}(h:w.ownsRow base e size v n xs)(hb:Below w.heap.size w w'):w'.ownsRow base e size v n xs:=by
 refine⟨h.1,?_⟩
 rcases h.2 with hn|⟨g,cap,cur,rfl,hg,hgg,rest⟩
 ·exact .inl hn
 ·exact .inr ⟨g,cap,cur,rfl,hg,by rw[hb.block g (Array.getElem?_eq_some_iff.1 hgg).1];exact hgg,rest⟩
theorem ownb_cell {w:World}{base n c g:Nat}{e:TypeId}{l:List Nat}(h:w.ownsRow base e 1 (G (some ⟨g,0,none⟩) n c) n (bv l))(j:Nat)(hj:j < n)(hl:j < l.length):w.cell? ⟨g,j,none⟩=some (X .u8 (l[j]:Nat)):=by
 rw[h.cellAt j (by omega),bv_get hl]
theorem ownb_store {w:World}{base n c g:Nat}{e:TypeId}{l:List Nat}(h:w.ownsRow base e 1 (G (some ⟨g,0,none⟩) n c) n (bv l))(j x:Nat):
  (w.setCell ⟨g,j,none⟩ (X .u8 x)).ownsRow base e 1 (G (some ⟨g,0,none⟩) n c) n (bv (l.set j x)):=by
 have:=(h.stored j (X .u8 x)).1
 rwa [show (bv l).set j (X .u8 x)=bv (l.set j x) from by simp[bv,List.map_set]] at this
theorem reads_new (w:World)(e:TypeId)(fr:Nat×Nat)(C:Array Value)(n B g:Nat)(hn:C.size=n)(hB:B=w.heap.size + 1)(hg:g=w.heap.size)(xs:List Value)(hx:C.toList=xs):
  Reads (w.alloc (.cells C e fr)) B 1 (some ⟨g,0,none⟩) n xs:=by
 subst hn hB hg hx
 refine⟨by simp,fun _=>⟨_,rfl,Nat.lt_succ_self _,fun j u hu=>?_⟩⟩
 have hj:(⟨w.heap.size,0,none⟩:Addr).add j=⟨w.heap.size,j,none⟩:=by unfold Addr.add;split<;>simp_all
 rw[hj,World.cell?_alloc_mark]
 simpa using hu
theorem own_slice {w:World}{base size n:Nat}{e:TypeId}{v:Value}{xs:List Value}(h:w.ownsRow base e size v n xs):∃A c,v=G A n c:=by
 rcases h.2 with⟨rfl,rfl⟩|⟨g,cap,cur,rfl,_⟩
 ·exact⟨_,_,rfl⟩
 ·exact⟨_,_,rfl⟩
theorem wpList_append_b {P:Program}{w:World}{ops:Array Oper}{rest:List Oper}{o:Oper}{a:Act}{Q:Exit→Act→World→Prop}(hw:Region.wanted o (yielded ops a.tmps)=true)(s x:Operand)(t:TypeId)
  (ho:o.op=.call {callee:=.builtin .append,args:=#[s,x],argTypes:=#[t,t]})
  (e:TypeId)(hi:(P.info? e).map (fun i=>(i.zero,i.size,i.bytes))=some (some (X .u8 0),1,1))(ht:P.underlying t=some (.slice e))
  (base:Nat)(v:Value)(n:Nat)(l:List Nat)(hs:a.eval s=v)(hown:w.ownsRow base e 1 v n (bv l))
  (B:Nat)(A:Option Addr)(m c:Nat)(news:List Nat)(hx:a.eval x=G A m c)(hr:Reads w B 1 A m (bv news))
  (k:Nat)(hk:n + m=k)(hbytes:k≤140737488355328)(hbase:base≤w.heap.size)
  (h:∀A' c' w',w'.ownsRow base e 1 (G A' k c') k (bv (l++news))→Below base w w'→w.grownBy w' v.ownBlock→((Value.slice A' k c').ownBlock=v.ownBlock∨(Value.slice A' k c').ownBlock=some w.heap.size)→wpList P ops Q rest (a.put o.dst (G A' k c')) w'):
  wpList P ops Q (o::rest) a w:=by
 subst hk
 obtain⟨i0,hi0,hz0,hz1,hz2⟩:=info_parts hi
 refine wpList_append_want w hw s x t ho base e i0 _ 1 1 ht hi0 hz0 hz1 hz2 rfl (by omega) v n (bv l) hs hown B A m c (bv news) hx hr (bv_one _) (by unfold maxLen;omega) (by omega) hbase ?_
 intro v' w' h1 h2 h3
 obtain⟨A',c',rfl⟩:=own_slice h1
 rw[←bv_append] at h1
 exact h A' c' w' h1 ((bR _ _).grown h2 hbase (fun k hk=>(hown.lt k hk).1)) h2 h3
theorem step_append_b {P:Program}{w:World}{ops:Array Oper}{o:Oper}{a:Act}{K:Act→World→Prop}{Q:Exit→Act→World→Prop}{E:Prop}(hw:Region.wanted o (yielded ops a.tmps)=true)(s x:Operand)(t:TypeId)
  (ho:o.op=.call {callee:=.builtin .append,args:=#[s,x],argTypes:=#[t,t]})
  (e:TypeId)(hi:(P.info? e).map (fun i=>(i.zero,i.size,i.bytes))=some (some (X .u8 0),1,1))(ht:P.underlying t=some (.slice e))
  (base:Nat)(v:Value)(n:Nat)(l:List Nat)(hs:a.eval s=v)(hown:w.ownsRow base e 1 v n (bv l))
  (B:Nat)(A:Option Addr)(m c:Nat)(news:List Nat)(hx:a.eval x=G A m c)(hr:Reads w B 1 A m (bv news))
  (k:Nat)(hk:n + m=k)(hbytes:k≤140737488355328)(hbase:base≤w.heap.size)
  (h:∀A' c' w',w'.ownsRow base e 1 (G A' k c') k (bv (l++news))→Below base w w'→w.grownBy w' v.ownBlock→((Value.slice A' k c').ownBlock=v.ownBlock∨(Value.slice A' k c').ownBlock=some w.heap.size)→K (a.put o.dst (G A' k c')) w'):
  if Region.wanted o (yielded ops a.tmps)=true then Oper.wp P o a w K Q else E:=by
 subst hk
 obtain⟨i0,hi0,hz0,hz1,hz2⟩:=info_parts hi
 rw[if_pos hw]
 refine wp_append_any w s x t ho base e i0 _ 1 1 ht hi0 hz0 hz1 hz2 rfl (by omega) v n (bv l) hs hown B A m c (bv news) hx hr (bv_one _) (by unfold maxLen;omega) (by omega) hbase ?_
 intro v' w' h1 h2 h3
 obtain⟨A',c',rfl⟩:=own_slice h1
 rw[←bv_append] at h1
 exact h A' c' w' h1 ((bR _ _).grown h2 hbase (fun k hk=>(hown.lt k hk).1)) h2 h3
theorem wpList_append_1 {P:Program}{w:World}{ops:Array Oper}{rest:List Oper}{o:Oper}{a:Act}{Q:Exit→Act→World→Prop}(hw:Region.wanted o (yielded ops a.tmps)=true)(s x:Operand)(t:TypeId)
  (ho:o.op=.call {callee:=.builtin .append,args:=#[s,x],argTypes:=#[t,t]})
  (e:TypeId)(z:Value)(hi:(P.info? e).map (fun i=>(i.zero,i.size,i.bytes))=some (some z,1,8))(hzc:z.cells.size=1)(ht:P.underlying t=some (.slice e))
  (base:Nat)(v:Value)(n:Nat)(xs:List Value)(hs:a.eval s=v)(hown:w.ownsRow base e 1 v n xs)
  (B:Nat)(A:Option Addr)(m c:Nat)(news:List Value)(hx:a.eval x=G A m c)(hr:Reads w B 1 A m news)(h1:∀u∈news,u.oneCell'=true)
  (k:Nat)(hk:n + m=k)(hbytes:k≤1099511627776)(hbase:base≤w.heap.size)
  (h:∀A' c' w',w'.ownsRow base e 1 (G A' k c') k (xs++news)→Below base w w'→w.grownBy w' v.ownBlock→((Value.slice A' k c').ownBlock=v.ownBlock∨(Value.slice A' k c').ownBlock=some w.heap.size)→wpList P ops Q rest (a.put o.dst (G A' k c')) w'):
  wpList P ops Q (o::rest) a w:=by
 subst hk
 obtain⟨i0,hi0,hz0,hz1,hz2⟩:=info_parts hi
 refine wpList_append_want w hw s x t ho base e i0 _ 1 8 ht hi0 hz0 hz1 hz2 hzc (by omega) v n xs hs hown B A m c news hx hr h1 (by unfold maxLen;omega) (by omega) hbase ?_
 intro v' w' h1 h2 h3
 obtain⟨A',c',rfl⟩:=own_slice h1
 exact h A' c' w' h1 ((bR _ _).grown h2 hbase (fun k hk=>(hown.lt k hk).1)) h2 h3
end
section
open Go.RowKit
variable {w:World}{p:Nat}{t:TypeId}{v0 v1 v2 v3 v4 v5 v6 v7 v8 v9 v10 v11 v12 v13 v14 v15 v16 v17 v18 v19:Value}{l:List Value}{cs:Array Value}
theorem Blk.c1 (h:Blk w p t (v0::l).toArray):w.cell? ⟨p,0,none⟩=some v0:=h.cell 0
theorem Blk.c2 (h:Blk w p t (v0::v1::l).toArray):w.cell? ⟨p,0,none⟩=some v0∧w.cell? ⟨p,1,none⟩=some v1:=⟨h.cell 0,h.cell 1⟩
theorem Blk.c3 (h:Blk w p t (v0::v1::v2::l).toArray):w.cell? ⟨p,0,none⟩=some v0∧w.cell? ⟨p,1,none⟩=some v1∧w.cell? ⟨p,2,none⟩=some v2:=⟨h.cell 0,h.cell 1,h.cell 2⟩
theorem Blk.c4 (h:Blk w p t (v0::v1::v2::v3::l).toArray):w.cell? ⟨p,0,none⟩=some v0∧w.cell? ⟨p,1,none⟩=some v1∧w.cell? ⟨p,2,none⟩=some v2∧w.cell? ⟨p,3,none⟩=some v3:=⟨h.cell 0,h.cell 1,h.cell 2,h.cell 3⟩
theorem Blk.c5 (h:Blk w p t (v0::v1::v2::v3::v4::l).toArray):w.cell? ⟨p,0,none⟩=some v0∧w.cell? ⟨p,1,none⟩=some v1∧w.cell? ⟨p,2,none⟩=some v2∧w.cell? ⟨p,3,none⟩=some v3∧w.cell? ⟨p,4,none⟩=some v4:=⟨h.cell 0,h.cell 1,h.cell 2,h.cell 3,h.cell 4⟩
theorem Blk.c6 (h:Blk w p t (v0::v1::v2::v3::v4::v5::l).toArray):w.cell? ⟨p,0,none⟩=some v0∧w.cell? ⟨p,1,none⟩=some v1∧w.cell? ⟨p,2,none⟩=some v2∧w.cell? ⟨p,3,none⟩=some v3∧w.cell? ⟨p,4,none⟩=some v4∧w.cell? ⟨p,5,none⟩=some v5:=⟨h.cell 0,h.cell 1,h.cell 2,h.cell 3,h.cell 4,h.cell 5⟩
theorem Blk.c7 (h:Blk w p t (v0::v1::v2::v3::v4::v5::v6::l).toArray):w.cell? ⟨p,0,none⟩=some v0∧w.cell? ⟨p,1,none⟩=some v1∧w.cell? ⟨p,2,none⟩=some v2∧w.cell? ⟨p,3,none⟩=some v3∧w.cell? ⟨p,4,none⟩=some v4∧w.cell? ⟨p,5,none⟩=some v5∧w.cell? ⟨p,6,none⟩=some v6:=⟨h.cell 0,h.cell 1,h.cell 2,h.cell 3,h.cell 4,h.cell 5,h.cell 6⟩
theorem Blk.c8 (h:Blk w p t (v0::v1::v2::v3::v4::v5::v6::v7::l).toArray):w.cell? ⟨p,0,none⟩=some v0∧w.cell? ⟨p,1,none⟩=some v1∧w.cell? ⟨p,2,none⟩=some v2∧w.cell? ⟨p,3,none⟩=some v3∧w.cell? ⟨p,4,none⟩=some v4∧w.cell? ⟨p,5,none⟩=some v5∧w.cell? ⟨p,6,none⟩=some v6∧w.cell? ⟨p,7,none⟩=some v7:=⟨h.cell 0,h.cell 1,h.cell 2,h.cell 3,h.cell 4,h.cell 5,h.cell 6,h.cell 7⟩
theorem Blk.c11 (h:Blk w p t (v0::v1::v2::v3::v4::v5::v6::v7::v8::v9::v10::l).toArray):w.cell? ⟨p,0,none⟩=some v0∧w.cell? ⟨p,1,none⟩=some v1∧w.cell? ⟨p,2,none⟩=some v2∧w.cell? ⟨p,3,none⟩=some v3∧w.cell? ⟨p,4,none⟩=some v4∧w.cell? ⟨p,5,none⟩=some v5∧w.cell? ⟨p,6,none⟩=some v6∧w.cell? ⟨p,7,none⟩=some v7∧w.cell? ⟨p,8,none⟩=some v8∧w.cell? ⟨p,9,none⟩=some v9∧w.cell? ⟨p,10,none⟩=some v10:=⟨h.cell 0,h.cell 1,h.cell 2,h.cell 3,h.cell 4,h.cell 5,h.cell 6,h.cell 7,h.cell 8,h.cell 9,h.cell 10⟩
theorem Blk.c14 (h:Blk w p t (v0::v1::v2::v3::v4::v5::v6::v7::v8::v9::v10::v11::v12::v13::l).toArray):w.cell? ⟨p,0,none⟩=some v0∧w.cell? ⟨p,1,none⟩=some v1∧w.cell? ⟨p,2,none⟩=some v2∧w.cell? ⟨p,3,none⟩=some v3∧w.cell? ⟨p,4,none⟩=some v4∧w.cell? ⟨p,5,none⟩=some v5∧w.cell? ⟨p,6,none⟩=some v6∧w.cell? ⟨p,7,none⟩=some v7∧w.cell? ⟨p,8,none⟩=some v8∧w.cell? ⟨p,9,none⟩=some v9∧w.cell? ⟨p,10,none⟩=some v10∧w.cell? ⟨p,11,none⟩=some v11∧w.cell? ⟨p,12,none⟩=some v12∧w.cell? ⟨p,13,none⟩=some v13:=⟨h.cell 0,h.cell 1,h.cell 2,h.cell 3,h.cell 4,h.cell 5,h.cell 6,h.cell 7,h.cell 8,h.cell 9,h.cell 10,h.cell 11,h.cell 12,h.cell 13⟩
theorem Blk.f2 (h:Blk w p t cs):w.frozen? ⟨p,0,none⟩=false∧w.frozen? ⟨p,1,none⟩=false:=⟨h.frozen 0,h.frozen 1⟩
theorem Blk.f3 (h:Blk w p t cs):w.frozen? ⟨p,0,none⟩=false∧w.frozen? ⟨p,1,none⟩=false∧w.frozen? ⟨p,2,none⟩=false:=⟨h.frozen 0,h.frozen 1,h.frozen 2⟩
theorem Blk.f4 (h:Blk w p t cs):w.frozen? ⟨p,0,none⟩=false∧w.frozen? ⟨p,1,none⟩=false∧w.frozen? ⟨p,2,none⟩=false∧w.frozen? ⟨p,3,none⟩=false:=⟨h.frozen 0,h.frozen 1,h.frozen 2,h.frozen 3⟩
theorem Blk.f5 (h:Blk w p t cs):w.frozen? ⟨p,0,none⟩=false∧w.frozen? ⟨p,1,none⟩=false∧w.frozen? ⟨p,2,none⟩=false∧w.frozen? ⟨p,3,none⟩=false∧w.frozen? ⟨p,4,none⟩=false:=⟨h.frozen 0,h.frozen 1,h.frozen 2,h.frozen 3,h.frozen 4⟩
theorem Blk.f6 (h:Blk w p t cs):w.frozen? ⟨p,0,none⟩=false∧w.frozen? ⟨p,1,none⟩=false∧w.frozen? ⟨p,2,none⟩=false∧w.frozen? ⟨p,3,none⟩=false∧w.frozen? ⟨p,4,none⟩=false∧w.frozen? ⟨p,5,none⟩=false:=⟨h.frozen 0,h.frozen 1,h.frozen 2,h.frozen 3,h.frozen 4,h.frozen 5⟩
theorem Blk.f7 (h:Blk w p t cs):w.frozen? ⟨p,0,none⟩=false∧w.frozen? ⟨p,1,none⟩=false∧w.frozen? ⟨p,2,none⟩=false∧w.frozen? ⟨p,3,none⟩=false∧w.frozen? ⟨p,4,none⟩=false∧w.frozen? ⟨p,5,none⟩=false∧w.frozen? ⟨p,6,none⟩=false:=⟨h.frozen 0,h.frozen 1,h.frozen 2,h.frozen 3,h.frozen 4,h.frozen 5,h.frozen 6⟩
theorem Blk.f9 (h:Blk w p t cs):w.frozen? ⟨p,0,none⟩=false∧w.frozen? ⟨p,1,none⟩=false∧w.frozen? ⟨p,2,none⟩=false∧w.frozen? ⟨p,3,none⟩=false∧w.frozen? ⟨p,4,none⟩=false∧w.frozen? ⟨p,5,none⟩=false∧w.frozen? ⟨p,6,none⟩=false∧w.frozen? ⟨p,7,none⟩=false∧w.frozen? ⟨p,8,none⟩=false:=⟨h.frozen 0,h.frozen 1,h.frozen 2,h.frozen 3,h.frozen 4,h.frozen 5,h.frozen 6,h.frozen 7,h.frozen 8⟩
theorem Blk.f11 (h:Blk w p t cs):w.frozen? ⟨p,0,none⟩=false∧w.frozen? ⟨p,1,none⟩=false∧w.frozen? ⟨p,2,none⟩=false∧w.frozen? ⟨p,3,none⟩=false∧w.frozen? ⟨p,4,none⟩=false∧w.frozen? ⟨p,5,none⟩=false∧w.frozen? ⟨p,6,none⟩=false∧w.frozen? ⟨p,7,none⟩=false∧w.frozen? ⟨p,8,none⟩=false∧w.frozen? ⟨p,9,none⟩=false∧w.frozen? ⟨p,10,none⟩=false:=⟨h.frozen 0,h.frozen 1,h.frozen 2,h.frozen 3,h.frozen 4,h.frozen 5,h.frozen 6,h.frozen 7,h.frozen 8,h.frozen 9,h.frozen 10⟩
theorem Blk.f19 (h:Blk w p t cs):w.frozen? ⟨p,0,none⟩=false∧w.frozen? ⟨p,1,none⟩=false∧w.frozen? ⟨p,2,none⟩=false∧w.frozen? ⟨p,3,none⟩=false∧w.frozen? ⟨p,4,none⟩=false∧w.frozen? ⟨p,5,none⟩=false∧w.frozen? ⟨p,6,none⟩=false∧w.frozen? ⟨p,7,none⟩=false∧w.frozen? ⟨p,8,none⟩=false∧w.frozen? ⟨p,9,none⟩=false∧w.frozen? ⟨p,10,none⟩=false∧w.frozen? ⟨p,11,none⟩=false∧w.frozen? ⟨p,12,none⟩=false∧w.frozen? ⟨p,13,none⟩=false∧w.frozen? ⟨p,14,none⟩=false∧w.frozen? ⟨p,15,none⟩=false∧w.frozen? ⟨p,16,none⟩=false∧w.frozen? ⟨p,17,none⟩=false∧w.frozen? ⟨p,18,none⟩=false:=⟨h.frozen 0,h.frozen 1,h.frozen 2,h.frozen 3,h.frozen 4,h.frozen 5,h.frozen 6,h.frozen 7,h.frozen 8,h.frozen 9,h.frozen 10,h.frozen 11,h.frozen 12,h.frozen 13,h.frozen 14,h.frozen 15,h.frozen 16,h.frozen 17,h.frozen 18⟩
end
section
open Go.RowKit
theorem ret_int {k:IntKind}{a b:Int}(h:a=b):Ending.returned (.int k a)=rT (.int k b):=by rw[h]
theorem xor_ones (n a:Nat)(ha:a < 2 ^ n):(2 ^ n - 1) ^^^ a=2 ^ n - 1 - a:=by
 have e:2 ^ n - 1 - a=2 ^ n - (a + 1):=by omega
 rw[e]
 apply Nat.eq_of_testBit_eq
 intro i
 rw[Nat.testBit_xor,Nat.testBit_two_pow_sub_one,Nat.testBit_two_pow_sub_succ ha]
 by_cases h:i < n
 ·simp[h]
 ·have:a.testBit i=false:=Nat.testBit_lt_two_pow (Nat.lt_of_lt_of_le ha (Nat.pow_le_pow_right (by omega) (by omega)))
  simp[h,this]
theorem not_u16 (a:Nat)(ha:a≤65535):bits BinOp.xor IntKind.u16 IntKind.u16.max (a:Int)=((65535 - a:Nat):Int):=by
 have h:=u16_xor_nat 65535 a (by omega) (by omega)
 have e:(65535 ^^^ a:Nat)=65535 - a:=xor_ones 16 a (by omega)
 rw[e] at h
 exact h
theorem not_u32 (a:Nat)(ha:a < 4294967296):bits BinOp.xor IntKind.u32 IntKind.u32.max (a:Int)=((4294967295 - a:Nat):Int):=by
 have h:=u32_xor_nat 4294967295 a (by omega) (by omega)
 have e:(4294967295 ^^^ a:Nat)=4294967295 - a:=xor_ones 32 a (by omega)
 rw[e] at h
 exact h
theorem add_succ (a:Addr)(k:Nat):a.add (k + 1)=⟨a.block,a.off + (k + 1),none⟩:=by simp[Addr.add]
end
section
open Go.ChangeShapes Go.WideShapes Go.ChangeAt Go.RowKit
theorem wf_u32 {z:Int}(h:(Lit.int .u32 z).wf=true):0≤z∧z < 4294967296:=by
 have:0≤z∧z≤4294967295:=by simpa [Lit.wf,IntKind.min,IntKind.max,IntKind.signed,IntKind.bits] using h
 omega
theorem wf_i64 {z:Int}(h:(Lit.int .i64 z).wf=true):-9223372036854775808≤z∧z≤9223372036854775807:=by
 simpa [Lit.wf,IntKind.min,IntKind.max,IntKind.signed,IntKind.bits] using h
theorem nat_u32 {z:Int}(h:(Lit.int .u32 z).wf=true):∃n:Nat,z=n∧n < 4294967296:=⟨z.toNat,by have:=wf_u32 h;omega,by have:=wf_u32 h;omega⟩
section
variable {H:Type}{enc:TypeId×Value→H}{P:Program}{W:World}{t e:TypeId}{d:DataW H}{ps:List MemPlace}
theorem trod_lt' {v:Value}(h:DataW.Trod enc P W 0 (fun _=>true) true t v d ps):∀x∈ps,x.block < W.heap.size:=by
 obtain⟨m,hm⟩:=h
 exact DataW.trod_lt m _ _ _ hm
end
def strB (l:List Nat):ByteArray:=⟨(l.map UInt8.ofNat).toArray⟩
theorem strB_toList (l:List Nat):(strB l).toList=l.map UInt8.ofNat:=by simp[strB]
theorem u8_nat {x:Nat}(h:x < 256):(UInt8.ofNat x).toNat=x:=by rw[UInt8.toNat_ofNat'];omega
theorem map_ofNat_inj:∀(l m:List Nat),AllB l→AllB m→l.map UInt8.ofNat=m.map UInt8.ofNat→l=m
 |[],[],_,_,_=>rfl
 |[],_::_,_,_,h=>by simp at h
 |_::_,[],_,_,h=>by simp at h
 |x::r,y::t,hl,hm,h=>by
  simp only[List.map_cons,List.cons.injEq] at h
  have hx:=hl x (List.mem_cons_self ..)
  have hy:=hm y (List.mem_cons_self ..)
  have e:=congrArg UInt8.toNat h.1
  rw[u8_nat hx,u8_nat hy] at e
  have:x=y:=e
  rw[this,map_ofNat_inj r t (fun z hz=>hl z (List.mem_cons_of_mem _ hz)) (fun z hz=>hm z (List.mem_cons_of_mem _ hz)) h.2]
theorem strB_eq {l m:List Nat}(hl:AllB l)(hm:AllB m):((strB l).toList==(strB m).toList)=decide (l=m):=by
 rw[strB_toList,strB_toList]
 by_cases h:l=m
 ·subst h;simp
 ·have:l.map UInt8.ofNat≠m.map UInt8.ofNat:=fun e=>h (map_ofNat_inj l m hl hm e)
  simp[h,this]
theorem run_string_back {P:Program}{w:World}{B n c:Nat}{A:Option Addr}{l:List Nat}(src dst e:TypeId)(hs:P.underlying src=some (.slice e))(he:P.underlying e=some (.int .u8))(hd:P.underlying dst=some .string)
  (hr:Reads w B 1 A n (bv l))(ha:AllB l):(convert src dst (G A n c)).run P w=.ok (.string (strB l)) w:=by
 have hlen:=hr.length
 rcases A with _|ad
 ·have h0:n=0:=by
   rcases Nat.eq_zero_or_pos n with h|h
   ·exact h
   ·obtain⟨_,h',_⟩:=hr.2 h
    cases h'
  subst h0
  have:l=[]:=List.eq_nil_of_length_eq_zero hlen
  subst this
  rw[run_convert_bytes_string w src dst e none 0 c hs he hd]
  rfl
 ·have:=run_convert_bytes_back (P:=P) w src dst e ad c (l.map UInt8.ofNat) hs he hd (fun j hj=>by
   have hjl:j < l.length:=by simpa using hj
   obtain⟨ad',_,e',hc⟩:=bytes_at hr (j:=j) (by omega)
   cases e'
   rw[hc]
   have hb:=ha _ (List.getElem_mem hjl)
   rw[List.getElem_map,u8_nat hb])
  simp only[List.length_map,hlen] at this
  exact this
end
section
open Go.RowKit
def be (n width:Nat):List Nat:=(List.range width).map fun i=>n / 256 ^ (width - 1 - i) % 256
theorem be_length (n width:Nat):(be n width).length=width:=by simp[be]
theorem be_all (n width:Nat):AllB (be n width):=by
 intro x hx
 obtain⟨i,_,rfl⟩:=List.mem_map.1 hx
 exact Nat.mod_lt _ (by omega)
theorem be_take (n width k:Nat)(h:k < width):(be n width).take (k + 1)=(be n width).take k++[n / 256 ^ (width - 1 - k) % 256]:=by
 rw[List.take_succ_eq_append_getElem (by rw[be_length];exact h)]
 simp[be]
theorem infoB:(Pg.info? 5).map (fun i=>(i.zero,i.size,i.bytes))=some (some (X .u8 0),1,1):=by kernel_rfl
def WBuf (w:World)(base p:Nat)(l:List Nat):Prop:=base≤p∧∃A c,Blk w p 251 #[G A l.length c]∧w.ownsRow base 5 1 (G A l.length c) l.length (bv l)
theorem WBuf.below {w w':World}{base p:Nat}{l:List Nat}(h:WBuf w base p l)(hb:Below w.heap.size w w'):WBuf w' base p l:=by
 obtain⟨h1,A,c,h2,h3⟩:=h
 exact⟨h1,A,c,h2.below hb h2.lt,own_below h3 hb⟩
theorem put_any (p base:Nat)(n width:Nat)(l:List Nat)(w:World)(hn:n < 18446744073709551616)(hwd:width≤8)(hl:l.length≤1099511627776)(h:WBuf w base p l)(hbase:base≤w.heap.size):
  Calls Pg 261 #[PT (some ⟨p,0,none⟩),X .u64 n,X Y width] w fun e w'=>e=rT (tU #[])∧WBuf w' base p (l++be n width)∧Below base w w':=by
 go_enter func261,ntmps261
 go_wp2
 go_loopw [10] (fun i wr=>∃k:Nat,k≤width∧i=X Y k∧WBuf wr base p (l++(be n width).take k)∧Below base w wr) (fun i _=>width - (intOf i).toNat)
 case atStart=>exact⟨0,by omega,rfl,by simpa using h,bR _ _⟩
 case round=>
  obtain⟨k,hk,rfl,hwb,hbr⟩:=hrel
  by_cases hkw:k < width
  ·obtain⟨hbp,A,c,hblk,hown⟩:=hwb
   have hcell:=hblk.cell 0
   have hfr:=hblk.frozen 0
   simp only[ga,gz] at hcell
   have hml:(l++(be n width).take k).length≤1099511627784:=by rw[List.length_append,List.length_take,be_length];omega
   have HT:=jH (be_take n width k hkw)
   have HT2:Hid (l++(be n width).take (k + 1)=(l++(be n width).take k)++[n / 256 ^ (width - 1 - k) % 256]):=by
    show _=_
    rw[HT.out,List.append_assoc]
   generalize l++(be n width).take k=m at *
   obtain⟨W,d,hW,hd,hdlt⟩:∃W d:Nat,W + 1=width∧d + k=W∧d≤7:=⟨width - 1,width - 1 - k,by omega,by omega,by omega⟩
   have e1:IntKind.i64.wrap ((width:Int) - 1)=(W:Int):=by rw[IntWalk.i64_in _ (by omega)];omega
   have e2:IntKind.i64.wrap ((W:Int) - (k:Int))=(d:Int):=by rw[IntWalk.i64_in _ (by omega)];omega
   have e3:IntKind.i64.wrap (8 * (d:Int))=((8 * d:Nat):Int):=by rw[IntWalk.i64_in _ (by omega)];omega
   have hq:n / 256 ^ (width - 1 - k)=n / 2 ^ (8 * d):=by
    rw[show width - 1 - k=d from by omega,Nat.pow_mul]
   have hsh:Op.shift BinOp.shr .u64 (n:Int) .i64 ((8 * d:Nat):Int)=pure (X .u64 (n / 2 ^ (8 * d):Nat)):=by
    rw[shift_shr_any _ _ _ _ (by omega)]
    have:min ((8 * d:Nat):Int).toNat IntKind.u64.bits=8 * d:=by rw[Int.toNat_natCast];show min (8 * d) 64=_;omega
    rw[this,Int.natCast_ediv,Int.natCast_pow]
    rfl
   have hql:n / 2 ^ (8 * d) < 18446744073709551616:=Nat.lt_of_le_of_lt (Nat.div_le_self _ _) hn
   rw[hq] at HT2
   generalize n / 2 ^ (8 * d)=q at *
   generalize 8 * d=s8 at *
   clear hq hW hd
   have hwq:IntKind.u8.wrap (q:Int)=((q % 256:Nat):Int):=by rw[IntKind.wrap_u8'];omega
   have hsz:base≤wr.heap.size:=nT hbase hbr.size
   have hplt:=hblk.lt
   go_wp2
   go_region_law (refine step_append_b rfl (.tmp 17) (.tmp 26) _ rfl 5 infoB underlying23 base (G A m.length c) m.length m (by simp[Act.eval,Act.put]) (hown.alloc _) (wr.heap.size + 1) (some ⟨wr.heap.size,0,none⟩) 1 1 [q % 256] (by simp[Act.eval,Act.put]) (reads_new _ _ _ _ 1 _ _ (by rfl) (by rfl) (by rfl) _ (by simp[bv])) (m.length + 1) rfl (by omega) (by simp;omega) ?_;intro A1 c1 w1 hown1 hb1 hg1 hat1;have hblk1:Blk w1 p 251 #[G A m.length c]:=Blk.grown ((hblk.alloc _).drew) hg1 (fun e=>own_blk_ne hown hblk (by decide) e.symm);have hcell1:=hblk1.cell 0;have hfr1:=hblk1.frozen 0;simp only[ga,gz] at hcell1)
   all_goals
    go_wp2
    go_roundw
    case rel=>
     refine⟨k + 1,by omega,by go_num,⟨hbp,A1,c1,?_,?_⟩,?_⟩
     ·rw[HT2.out,List.length_append]
      exact hblk1.set_ 0 _
     ·rw[HT2.out,List.length_append]
      exact own_set_far hown1 hblk1 (by decide) 0 _
     ·exact(hbr.trans (((bR _ _).alloc hsz _).drew.trans hb1)).setCell hbp _
    case measure=>simp[intOf];omega
  ·have hkk:k=width:=by omega
   have hfin:Hid (WBuf wr base p (l++be n width)):=by
    have:=hwb
    rw[hkk,List.take_of_length_le (by rw[be_length];omega)] at this
    exact this
   clear hwb
   go_wp2
   go_end0
   exact⟨rfl,hfin.out,hbr⟩
theorem u32_any (p base n:Nat)(l:List Nat)(w:World)(hn:n < 4294967296)(hl:l.length≤1099511627776)(h:WBuf w base p l)(hbase:base≤w.heap.size):
  Calls Pg 263 #[PT (some ⟨p,0,none⟩),X Z n] w fun e w'=>e=rT (tU #[])∧WBuf w' base p (l++be n 4)∧Below base w w':=by
 have HC:=jH (put_any p base n 4 l w (by omega) (by omega) hl h hbase)
 go_enter func263,ntmps263
 go_wp2_with fail
 refine HC.out.mono ?_
 rintro e w' ⟨rfl,hwb,hbw⟩
 go_wp2_with fail
 go_end0
 exact⟨rfl,hwb,hbw⟩
def u64n (z:Int):Nat:=(z % 18446744073709551616).toNat
theorem u64n_lt (z:Int):u64n z < 18446744073709551616:=by unfold u64n;omega
theorem u64_wrap (z:Int):IntKind.u64.wrap z=(u64n z:Int):=by rw[IntKind.wrap_u64];unfold u64n;omega
theorem u64n_nat (n:Nat)(h:n < 18446744073709551616):u64n (n:Int)=n:=by unfold u64n;omega
theorem be_one (n:Nat):be n 1=[n % 256]:=by simp[be]
theorem be_two (n:Nat):be n 2=[n / 256 % 256,n % 256]:=by simp[be,List.range_succ]
theorem be_four (n:Nat):be n 4=[n / 16777216 % 256,n / 65536 % 256,n / 256 % 256,n % 256]:=by simp[be,List.range_succ]
theorem be_mod (n m width:Nat)(h:n % 256 ^ width=m % 256 ^ width):be n width=be m width:=by
 unfold be
 apply List.map_congr_left
 intro i hi
 have hi':i < width:=List.mem_range.1 hi
 have e:256 ^ width=256 ^ (width - 1 - i) * (256 * 256 ^ i):=by
  rw[←Nat.mul_assoc,Nat.mul_comm _ 256,Nat.mul_assoc,←Nat.pow_add,←Nat.pow_succ']
  congr 1;omega
 have k:∀x:Nat,x / 256 ^ (width - 1 - i) % 256=x % 256 ^ width / 256 ^ (width - 1 - i) % 256:=by
  intro x
  rw[e,Nat.mod_mul_right_div_self,Nat.mod_mul_right_mod]
 rw[k n,k m,h]
theorem u8w_any (p base:Nat)(z:Int)(l:List Nat)(w:World)(hl:l.length≤1099511627776)(h:WBuf w base p l)(hbase:base≤w.heap.size):
  Calls Pg 159 #[PT (some ⟨p,0,none⟩),X Y z] w fun e w'=>e=rT (tU #[])∧WBuf w' base p (l++be (u64n z) 1)∧Below base w w':=by
 have HC:=jH (put_any p base (u64n z) 1 l w (u64n_lt z) (by omega) hl h hbase)
 have hw:=u64_wrap z
 go_enter func159,ntmps159
 go_wp2_with fail
 refine HC.out.mono ?_
 rintro e w' ⟨rfl,hwb,hbw⟩
 go_wp2_with fail
 go_end0
 exact⟨rfl,hwb,hbw⟩
theorem u16w_any (p base:Nat)(z:Int)(l:List Nat)(w:World)(hl:l.length≤1099511627776)(h:WBuf w base p l)(hbase:base≤w.heap.size):
  Calls Pg 157 #[PT (some ⟨p,0,none⟩),X Y z] w fun e w'=>e=rT (tU #[])∧WBuf w' base p (l++be (u64n z) 2)∧Below base w w':=by
 have HC:=jH (put_any p base (u64n z) 2 l w (u64n_lt z) (by omega) hl h hbase)
 have hw:=u64_wrap z
 go_enter func157,ntmps157
 go_wp2_with fail
 refine HC.out.mono ?_
 rintro e w' ⟨rfl,hwb,hbw⟩
 go_wp2_with fail
 go_end0
 exact⟨rfl,hwb,hbw⟩
theorem clone_any (A:Option Addr)(n c B:Nat)(l:List Nat)(w:World)(hr:Reads w B 1 A n (bv l))(hB:B≤w.heap.size)(hn:n≤140737488355328)(hnil:A=none→c=0):
  Calls Pg 266 #[G A n c] w fun e w'=>∃A' c',e=rT (G A' n c')∧w'.ownsRow w.heap.size 5 1 (G A' n c') n (bv l)∧Below w.heap.size w w':=by
 rcases A with _|ad
 ·obtain rfl:=hnil rfl
  have h0:n=0:=by
   rcases Nat.eq_zero_or_pos n with h|h
   ·exact h
   ·obtain⟨_,h',_⟩:=hr.2 h
    cases h'
  subst h0
  have hl:l=[]:=List.eq_nil_of_length_eq_zero hr.length
  subst hl
  go_enter func266,ntmps266
  have heq:=fun w:World=>Lib.run_eql_slice_nil (P:=Pg) w 23 5 none 0 0 0 0 underlying23
  go_wp2_with fail
  go_ret
  exact⟨none,0,rfl,World.ownsRow_nil _ _ _ _,bR _ _⟩
 ·go_enter func266,ntmps266
  have heq:=fun w:World=>Lib.run_eql_slice_nil (P:=Pg) w 23 5 (some ad) n c 0 0 underlying23
  go_wp2_with (at_builtin;refine stop_ ?_)
  refine on_ ?_
  refine wpList_append_b rfl (.tmp 5) (.tmp 6) _ rfl 5 infoB underlying23 w.heap.size (G (some ⟨w.heap.size,0,none⟩) 0 0) 0 [] rfl
   (lit_own (cs:=#[]) (Blk.new_ rfl) (by omega) (by decide) rfl rfl) B (some ad) n c l rfl (hr.alloc hB _) n (by omega) (by omega) (by simp) ?_
  intro A1 c1 w1 hown1 hbw1 _ _
  rw[List.nil_append] at hown1
  go_wp2_with fail
  go_ret
  exact⟨A1,c1,rfl,hown1,((bR _ _).alloc (nR _) _).trans hbw1⟩
theorem bytes_any (p base:Nat)(l:List Nat)(w:World)(h:WBuf w base p l)(hl:l.length≤140737488355328):
  Calls Pg 163 #[PT (some ⟨p,0,none⟩)] w fun e w'=>∃A' c',e=rT (G A' l.length c')∧w'.ownsRow w.heap.size 5 1 (G A' l.length c') l.length (bv l)∧Below w.heap.size w w':=by
 obtain⟨hbp,A,c,hblk,hown⟩:=h
 have hcell:=hblk.cell 0
 simp only[ga,gz] at hcell
 have HC:=jH (clone_any A l.length c w.heap.size l w (Reads.of_own hown) (nR _) hl (fun e=>by
  subst e
  rcases hown.2 with⟨h,_⟩|⟨g,cap,cur,h,_⟩
  ·injection h with _ _ h3
  ·injection h with h1
   cases h1))
 clear hown hblk
 go_enter func163,ntmps163
 go_wp2_with fail
 refine HC.out.mono ?_
 rintro e w' ⟨A',c',rfl,hown,hb⟩
 go_wp2_with fail
 go_ret
 exact⟨A',c',rfl,hown,hb⟩
def nb (l:List Nat):Nat:=l.foldl (fun n x=>n * 256 + x) 0
theorem nb_take (l:List Nat)(k:Nat)(h:k < l.length):nb (l.take (k + 1))=nb (l.take k) * 256 + l[k]:=by
 unfold nb
 rw[List.take_succ_eq_append_getElem h,List.foldl_append];rfl
theorem nb_lt {l:List Nat}(h:AllB l):∀k,k≤l.length→nb (l.take k) < 256 ^ k
 |0,_=>by simp[nb]
 |k + 1,hk=>by
  have ih:=nb_lt h k (by omega)
  have hx:=h _ (List.getElem_mem (l:=l) (n:=k) (by omega))
  rw[nb_take l k (by omega),Nat.pow_succ]
  omega
def RBuf (w:World)(p:Nat)(l:List Nat):Prop:=∃B A c,B≤p∧Blk w p 466 #[G A l.length c,X Y 0]∧Reads w B 1 A l.length (bv l)∧l.length≤c
theorem RBuf.below {w w':World}{p:Nat}{l:List Nat}(h:RBuf w p l)(hb:Below w.heap.size w w'):RBuf w' p l:=by
 obtain⟨B,A,c,h1,h2,h3,h4⟩:=h
 have:=h2.lt
 exact⟨B,A,c,h1,h2.below hb h2.lt,h3.below (hb.mono (by omega)),h4⟩
theorem RBuf.lt {w:World}{p:Nat}{l:List Nat}(h:RBuf w p l):p < w.heap.size:=by
 obtain⟨B,A,c,h1,h2,h3,h4⟩:=h
 exact h2.lt
theorem grown_set (w:World)(p i:Nat)(v:Value):w.grownBy (w.setCell ⟨p,i,none⟩ v) (some p):=
 ⟨rfl,rfl,rfl,by simp,fun k _ hk=>heap_setCell_other w ⟨p,i,none⟩ k v (fun e=>hk (by simp[e]))⟩
theorem RBuf.behind {w w':World}{p q:Nat}{l:List Nat}(h:RBuf w p l)(hb:Below q w w')(hq:p < q):RBuf w' p l:=by
 obtain⟨B,A,c,h1,h2,h3,h4⟩:=h
 exact⟨B,A,c,h1,h2.below hb hq,h3.below (hb.mono (by omega)),h4⟩
def Took (n p:Nat)(l:List Nat)(w:World)(e:Ending)(w':World):Prop:=
 ∃A c B,e=rT (G A n c)∧B≤p∧Reads w' B 1 A n (bv (l.take n))∧RBuf w' p (l.drop n)∧w.grownBy w' (some p)
theorem take_any (p n:Nat)(l:List Nat)(w:World)(hn:n≤l.length)(hl:l.length≤140737488355328)(h:RBuf w p l):
  Calls Pg 442 #[PT (some ⟨p,0,none⟩),X Y n] w fun e w'=>Took n p l w e w':=by
 obtain⟨B,A,c,hB,hblk,hr,hlc⟩:=h
 have hdrop:=hr.cut (k:=n) hn hlc
 rw[Nat.mul_one] at hdrop
 have htake:=hr.takeb hn
 obtain⟨hc0,hc1⟩:=hblk.c2
 have hf0:=hblk.frozen 0
 have hd:(bv l).drop n=bv (l.drop n):=by simp[bv]
 rw[hd] at hdrop
 have hld:(l.drop n).length=l.length - n:=by simp
 have H:Hid (∀v,∀c',v=G (if c=n then A else A.map (·.add n)) (l.length - n) c'→l.length - n≤c'→Took n p l w (rT (G A n c)) (w.setCell ⟨p,0,none⟩ v)):=by
  intro v c' hv hc'
  subst hv
  refine⟨A,c,B,rfl,hB,htake.setCell (p:=⟨p,0,none⟩) hB _,⟨B,(if c=n then A else A.map (·.add n)),c',hB,?_,?_,by rw[hld];exact hc'⟩,grown_set w p 0 _⟩
  ·rw[hld]
   exact hblk.set_ 0 _
  ·rw[hld]
   exact hdrop.setCell (p:=⟨p,0,none⟩) hB _
 generalize l.length=m at *
 clear hdrop htake hblk hr hd hld
 by_cases hcn:c=n
 ·have hmn:m=n:=by omega
  have H':Hid (Took n p l w (rT (G A n c)) (w.setCell ⟨p,0,none⟩ (G A (m - n) 0))):=H.out _ 0 (by rw[if_pos hcn]) (by omega)
  subst hmn
  subst hcn
  rw[Nat.sub_self] at H'
  clear H
  go_enter func442,ntmps442
  go_wp2_with fail
  go_ret
  exact H'.out
 ·have H':Hid (Took n p l w (rT (G A n c)) (w.setCell ⟨p,0,none⟩ (G (A.map (·.add n)) (m - n) (c - n)))):=H.out _ (c - n) (by rw[if_neg hcn]) (by omega)
  clear H
  rcases A with _|ad
  ·go_enter func442,ntmps442
   go_wp2_with fail
   go_ret
   exact H'.out
  ·go_enter func442,ntmps442
   go_wp2_with fail
   go_ret
   exact H'.out
def NumLeft (p width:Nat)(l:List Nat)(w w':World):Prop:=RBuf w' p (l.drop width)∧w.grownBy w' (some p)
theorem number_any (p width:Nat)(l:List Nat)(w:World)(hwd:width≤4)(hn:width≤l.length)(hl:l.length≤140737488355328)(ha:AllB l)(h:RBuf w p l):
  Calls Pg 408 #[PT (some ⟨p,0,none⟩),X Y width] w fun e w'=>e=rT (X .u64 (nb (l.take width):Nat))∧NumLeft p width l w w':=by
 have HC:=jH (take_any p width l w hn hl h)
 have HL:=jH (nb_lt ha)
 have hlt:(l.take width).length=width:=by simp;omega
 have HT:=jH hlt
 have HA:=jH (ha.take width)
 have HB:=jH (nb_lt (ha.take width))
 clear hlt ha h hn
 go_enter func408,ntmps408
 go_wp2_with fail
 refine HC.out.mono ?_
 rintro e w1 ⟨A,c,B,rfl,hB,hr,hrb,hbl⟩
 have HE:Hid (NumLeft p width l w w1):=⟨hrb,hbl⟩
 clear hrb hbl HC hl HL
 obtain⟨m,hm⟩:∃m,m=l.take width:=⟨_,rfl⟩
 rw[←hm] at hr HT HA HB
 have HM:=jH hm
 clear hm
 go_wp2_with fail
 go_loop [5,12] (fun t i=>∃k:Nat,k≤width∧i=X Y k∧t=X .u64 (nb (m.take k):Nat)) (fun _ i=>width - (intOf i).toNat)
 case atStart=>exact⟨0,Nat.zero_le _,rfl,rfl⟩
 case round=>
  obtain⟨k,hk,rfl,rfl⟩:=hrel
  have hlt:=HB.out k (by rw[HT.out];exact hk)
  have hp:256 ^ k≤256 ^ 4:=Nat.pow_le_pow_right (by omega) (by omega)
  have hsm:nb (m.take k) < 256 ^ 4:=by omega
  have hsm':nb (m.take k) < 4294967296:=hsm
  clear hlt hp hsm
  by_cases hkw:k < width
  ·obtain⟨ad,hl0,rfl,hc⟩:=bytes_at hr hkw
   have hx:=HA.out _ (List.getElem_mem hl0)
   have hnx:Hid (nb (m.take (k + 1))=nb (m.take k) * 256 + m[k]):=nb_take m k hl0
   generalize m[k]=x at *
   generalize nb (m.take k)=y at *
   have hor:bits BinOp.or IntKind.u64 ((y:Int) * 256) (x:Int)=((y * 256 + x:Nat):Int):=by
    have:=u64_or_nat (y * 256) x (by omega) (by omega)
    rw[nat_join 8 (y * 256) x (by omega) (by omega)] at this
    exact this
   go_wp2_with fail
   go_round
   case rel=>exact⟨k + 1,by omega,by go_num,by rw[hnx.out,Int.natCast_add,Int.natCast_mul];rfl⟩
   case measure=>simp[intOf];omega
  ·have hkk:k=width:=by omega
   have hfin:Hid (m.take k=m):=by show _=_;rw[hkk];exact List.take_of_length_le (by rw[HT.out];exact nR _)
   rw[hfin.out]
   clear hkk
   go_wp2_with fail
   go_ret
   exact⟨by rw[←HM.out];rfl,HE.out⟩
theorem u8r_any (p:Nat)(l:List Nat)(w:World)(hn:1≤l.length)(hl:l.length≤140737488355328)(ha:AllB l)(h:RBuf w p l):
  Calls Pg 406 #[PT (some ⟨p,0,none⟩)] w fun e w'=>e=rT (X Y (nb (l.take 1):Nat))∧NumLeft p 1 l w w':=by
 have HC:=jH (number_any p 1 l w (by omega) hn hl ha h)
 have hb:nb (l.take 1) < 256:=nb_lt ha 1 hn
 clear h ha
 go_enter func406,ntmps406
 go_wp2_with fail
 refine HC.out.mono ?_
 rintro e w1 ⟨rfl,he⟩
 have HE:=jH he
 clear he HC
 go_wp2_with fail
 go_ret
 exact⟨rfl,HE.out⟩
theorem u16r_any (p:Nat)(l:List Nat)(w:World)(hn:2≤l.length)(hl:l.length≤140737488355328)(ha:AllB l)(h:RBuf w p l):
  Calls Pg 306 #[PT (some ⟨p,0,none⟩)] w fun e w'=>e=rT (X Y (nb (l.take 2):Nat))∧NumLeft p 2 l w w':=by
 have HC:=jH (number_any p 2 l w (by omega) hn hl ha h)
 have hb:nb (l.take 2) < 65536:=nb_lt ha 2 hn
 clear h ha
 go_enter func306,ntmps306
 go_wp2_with fail
 refine HC.out.mono ?_
 rintro e w1 ⟨rfl,he⟩
 have HE:=jH he
 clear he HC
 go_wp2_with fail
 go_ret
 exact⟨rfl,HE.out⟩
theorem u32r_any (p:Nat)(l:List Nat)(w:World)(hn:4≤l.length)(hl:l.length≤140737488355328)(ha:AllB l)(h:RBuf w p l):
  Calls Pg 305 #[PT (some ⟨p,0,none⟩)] w fun e w'=>e=rT (X Z (nb (l.take 4):Nat))∧NumLeft p 4 l w w':=by
 have HC:=jH (number_any p 4 l w (by omega) hn hl ha h)
 have hb:nb (l.take 4) < 4294967296:=nb_lt ha 4 hn
 clear h ha
 go_enter func305,ntmps305
 go_wp2_with fail
 refine HC.out.mono ?_
 rintro e w1 ⟨rfl,he⟩
 have HE:=jH he
 clear he HC
 go_wp2_with fail
 go_ret
 exact⟨rfl,HE.out⟩
theorem newreader_any (A:Option Addr)(n c B:Nat)(l:List Nat)(w:World)(hr:Reads w B 1 A n (bv l))(hB:B≤w.heap.size)(hn:n≤140737488355328)(hnil:A=none→c=0):
  Calls Pg 304 #[G A n c] w fun e w'=>∃p,e=rT (PT (some ⟨p,0,none⟩))∧w.heap.size≤p∧RBuf w' p l∧Below w.heap.size w w':=by
 have HC:=jH (clone_any A n c B l w hr hB hn hnil)
 have HL:=jH hr.length
 clear hr
 go_enter func304,ntmps304
 go_wp2_with fail
 refine HC.out.mono ?_
 rintro e w1 ⟨A1,c1,rfl,hown,hb⟩
 have HE:Hid (RBuf (w1.alloc (cL #[G A1 n c1,X Y 0] 466)) w1.heap.size l):=by
  refine⟨w1.heap.size,A1,c1,nR _,?_,?_,?_⟩
  ·rw[HL.out];exact Blk.new _ _ _
  ·rw[HL.out];exact(Reads.of_own hown).alloc (nR _) _
  ·rw[HL.out]
   rcases hown.2 with⟨h,_⟩|⟨g,cap,cur,h,_,_,hc,_⟩
   ·cases h;exact nR _
   ·cases h;exact hc
 have hs:=hb.size
 clear hown HC
 go_wp2_with fail
 go_ret
 exact⟨_,rfl,hs,HE.out,hb.alloc hs _⟩
theorem own_base {w:World}{base base' n size:Nat}{e:TypeId}{v:Value}{xs:List Value}(h:w.ownsRow base e size v n xs)(hb:base'≤base):w.ownsRow base' e size v n xs:=by
 refine⟨h.1,?_⟩
 rcases h.2 with hn|⟨g,cap,cur,rfl,hg,rest⟩
 ·exact .inl hn
 ·exact .inr ⟨g,cap,cur,rfl,by omega,rest⟩
structure But (p:Nat)(w w':World):Prop where
 os:w'.os=w.os
 tape:w'.tape=w.tape
 output:w'.output=w.output
 size:w.heap.size≤w'.heap.size
 block:∀k,k < w.heap.size→k≠p→w'.heap[k]? =w.heap[k]?
theorem But.of_below {p:Nat}{w w':World}(h:Below w.heap.size w w'):But p w w':=⟨h.os,h.tape,h.output,h.size,fun k hk _=>h.block k hk⟩
theorem But.trans {p:Nat}{a b c:World}(h:But p a b)(k:But p b c):But p a c:=
 ⟨k.os.trans h.os,k.tape.trans h.tape,k.output.trans h.output,nT h.size k.size,fun i h1 h2=>(k.block i (Nat.lt_of_lt_of_le h1 h.size) h2).trans (h.block i h1 h2)⟩
theorem But.set_ {p:Nat}{a w:World}(h:But p a w)(i:Nat)(u:Value):But p a (w.setCell ⟨p,i,none⟩ u):=
 h.trans ⟨rfl,rfl,rfl,by simp[World.setCell],fun k _ hk=>Below.heap_setCell _ _ _ _ hk⟩
theorem But.blk {p g:Nat}{w w':World}{t:TypeId}{cs:Array Value}(h:But p w w')(hb:Blk w g t cs)(hne:g≠p):Blk w' g t cs:=(h.block g hb.lt hne).trans hb
theorem But.below {p B:Nat}{w w':World}(h:But p w w')(hp:B≤p)(hB:B≤w.heap.size):Below B w w':=⟨h.os,h.tape,h.output,h.size,fun k hk=>h.block k (by omega) (by omega)⟩
end
section
theorem pigeon:∀(n:Nat) (f:Nat→Nat),(∀i,i < n→f i < n)→(∀i j,i < n→j < n→f i=f j→i=j)→∀v,v < n→∃i,i < n∧f i=v
 |0,_,_,_,v,hv=>by omega
 |n + 1,f,hf,inj,v,hv=>by
  have hw:=hf n (by omega)
  have hg:∀i,i < n→(if f i=n then f n else f i) < n:=by
   intro i hi
   have h1:=hf i (by omega)
   have h2:f i=f n→i=n:=inj i n (by omega) (by omega)
   split<;>omega
  have hginj:∀i j,i < n→j < n→(if f i=n then f n else f i)=(if f j=n then f n else f j)→i=j:=by
   intro i j hi hj
   have h1:=inj i j (by omega) (by omega)
   have h2:f i=f n→i=n:=inj i n (by omega) (by omega)
   have h3:f j=f n→j=n:=inj j n (by omega) (by omega)
   split<;>split<;>intro h
   ·exact h1 (by omega)
   ·have:=h3 h.symm;omega
   ·have:=h2 h;omega
   ·exact h1 h
  have ih:=pigeon n (fun i=>if f i=n then f n else f i) hg hginj
  by_cases hvw:v=f n
  ·exact⟨n,by omega,hvw.symm⟩
  ·by_cases hvn:v=n
   ·obtain⟨i,hi,he⟩:=ih (f n) (by omega)
    have h2:f i=f n→i=n:=inj i n (by omega) (by omega)
    refine⟨i,by omega,?_⟩
    split at he
    ·omega
    ·have:=h2 he;omega
   ·obtain⟨i,hi,he⟩:=ih v (by omega)
    refine⟨i,by omega,?_⟩
    split at he<;>omega
theorem step_inj {n at_ skip:Nat}(hn:0 < n)(hc:Nat.gcd n skip=1){i j:Nat}(hi:i < n)(hj:j < n)(h:(at_ + i * skip) % n=(at_ + j * skip) % n):i=j:=by
 have key:∀a b:Nat,a≤b→b < n→(at_ + a * skip) % n=(at_ + b * skip) % n→a=b:=by
  intro a b hab hb h
  have hd:n∣(b - a) * skip:=by
   have h1:(at_ + b * skip) - (at_ + a * skip)=(b - a) * skip:=by rw[Nat.sub_mul];omega
   rw[←h1]
   exact Nat.dvd_of_mod_eq_zero (Nat.sub_mod_eq_zero_of_mod_eq h.symm)
  have hd2:n∣(b - a):=Nat.Coprime.dvd_of_dvd_mul_right hc hd
  rcases Nat.eq_zero_or_pos (b - a) with h0|h0
  ·omega
  ·have:=Nat.le_of_dvd h0 hd2;omega
 rcases Nat.le_total i j with hij|hij
 ·exact key i j hij hj h
 ·exact(key j i hij hi h.symm).symm
theorem step_onto {n at_ skip:Nat}(hn:0 < n)(hc:Nat.gcd n skip=1){v:Nat}(hv:v < n):∃j,j < n∧(at_ + j * skip) % n=v:=
 pigeon n (fun j=>(at_ + j * skip) % n) (fun j _=>Nat.mod_lt _ hn) (fun i j hi hj h=>step_inj hn hc hi hj h) v hv
def findF (t:List Int)(skip n:Nat):Nat→Nat→Nat
 |0,at_=>at_
 |f + 1,at_=>if t[at_]? =some (-1) then at_ else findF t skip n f ((at_ + skip) % n)
structure Walks (t:List Int)(at_ skip n J v:Nat):Prop where
 lt:J < n
 goes:(at_ + J * skip) % n=v
 taken:∀i,i < J→t[(at_ + i * skip) % n]?≠some (-1)
 free:t[v]? =some (-1)
theorem least {p:Nat→Prop}[DecidablePred p]:∀(n:Nat),(∃j,j < n∧p j)→∃J,J < n∧p J∧∀i,i < J→¬p i
 |0,h=>by obtain⟨j,hj,_⟩:=h;omega
 |n + 1,h=>by
  by_cases hp:∃j,j < n∧p j
  ·obtain⟨J,hJ,h1,h2⟩:=least n hp
   exact⟨J,by omega,h1,h2⟩
  ·obtain⟨j,hj,hpj⟩:=h
   have:j=n:=by
    rcases Nat.lt_or_ge j n with h'|h'
    ·exact absurd ⟨j,h',hpj⟩ hp
    ·omega
   subst this
   exact⟨j,by omega,hpj,fun i hi hpi=>hp ⟨i,hi,hpi⟩⟩
theorem findF_walks {t:List Int}{skip n:Nat}(hn:0 < n):∀(J f at_ v:Nat),at_ < n→(at_ + J * skip) % n=v→(∀i,i < J→t[(at_ + i * skip) % n]?≠some (-1))→t[v]? =some (-1)→J < f→findF t skip n f at_=v
 |J,0,_,_,_,_,_,_,h=>by omega
 |0,f + 1,at_,v,hat,hv,_,hfree,_=>by
  have e:at_=v:=by rw[←hv];simp[Nat.mod_eq_of_lt hat]
  subst e
  rw[findF,if_pos hfree]
 |J + 1,f + 1,at_,v,hat,hv,htk,hfree,hf=>by
  have h0:=htk 0 (by omega)
  rw[Nat.zero_mul,Nat.add_zero,Nat.mod_eq_of_lt hat] at h0
  rw[findF,if_neg h0]
  have sh:∀i,((at_ + skip) % n + i * skip) % n=(at_ + (i + 1) * skip) % n:=by
   intro i
   rw[Nat.mod_add_mod,Nat.add_assoc]
   congr 2
   rw[Nat.add_mul,Nat.one_mul]
   omega
  refine findF_walks hn J f _ v (Nat.mod_lt _ hn) (by rw[sh];exact hv) (fun i hi=>?_) hfree (by omega)
  rw[sh]
  exact htk (i + 1) (by omega)
theorem walks_of {t:List Int}{at_ skip n:Nat}(hn:0 < n)(hc:Nat.gcd n skip=1)(hat:at_ < n)(hfree:∃v,v < n∧t[v]? =some (-1)):
  ∃J,Walks t at_ skip n J (findF t skip n n at_):=by
 obtain⟨v,hv,hf⟩:=hfree
 obtain⟨j,hj,hje⟩:=step_onto (at_:=at_) hn hc hv
 obtain⟨J,hJ,h1,h2⟩:=least (p:=fun j=>t[(at_ + j * skip) % n]? =some (-1)) n ⟨j,hj,by rw[hje];exact hf⟩
 have e:=findF_walks (t:=t) (skip:=skip) hn J n at_ _ hat rfl h2 h1 hJ
 exact⟨J,hJ,e.symm,h2,by rw[e];exact h1⟩
structure Bk where
 id:Int
 weight:Nat
 off:Nat
 skip:Nat
def turn (bs:List Bk)(n:Nat)(s:List Nat×List Int)(b:Nat):List Nat×List Int:=
 let at_:=findF s.2 ((bs[b]?.map Bk.skip).getD 1) n n (s.1[b]?.getD 0)
 (s.1.set b at_,s.2.set at_ ((bs[b]?.map Bk.id).getD (-1)))
def turnsOf:Nat→List Bk→List Nat
 |_,[]=>[]
 |k,b::r=>List.replicate b.weight k++turnsOf (k + 1) r
def takes (bs:List Bk):List Nat:=turnsOf 0 bs
def run (bs:List Bk)(n:Nat):Nat→List Nat×List Int
 |0=>(bs.map Bk.off,List.replicate n (-1))
 |i + 1=>turn bs n (run bs n i) ((takes bs)[i % (takes bs).length]?.getD 0)
def tableB (bs:List Bk)(n:Nat):List Int:=(run bs n n).2
structure Good (bs:List Bk)(n:Nat):Prop where
 pos:0 < n
 off:∀b∈bs,b.off < n
 skip:∀b∈bs,Nat.gcd n b.skip=1
 id:∀b∈bs,0≤b.id
 weight:∀b∈bs,0 < b.weight
 some_:bs≠[]
theorem turnsOf_lt:∀(bs:List Bk) (k x:Nat),x∈turnsOf k bs→k≤x∧x < k + bs.length
 |[],k,x,h=>by simp[turnsOf] at h
 |b::r,k,x,h=>by
  simp only[turnsOf,List.mem_append,List.mem_replicate] at h
  rcases h with⟨_,rfl⟩|h
  ·simp
  ·have:=turnsOf_lt r (k + 1) x h
   simp
   omega
theorem takes_lt {bs:List Bk}{x:Nat}(h:x∈takes bs):x < bs.length:=by
 have:=turnsOf_lt bs 0 x h
 omega
theorem takes_pos {bs:List Bk}{n:Nat}(h:Good bs n):0 < (takes bs).length:=by
 have h1:=h.some_
 match bs,h with
 |b::r,h=>
  have:=h.weight b (List.mem_cons_self ..)
  unfold takes turnsOf
  simp
  omega
def frees (t:List Int):Nat:=t.countP (·==-1)
structure Inv (bs:List Bk)(n i:Nat)(s:List Nat×List Int):Prop where
 ats:s.1.length=bs.length
 atn:∀a∈s.1,a < n
 len:s.2.length=n
 free:frees s.2=n - i
theorem frees_set {t:List Int}{v:Nat}{x:Int}(h:t[v]? =some (-1))(hx:x≠-1):frees (t.set v x) + 1=frees t:=by
 unfold frees
 have hv:v < t.length:=(List.getElem?_eq_some_iff.1 h).1
 have he:t[v]=-1:=by rw[List.getElem?_eq_getElem hv] at h;exact Option.some.inj h
 rw[List.countP_set hv]
 have hpos:0 < t.countP (·==-1):=List.countP_pos_iff.2 ⟨t[v],List.getElem_mem hv,by simp[he]⟩
 simp[he,hx]
 omega
theorem frees_some {t:List Int}(h:0 < frees t):∃v,v < t.length∧t[v]? =some (-1):=by
 obtain⟨x,hx,he⟩:=List.countP_pos_iff.1 h
 obtain⟨v,hv,hvx⟩:=List.getElem_of_mem hx
 refine⟨v,hv,?_⟩
 rw[List.getElem?_eq_getElem hv,hvx]
 simpa using he
theorem turn_inv {bs:List Bk}{n i b:Nat}{s:List Nat×List Int}(hg:Good bs n)(h:Inv bs n i s)(hi:i < n)(hb:b < bs.length):
  Inv bs n (i + 1) (turn bs n s b)∧∃at_ J,s.1[b]? =some at_∧at_ < n∧Walks s.2 at_ (bs[b]).skip n J (findF s.2 (bs[b]).skip n n at_)∧
   turn bs n s b=(s.1.set b (findF s.2 (bs[b]).skip n n at_),s.2.set (findF s.2 (bs[b]).skip n n at_) (bs[b]).id):=by
 have hbm:bs[b]∈bs:=List.getElem_mem hb
 have hb1:b < s.1.length:=by rw[h.ats];exact hb
 have hat:=h.atn _ (List.getElem_mem hb1)
 obtain⟨v,hv,hfree⟩:=frees_some (t:=s.2) (by rw[h.free];omega)
 obtain⟨J,hJ⟩:=walks_of hg.pos (hg.skip _ hbm) hat ⟨v,by rw[←h.len];exact hv,hfree⟩
 have e:turn bs n s b=(s.1.set b (findF s.2 (bs[b]).skip n n s.1[b]),s.2.set (findF s.2 (bs[b]).skip n n s.1[b]) (bs[b]).id):=by
  unfold turn
  simp[hb,hb1]
 refine⟨?_,s.1[b],J,List.getElem?_eq_getElem hb1,hat,hJ,e⟩
 rw[e]
 have hvn:findF s.2 (bs[b]).skip n n s.1[b] < n:=by rw[←hJ.goes];exact Nat.mod_lt _ hg.pos
 refine⟨by simpa using h.ats,?_,by simpa using h.len,?_⟩
 ·intro a ha
  rcases List.mem_or_eq_of_mem_set ha with ha|rfl
  ·exact h.atn a ha
  ·exact hvn
 ·have hid:=hg.id _ hbm
  have:=frees_set (x:=(bs[b]).id) hJ.free (by omega)
  simp only
  rw[h.free] at this
  omega
theorem run_inv {bs:List Bk}{n:Nat}(hg:Good bs n):∀i,i≤n→Inv bs n i (run bs n i)
 |0,_=>by
  refine⟨by simp[run],?_,by simp[run],by simp[run,frees,List.countP_replicate]⟩
  intro a ha
  simp only[run,List.mem_map] at ha
  obtain⟨b,hb,rfl⟩:=ha
  exact hg.off b hb
 |i + 1,hi=>by
  have ih:=run_inv hg i (by omega)
  have hl:=takes_pos hg
  have hm:i % (takes bs).length < (takes bs).length:=Nat.mod_lt _ hl
  have hb:(takes bs)[i % (takes bs).length] < bs.length:=takes_lt (List.getElem_mem hm)
  have:=(turn_inv hg ih (by omega) hb).1
  rw[run,List.getElem?_eq_getElem hm]
  exact this
end
section
open Go.RowKit
theorem mix_any (seed:Nat)(hs:seed < 4294967296)(w:World)(B:Nat)(A:Option Addr)(n c:Nat)(l:List Nat)(h:Reads w B 1 A n (bv l))(hn:n≤281474976710656)(hb:AllB l):
  Calls Pg 319 #[X Z seed,G A n c] w fun e w'=>e=rT (X Z (mixN seed l))∧w=w':=by
 have hln:l.length=n:=by have:=h.1;rw[bv_length] at this;omega
 have hx0:bits BinOp.xor IntKind.u32 (seed:Int) 2166136261=((seed ^^^ 2166136261:Nat):Int):=u32_xor_nat seed 2166136261 hs (by omega)
 go_enter func319,ntmps319
 go_wp2
 go_loop [5,12] (fun t i=>∃k:Nat,k≤n∧i=X Y k∧t=X Z (mixL seed (l.take k):Nat)) (fun _ i=>n - (intOf i).toNat)
 case atStart=>exact⟨0,by omega,rfl,rfl⟩
 case round=>
  obtain⟨k,hk,rfl,rfl⟩:=hrel
  have hp:=mixL_lt hs (hb.take k)
  clear hx0
  by_cases hlt:k < n
  ·obtain⟨ad,hl0,rfl,hc0⟩:=bytes_at h hlt
   have hx:=hb _ (List.getElem_mem hl0)
   have hnext:mixL seed (l.take (k + 1))=mixByte (mixL seed (l.take k)) l[k]:=foldl_take (f:=mixByte) l k _ hl0
   generalize mixL seed (l.take k)=p at hp hnext
   generalize l[k]=x at hc0 hx hnext
   have HN:=jH hnext
   clear hnext
   have hxor:bits BinOp.xor IntKind.u32 (p:Int) (x:Int)=((p ^^^ x:Nat):Int):=u32_xor_nat p x hp (by omega)
   go_wp2
   go_round
   case rel=>exact⟨k + 1,by omega,by go_num,by rw[HN.out];unfold mixByte;go_num⟩
   case measure=>simp[intOf];omega
  ·have HF:Hid (mixEnd (mixL seed (l.take k))=mixN seed l):=by
    show _=_
    unfold mixN
    rw[List.take_of_length_le (by omega)]
   generalize mixL seed (l.take k)=p at hp HF
   have h1:bits BinOp.xor IntKind.u32 (p:Int) ((p:Int) / 32768)=((p ^^^ p / 32768:Nat):Int):=u32_xor_nat p (p / 32768) hp (by omega)
   have HE:Hid (mixEnd p=(let d:=(p ^^^ p / 32768) * 2246822507 % 4294967296;d ^^^ d / 8192)):=rfl
   generalize p ^^^ p / 32768=a at h1 HE
   have hm:((a:Int) * 2246822507) % 4294967296=((a * 2246822507 % 4294967296:Nat):Int):=by omega
   have hd:a * 2246822507 % 4294967296 < 4294967296:=Nat.mod_lt _ (by omega)
   have HE':Hid (mixN seed l=(let d:=a * 2246822507 % 4294967296;d ^^^ d / 8192)):=HF.out.symm.trans HE.out
   clear HE HF
   generalize a * 2246822507 % 4294967296=d at hm hd HE'
   have h2:bits BinOp.xor IntKind.u32 (d:Int) ((d:Int) / 8192)=((d ^^^ d / 8192:Nat):Int):=u32_xor_nat d (d / 8192) hd (by omega)
   go_wp2
   go_ret
   exact⟨ret_int (by rw[HE'.out]),rfl⟩
def mayN (n:Nat):Bool:=decide (3≤n)&&decide (n≤251)&&(List.range 16).all fun i=>decide (i < 2)||decide (n < i * i)||decide (n % i≠0)
theorem mayN_false {n k:Nat}(hn:n≤251)(h2:2≤k)(hk:k * k≤n)(h:n % k=0):mayN n=false:=by
 have hk16:k < 16:=by
  rcases Nat.lt_or_ge k 16 with h'|h'
  ·exact h'
  ·have:16 * 16≤k * k:=Nat.mul_le_mul h' h'
   omega
 unfold mayN
 have:((List.range 16).all fun i=>decide (i < 2)||decide (n < i * i)||decide (n % i≠0))=false:=by
  rw[Bool.eq_false_iff]
  intro hall
  have:=List.all_eq_true.1 hall k (List.mem_range.2 hk16)
  simp[h] at this
  omega
 rw[this]
 simp
theorem mayN_true {n k:Nat}(h3:3≤n)(hn:n≤251)(hk:n < k * k)(h:∀j,2≤j→j < k→n % j≠0):mayN n=true:=by
 unfold mayN
 simp only[Bool.and_eq_true,decide_eq_true_eq,List.all_eq_true,List.mem_range,Bool.or_eq_true]
 refine⟨⟨h3,hn⟩,fun i _=>?_⟩
 by_cases h2:i < 2
 ·exact .inl (.inl h2)
 ·by_cases hik:i < k
  ·exact .inr (h i (by omega) hik)
  ·have:k * k≤i * i:=Nat.mul_le_mul (by omega) (by omega)
   exact .inl (.inr (by omega))
theorem may_any (n:Nat)(hn:n≤1000000)(w:World):
  Calls Pg 83 #[X Y n] w fun e w'=>e=rT (bL (mayN n))∧w=w':=by
 by_cases h3:n < 3
 ·have hm:Hid (mayN n=false):=by show _=_;unfold mayN;simp;omega
  go_enter func83,ntmps83
  go_wp2
  go_ret
  exact⟨by rw[hm.out];rfl,rfl⟩
 by_cases h251:251 < n
 ·have hm:Hid (mayN n=false):=by show _=_;unfold mayN;simp;omega
  go_enter func83,ntmps83
  go_wp2
  go_ret
  exact⟨by rw[hm.out];rfl,rfl⟩
 go_enter func83,ntmps83
 go_wp2
 go_loop [3] (fun i=>∃k:Nat,2≤k∧k≤16∧i=X Y k∧Hid (∀j,2≤j→j < k→n % j≠0)) (fun i=>16 - (intOf i).toNat)
 case atStart=>exact⟨2,by omega,by omega,rfl,fun j h1 h2=>by omega⟩
 case round=>
  obtain⟨k,hk2,hk16,rfl,hall⟩:=hrel
  have hsq:k * k≤256:=Nat.mul_le_mul hk16 hk16
  have hTF:Hid (n < k * k→mayN n=true):=fun h=>mayN_true (by omega) (by omega) h hall.out
  have hFF:Hid (k * k≤n→n % k=0→mayN n=false):=fun h h'=>mayN_false (by omega) hk2 h h'
  have hk15:Hid (k * k≤n→k < 16):=fun h=>by
   rcases Nat.lt_or_ge k 16 with h'|h'
   ·exact h'
   ·have:16 * 16≤k * k:=Nat.mul_le_mul h' h'
    omega
  have hee:(k:Int) * (k:Int)=((k * k:Nat):Int):=(Int.natCast_mul k k).symm
  generalize k * k=s at *
  by_cases hs:s≤n
  ·have hk:=hk15.out hs
   have hmod:((n:Int) % (k:Int))=((n % k:Nat):Int):=(Int.natCast_emod n k).symm
   by_cases h0:n % k=0
   ·have hm:=jH (hFF.out hs h0)
    rw[h0] at hmod
    clear h0
    go_wp2
    go_ret
    exact⟨by rw[hm.out];rfl,rfl⟩
   ·have hnx:Hid (∀j,2≤j→j < k + 1→n % j≠0):=by
     intro j h1 h2
     by_cases e:j=k
     ·subst e;exact h0
     ·exact hall.out j h1 (by omega)
    have hne:(((n % k:Nat):Int)==0)=false:=by simp;omega
    generalize n % k=r at *
    clear h0
    go_wp2
    go_round
    case rel=>exact⟨k + 1,by omega,by omega,by go_num,hnx⟩
    case measure=>simp[intOf];omega
  ·have hm:=jH (hTF.out (by omega))
   go_wp2
   go_ret
   exact⟨by rw[hm.out];rfl,rfl⟩
def idB (id:Int):List Nat:=be (id % 4294967296).toNat 4
def rowOff (id:Int)(n:Nat):Nat:=mixN 1 (idB id) % n
def rowSkip (id:Int)(n:Nat):Nat:=mixN 2 (idB id) % (n - 1) + 1
theorem idB_all (id:Int):AllB (idB id):=be_all _ _
theorem idB_length (id:Int):(idB id).length=4:=be_length _ _
theorem row_any (id:Int)(n:Nat)(hn3:3≤n)(hn:n≤251)(hm:mayN n=true)(hid:-9223372036854775808≤id∧id≤9223372036854775807)(w:World):
  Calls Pg 285 #[X Y id,X Y n] w fun e w'=>e=rT (tU #[X Y (rowOff id n),X Y (rowSkip id n)])∧Below w.heap.size w w':=by
 have HM:=jH (may_any n (by omega))
 rw[hm] at HM
 clear hm
 obtain⟨I,hI,hIl,HI⟩:∃I:Nat,id % 4294967296=(I:Int)∧I < 4294967296∧Hid (be I 4=idB id):=⟨(id % 4294967296).toNat,by omega,by omega,rfl⟩
 have hab:=idB_all id
 have hlb:=idB_length id
 have hx1:=mixN_lt 1 (idB id)
 have hx2:=mixN_lt 2 (idB id)
 have R1:Hid (((mixN 1 (idB id) % n:Nat):Int)=((rowOff id n:Nat):Int)):=rfl
 have R2:Hid (((mixN 2 (idB id) % (n - 1) + 1:Nat):Int)=((rowSkip id n:Nat):Int)):=rfl
 have HL:=jH hlb
 go_enter func285,ntmps285
 go_wp2_with (go_at_call 83;refine(HM.out _).mono ?_;rintro e w' ⟨rfl,rfl⟩)
 refine(u32_any w.heap.size w.heap.size I [] (w.alloc (cL #[G none 0 0] 251)) hIl (by simp) ⟨nR _,none,0,Blk.new_ rfl,World.ownsRow_nil _ _ _ _⟩ (by simp)).mono ?_
 rintro e w1 ⟨rfl,hw1,hb1⟩
 rw[List.nil_append,HI.out] at hw1
 have hB1:Below w.heap.size w w1:=((bR _ _).alloc (nR _) _).trans hb1
 have hs1:=hB1.size
 go_wp2_with fail
 refine(bytes_any w.heap.size w.heap.size (idB id) w1 hw1 (by omega)).mono ?_
 rintro e w2 ⟨A2,c2,rfl,hown2,hb2⟩
 have hr2:=Reads.of_own hown2
 rw[hlb] at hr2 hown2⊢
 have hw2:=hw1.below hb2
 have hB2:Below w.heap.size w w2:=hB1.trans (hb2.mono hs1)
 have hs2:=hB2.size
 clear hown2 hb2 hb1 hlb
 go_wp2_with fail
 refine(mix_any 1 (by omega) _ _ _ _ _ (idB id) hr2 (by omega) hab).mono ?_
 rintro e w' ⟨rfl,rfl⟩
 generalize mixN 1 (idB id)=x1 at *
 go_wp2_with fail
 refine(bytes_any w.heap.size w.heap.size (idB id) w2 hw2 (by rw[HL.out];omega)).mono ?_
 rintro e w3 ⟨A3,c3,rfl,hown3,hb3⟩
 have hr3:=Reads.of_own hown3
 rw[HL.out] at hr3 hown3⊢
 have hB3:Below w.heap.size w w3:=hB2.trans (hb3.mono hs2)
 have hs3:=hB3.size
 clear hown3 hb3
 go_wp2_with fail
 refine(mix_any 2 (by omega) _ _ _ _ _ (idB id) hr3 (by omega) hab).mono ?_
 rintro e w' ⟨rfl,rfl⟩
 generalize mixN 2 (idB id)=x2 at *
 have hv1:((x1:Int) % (n:Int))=((x1 % n:Nat):Int):=(Int.natCast_emod x1 n).symm
 have hv2:((x2:Int) % ((n:Int) - 1))=((x2 % (n - 1):Nat):Int):=by
  rw[show ((n:Int) - 1)=((n - 1:Nat):Int) from by omega]
  exact(Int.natCast_emod x2 (n - 1)).symm
 have hl1:x1 % n < n:=Nat.mod_lt _ (by omega)
 have hl2:x2 % (n - 1) < n - 1:=Nat.mod_lt _ (by omega)
 have R1':=R1.out
 have R2':=R2.out
 rw[Int.natCast_add] at R2'
 generalize x1 % n=y1 at *
 generalize x2 % (n - 1)=y2 at *
 have Q1:=jH R1'
 have Q2:=jH R2'
 clear R1' R2' R1 R2
 go_wp2_with fail
 go_ret2
 exact⟨by rw[←Q1.out,←Q2.out];simp,hB3⟩
structure Be where
 id:Int
 addr:Nat
 weight:Int
def Be.cells (b:Be):List Value:=[X Y b.id,X Z b.addr,X Y b.weight]
def bks (l:List Be):List Value:=l.flatMap Be.cells
theorem bks_length (l:List Be):(bks l).length=l.length * 3:=by
 induction l with
 |nil=>rfl
 |cons b r ih=>simp[bks,Be.cells] at *;omega
theorem bks_get:∀(l:List Be) (j:Nat) (h:j < l.length),(bks l)[j * 3]? =some (X Y l[j].id)∧(bks l)[j * 3 + 1]? =some (X Z (l[j].addr))∧(bks l)[j * 3 + 2]? =some (X Y l[j].weight)
 |[],_,h=>by simp at h
 |b::r,0,_=>⟨rfl,rfl,rfl⟩
 |b::r,j + 1,h=>by
  have ih:=bks_get r j (by simpa using h)
  have e:∀k,(bks (b::r))[(j + 1) * 3 + k]? =(bks r)[j * 3 + k]?:=by
   intro k
   rw[show (j + 1) * 3 + k=j * 3 + k + 1 + 1 + 1 from by omega]
   rfl
  have e0:=e 0
  simp only[Nat.add_zero] at e0
  rw[e0,e 1,e 2]
  exact ih
def BesOk (l:List Be):Prop:=∀b∈l,(-9223372036854775808≤b.id∧b.id≤9223372036854775807)∧b.addr < 4294967296∧(-9223372036854775808≤b.weight∧b.weight≤9223372036854775807)
theorem Reads.be {w:World}{B:Nat}{A:Option Addr}{n:Nat}{l:List Be}(h:Reads w B 3 A n (bks l)){j:Nat}(hj:j < n):
  ∃(b off:Nat) (hl:j < l.length),A=some ⟨b,off,none⟩∧w.cell? ⟨b,off + j * 3,none⟩=some (X Y l[j].id)∧w.cell? ⟨b,off + j * 3 + 1,none⟩=some (X Z (l[j].addr))∧w.cell? ⟨b,off + j * 3 + 2,none⟩=some (X Y l[j].weight):=by
 obtain⟨b,off,ha,_,hc⟩:=h.plain (by omega) (by omega)
 have hl:j < l.length:=by have:=h.1;rw[bks_length] at this;omega
 obtain⟨h0,h1,h2⟩:=bks_get l j hl
 exact⟨b,off,hl,ha,hc _ _ h0,hc _ _ h1,hc _ _ h2⟩
theorem Reads.be_length {w:World}{B:Nat}{A:Option Addr}{n:Nat}{l:List Be}(h:Reads w B 3 A n (bks l)):l.length=n:=by have:=h.1;rw[bks_length] at this;omega
def okAt (l:List Be)(j:Nat):Prop:=∃h:j < l.length,0≤l[j].id∧l[j].id≤65535∧1≤l[j].weight∧l[j].weight≤10∧∀(_:0 < j),(l[j - 1]'(by omega)).id < l[j].id
def MayB (n:Nat)(l:List Be):Prop:=0 < n∧n≤16∧∀j,j < n→okAt l j
def MayRet (n:Nat)(l:List Be)(e:Ending):Prop:=∃b:Bool,e=rT (.bool b)∧(b=true↔MayB n l)
theorem mayRet_no {n:Nat}{l:List Be}(h:¬MayB n l):MayRet n l (rT (bL false)):=⟨false,rfl,by simp[h]⟩
theorem mayRet_yes {n:Nat}{l:List Be}(h:MayB n l):MayRet n l (rT (bL true)):=⟨true,rfl,by simp[h]⟩
theorem maymany (A:Option Addr)(n c B:Nat)(l:List Be)(w:World)(hr:Reads w B 3 A n (bks l))(hB:B≤w.heap.size)(hok:BesOk l)(hn:n≤46912496118442)(hnc:n≤c):
  Calls Pg 284 #[G A n c] w fun e w'=>MayRet n l e∧Below w.heap.size w w':=by
 have hlen:=hr.be_length
 by_cases h0:n=0
 ·subst h0
  go_enter func284,ntmps284
  go_wp2
  go_ret
  exact⟨mayRet_no (fun h=>by have:=h.1;omega),bR _ _⟩
 by_cases h16:16 < n
 ·have hb0:((n:Int)==0)=false:=by simp;omega
  go_enter func284,ntmps284
  go_wp2
  go_ret
  exact⟨mayRet_no (fun h=>by have:=h.2.1;omega),bR _ _⟩
 have hb0:((n:Int)==0)=false:=by simp;omega
 go_enter func284,ntmps284
 go_wp2
 go_loopw [15] (fun i wr=>∃k:Nat,k≤n∧i=X Y k∧Hid (∀j,j < k→okAt l j)∧Below w.heap.size w wr) (fun i _=>n - (intOf i).toNat)
 case atStart=>exact⟨0,by omega,rfl,(fun j h=>by omega),bR _ _⟩
 case round=>
  obtain⟨k,hk,rfl,hall,hbr⟩:=hrel
  by_cases hkn:k < n
  ·obtain⟨b,off,hl,rfl,hc0,hc1,hc2⟩:=(hr.below (hbr.mono hB)).be hkn
   have hp:∃y:Int,0 < k→wr.cell? ⟨b,off + (k - 1) * 3,none⟩=some (X Y y)∧Hid (∃h:k - 1 < l.length,l[k - 1].id=y):=by
    by_cases h:0 < k
    ·obtain⟨b',off',hl',e,hc',_⟩:=(hr.below (hbr.mono hB)).be (j:=k - 1) (by omega)
     cases e
     exact⟨_,fun _=>⟨hc',hl',rfl⟩⟩
    ·exact⟨0,fun h'=>absurd h' h⟩
   obtain⟨y,hy⟩:=hp
   have hdec:Hid (okAt l k↔0≤l[k].id∧l[k].id≤65535∧1≤l[k].weight∧l[k].weight≤10∧(0 < k→y < l[k].id)):=by
    constructor
    ·rintro⟨_,h1,h2,h3,h4,h5⟩
     refine⟨h1,h2,h3,h4,fun h=>?_⟩
     obtain⟨_,e⟩:=(hy h).2.out
     rw[←e];exact h5 h
    ·rintro⟨h1,h2,h3,h4,h5⟩
     refine⟨hl,h1,h2,h3,h4,fun h=>?_⟩
     obtain⟨_,e⟩:=(hy h).2.out
     rw[e];exact h5 h
   have hbad:Hid (¬okAt l k→MayRet n l (rT (bL false))):=fun h=>mayRet_no (fun hm=>h (hm.2.2 k hkn))
   have hgood:Hid (okAt l k→∀j,j < k + 1→okAt l j):=by
    intro h j hj
    by_cases e:j=k
    ·subst e;exact h
    ·exact hall.out j (by omega)
   have hbl:=hok _ (List.getElem_mem hl)
   generalize l[k].id=x at *
   generalize l[k].weight=wt at *
   generalize l[k].addr=ad at *
   obtain⟨hb1,_,hb3⟩:=hbl
   have hsz:=hbr.size
   have hbox:Below w.heap.size w (wr.alloc (cL #[X Y x,X Z ad,X Y wt] 34)):=hbr.alloc hsz _
   have hd0:(wr.alloc (cL #[X Y x,X Z ad,X Y wt] 34)).cell? ⟨wr.heap.size,0,none⟩=some (X Y x):=(Blk.new wr _ _).cell 0
   have hd2:(wr.alloc (cL #[X Y x,X Z ad,X Y wt] 34)).cell? ⟨wr.heap.size,2,none⟩=some (X Y wt):=(Blk.new wr _ _).cell 2
   have hy2:0 < k→(wr.alloc (cL #[X Y x,X Z ad,X Y wt] 34)).cell? ⟨b,off + (k - 1) * 3,none⟩=some (X Y y):=fun h=>by
    have h1:=(hy h).1
    rw[World.cell?_alloc_lt _ _ _ (World.block_lt_of_cell? wr _ h1)]
    exact h1
   have HY:=jH hy2
   clear hy hy2
   go_wp2
   generalize wr.alloc (cL #[X Y x,X Z ad,X Y wt] 34)=w2 at *
   have hcase:(x < 0∧Hid (¬okAt l k))∨(0≤x∧65535 < x∧Hid (¬okAt l k))∨(0≤x∧x≤65535∧wt < 1∧Hid (¬okAt l k))∨(0≤x∧x≤65535∧1≤wt∧10 < wt∧Hid (¬okAt l k))∨
     (0≤x∧x≤65535∧1≤wt∧wt≤10∧0 < k∧x≤y∧Hid (¬okAt l k))∨(0≤x∧x≤65535∧1≤wt∧wt≤10∧0 < k∧y < x∧Hid (okAt l k))∨(0≤x∧x≤65535∧1≤wt∧wt≤10∧k=0∧Hid (okAt l k)):=by
    have hd:=hdec.out
    unfold Hid
    rw[hd]
    omega
   rcases hcase with⟨q1,hno⟩|⟨q1,q2,hno⟩|⟨q1,q2,q3,hno⟩|⟨q1,q2,q3,q4,hno⟩|⟨q1,q2,q3,q4,hk0,q5,hno⟩|⟨q1,q2,q3,q4,hk0,q5,hyes⟩|⟨q1,q2,q3,q4,rfl,hyes⟩
   ·have d1:decide (x < 0)=true:=decide_eq_true (by omega)
    clear q1
    go_quiet (fail)
    go_wp2
    go_ret
    exact⟨hbad.out hno.out,hbox.trans ⟨rfl,rfl,rfl,nR _,fun _ _=>rfl⟩⟩
   ·have d1:decide (x < 0)=false:=decide_eq_false (by omega)
    have d2:decide (65535 < x)=true:=decide_eq_true (by omega)
    clear q1 q2
    go_quiet (fail)
    go_wp2
    go_ret
    exact⟨hbad.out hno.out,hbox.trans ⟨rfl,rfl,rfl,nR _,fun _ _=>rfl⟩⟩
   ·have d1:decide (x < 0)=false:=decide_eq_false (by omega)
    have d2:decide (65535 < x)=false:=decide_eq_false (by omega)
    have d3:decide (wt < 1)=true:=decide_eq_true (by omega)
    clear q1 q2 q3
    go_quiet (fail)
    go_wp2
    go_ret
    exact⟨hbad.out hno.out,hbox.trans ⟨rfl,rfl,rfl,nR _,fun _ _=>rfl⟩⟩
   ·have d1:decide (x < 0)=false:=decide_eq_false (by omega)
    have d2:decide (65535 < x)=false:=decide_eq_false (by omega)
    have d3:decide (wt < 1)=false:=decide_eq_false (by omega)
    have d4:decide (10 < wt)=true:=decide_eq_true (by omega)
    clear q1 q2 q3 q4
    go_quiet (fail)
    go_wp2
    go_ret
    exact⟨hbad.out hno.out,hbox.trans ⟨rfl,rfl,rfl,nR _,fun _ _=>rfl⟩⟩
   ·have d1:decide (x < 0)=false:=decide_eq_false (by omega)
    have d2:decide (65535 < x)=false:=decide_eq_false (by omega)
    have d3:decide (wt < 1)=false:=decide_eq_false (by omega)
    have d4:decide (10 < wt)=false:=decide_eq_false (by omega)
    have d5:decide (x≤y)=true:=decide_eq_true (by omega)
    have d6:decide (0 < (k:Int))=true:=decide_eq_true (by omega)
    have hcy:=HY.out hk0
    obtain⟨j,hj,hjk⟩:∃j:Nat,k - 1=j∧j < n:=⟨k - 1,rfl,by omega⟩
    have e1:IntKind.i64.wrap ((k:Int) - 1)=(j:Int):=by rw[IntWalk.i64_in _ (by omega)];omega
    rw[hj] at hcy
    clear hj
    clear q1 q2 q3 q4 q5
    go_quiet (fail)
    go_wp2
    go_ret
    exact⟨hbad.out hno.out,hbox.trans ⟨rfl,rfl,rfl,nR _,fun _ _=>rfl⟩⟩
   ·have d1:decide (x < 0)=false:=decide_eq_false (by omega)
    have d2:decide (65535 < x)=false:=decide_eq_false (by omega)
    have d3:decide (wt < 1)=false:=decide_eq_false (by omega)
    have d4:decide (10 < wt)=false:=decide_eq_false (by omega)
    have d5:decide (x≤y)=false:=decide_eq_false (by omega)
    have d6:decide (0 < (k:Int))=true:=decide_eq_true (by omega)
    have hcy:=HY.out hk0
    obtain⟨j,hj,hjk⟩:∃j:Nat,k - 1=j∧j < n:=⟨k - 1,rfl,by omega⟩
    have e1:IntKind.i64.wrap ((k:Int) - 1)=(j:Int):=by rw[IntWalk.i64_in _ (by omega)];omega
    rw[hj] at hcy
    clear hj
    clear q1 q2 q3 q4 q5
    go_quiet (fail)
    go_wp2
    go_roundw
    case rel=>exact⟨k + 1,by omega,by go_num,hgood.out hyes.out,hbox.trans ⟨rfl,rfl,rfl,nR _,fun _ _=>rfl⟩⟩
    case measure=>simp[intOf];omega
   ·have d1:decide (x < 0)=false:=decide_eq_false (by omega)
    have d2:decide (65535 < x)=false:=decide_eq_false (by omega)
    have d3:decide (wt < 1)=false:=decide_eq_false (by omega)
    have d4:decide (10 < wt)=false:=decide_eq_false (by omega)
    clear q1 q2 q3 q4
    go_quiet (fail)
    go_wp2
    go_roundw
    case rel=>exact⟨1,by omega,by go_num,hgood.out hyes.out,hbox.trans ⟨rfl,rfl,rfl,nR _,fun _ _=>rfl⟩⟩
    case measure=>simp[intOf];omega
  ·have hfin:Hid (MayRet n l (rT (bL true))):=mayRet_yes ⟨by omega,by omega,fun j hj=>hall.out j (by omega)⟩
   go_wp2
   go_ret
   exact⟨hfin.out,hbr⟩
def bkOf (n:Nat)(b:Be):Bk:={id:=b.id,weight:=b.weight.toNat,off:=rowOff b.id n,skip:=rowSkip b.id n}
theorem may_coprime {n s:Nat}(hm:mayN n=true)(h1:1≤s)(hs:s < n):Nat.gcd n s=1:=by
 have hmm:=hm
 unfold mayN at hm
 simp only[Bool.and_eq_true,decide_eq_true_eq] at hm
 obtain⟨⟨h3,h251⟩,_⟩:=hm
 have hdn:Nat.gcd n s∣n:=Nat.gcd_dvd_left n s
 have hds:Nat.gcd n s∣s:=Nat.gcd_dvd_right n s
 have hpos:0 < Nat.gcd n s:=Nat.gcd_pos_of_pos_left _ (by omega)
 have hle:Nat.gcd n s≤s:=Nat.le_of_dvd (by omega) hds
 generalize Nat.gcd n s=d at *
 rcases Nat.lt_or_ge d 2 with h|h2
 ·omega
 ·exfalso
  obtain⟨e,he⟩:=hdn
  by_cases hdd:d * d≤n
  ·have:=mayN_false h251 h2 hdd (by rw[he];exact Nat.mul_mod_right d e)
   rw[this] at hmm;cases hmm
  ·have hed:e < d:=by
    rcases Nat.lt_or_ge e d with h|h
    ·exact h
    ·have:=Nat.mul_le_mul_left d h;omega
   have he2:2≤e:=by
    rcases e with _|_|e
    ·simp at he;omega
    ·simp at he;omega
    ·omega
   have hee:e * e≤n:=by rw[he];exact Nat.mul_le_mul_right e (by omega)
   have:=mayN_false h251 he2 hee (by rw[he,Nat.mul_comm];exact Nat.mul_mod_right e d)
   rw[this] at hmm;cases hmm
theorem may_bounds {n:Nat}(hm:mayN n=true):3≤n∧n≤251:=by
 unfold mayN at hm
 simp only[Bool.and_eq_true,decide_eq_true_eq] at hm
 exact hm.1
theorem good_of {n:Nat}{l:List Be}(hm:mayN n=true)(h:MayB l.length l):Good (l.map (bkOf n)) n:=by
 obtain⟨h3,h251⟩:=may_bounds hm
 have hok:∀b∈l,0≤b.id∧1≤b.weight:=by
  intro b hb
  obtain⟨j,hj,rfl⟩:=List.getElem_of_mem hb
  obtain⟨_,h1,_,h2,_⟩:=h.2.2 j hj
  exact⟨h1,h2⟩
 refine⟨by omega,?_,?_,?_,?_,?_⟩
 ·intro b hb
  obtain⟨x,hx,rfl⟩:=List.mem_map.1 hb
  exact Nat.mod_lt _ (by omega)
 ·intro b hb
  obtain⟨x,hx,rfl⟩:=List.mem_map.1 hb
  refine may_coprime hm (by show 1≤rowSkip x.id n;unfold rowSkip;omega) ?_
  show rowSkip x.id n < n
  have:mixN 2 (idB x.id) % (n - 1) < n - 1:=Nat.mod_lt _ (by omega)
  unfold rowSkip
  omega
 ·intro b hb
  obtain⟨x,hx,rfl⟩:=List.mem_map.1 hb
  exact(hok x hx).1
 ·intro b hb
  obtain⟨x,hx,rfl⟩:=List.mem_map.1 hb
  have:=(hok x hx).2
  show 0 < x.weight.toNat
  omega
 ·intro e
  have:=h.1
  simp at e
  subst e
  simp at this
open Classical in
noncomputable def tableF (l:List Be)(n:Nat):List Int:=if MayB l.length l then tableB (l.map (bkOf n)) n else List.replicate n (-1)
theorem tableF_yes {l:List Be}{n:Nat}(h:MayB l.length l):tableF l n=tableB (l.map (bkOf n)) n:=by unfold tableF;rw[if_pos h]
theorem tableF_no {l:List Be}{n:Nat}(h:¬MayB l.length l):tableF l n=List.replicate n (-1):=by unfold tableF;rw[if_neg h]
theorem turnsOf_snoc:∀(bs:List Bk) (b:Bk) (k:Nat),turnsOf k (bs++[b])=turnsOf k bs++List.replicate b.weight (k + bs.length)
 |[],b,k=>by simp[turnsOf]
 |x::r,b,k=>by
  simp only[List.cons_append,turnsOf]
  rw[turnsOf_snoc r b (k + 1),List.append_assoc]
  congr 3
  simp
  omega
def turnAt (bs:List Bk)(i:Nat):Nat:=(takes bs)[i % (takes bs).length]?.getD 0
theorem turnAt_lt {bs:List Bk}{n:Nat}(hg:Good bs n)(i:Nat):turnAt bs i < bs.length:=by
 have hl:=takes_pos hg
 have hm:i % (takes bs).length < (takes bs).length:=Nat.mod_lt _ hl
 unfold turnAt
 rw[List.getElem?_eq_getElem hm]
 exact takes_lt (List.getElem_mem hm)
theorem run_succ {bs:List Bk}{n i:Nat}(hg:Good bs n)(hi:i < n):
  ∃v:Nat,(run bs n i).2[v]? =some (-1)∧(run bs n (i + 1)).2=(run bs n i).2.set v ((bs[turnAt bs i]?.map Bk.id).getD (-1)):=by
 have hb:=turnAt_lt hg i
 have ih:=run_inv hg i (by omega)
 obtain⟨_,at_,J,_,_,hw,he⟩:=turn_inv hg ih hi hb
 refine⟨_,hw.free,?_⟩
 rw[run]
 show (turn bs n (run bs n i) (turnAt bs i)).2=_
 rw[he]
 simp[hb]
theorem run_cells {bs:List Bk}{n:Nat}(hg:Good bs n):∀i,i≤n→∀x∈(run bs n i).2,x=-1∨∃b∈bs,x=b.id
 |0,_,x,hx=>by
  simp only[run,List.mem_replicate] at hx
  exact .inl hx.2
 |i + 1,hi,x,hx=>by
  obtain⟨v,hv,he⟩:=run_succ hg (i:=i) (by omega)
  rw[he] at hx
  rcases List.mem_or_eq_of_mem_set hx with hx|rfl
  ·exact run_cells hg i (by omega) x hx
  ·have ht:=turnAt_lt hg i
   rw[List.getElem?_eq_getElem ht]
   exact .inr ⟨_,List.getElem_mem ht,rfl⟩
theorem run_full {bs:List Bk}{n:Nat}(hg:Good bs n):∀x∈(run bs n n).2,∃b∈bs,x=b.id:=by
 intro x hx
 have hf:=(run_inv hg n (nR _)).free
 rw[Nat.sub_self] at hf
 rcases run_cells hg n (nR _) x hx with rfl|h
 ·have:0 < frees (run bs n n).2:=List.countP_pos_iff.2 ⟨-1,hx,by simp⟩
  omega
 ·exact h
theorem tableB_length {bs:List Bk}{n:Nat}(hg:Good bs n):(tableB bs n).length=n:=(run_inv hg n (nR _)).len
theorem tableB_full {bs:List Bk}{n:Nat}(hg:Good bs n):∀x∈tableB bs n,∃b∈bs,x=b.id:=run_full hg
def okB (b:Be):Bool:=decide (0≤b.id∧b.id≤65535∧1≤b.weight∧b.weight≤10)
theorem okB_iff {b:Be}:okB b=true↔0≤b.id∧b.id≤65535∧1≤b.weight∧b.weight≤10:=by unfold okB;rw[decide_eq_true_eq]
def MayBs (n:Nat)(l:List Be):Prop:=n≤16∧∀j,j < n→okAt l j
def MayBsRet (n:Nat)(l:List Be)(e:Ending):Prop:=∃b:Bool,e=rT (.bool b)∧(b=true↔MayBs n l)
theorem mayBsRet_no {n:Nat}{l:List Be}(h:¬MayBs n l):MayBsRet n l (rT (bL false)):=⟨false,rfl,by simp[h]⟩
theorem mayBsRet_yes {n:Nat}{l:List Be}(h:MayBs n l):MayBsRet n l (rT (bL true)):=⟨true,rfl,by simp[h]⟩
def findBe (l:List Be)(id:Int):Be×Bool:=
 match l.find? (fun b=>b.id==id) with
 |some b=>(b,true)
 |none=>(⟨0,0,0⟩,false)
theorem findBe_yes {l:List Be}{id:Int}{k:Nat}(hk:k < l.length)(h:l[k].id=id)(hall:∀j (hj:j < l.length),j < k→l[j].id≠id):findBe l id=(l[k],true):=by
 have:l.find? (fun b=>b.id==id)=some l[k]:=by
  rw[List.find?_eq_some_iff_getElem]
  refine⟨by simp[h],k,hk,rfl,fun j hj=>?_⟩
  simp[hall j (by omega) hj]
 unfold findBe
 rw[this]
theorem findBe_no {l:List Be}{id:Int}(hall:∀j (hj:j < l.length),l[j].id≠id):findBe l id=(⟨0,0,0⟩,false):=by
 have:l.find? (fun b=>b.id==id)=none:=by
  rw[List.find?_eq_none]
  intro b hb
  obtain⟨j,hj,rfl⟩:=List.getElem_of_mem hb
  simp[hall j hj]
 unfold findBe
 rw[this]
end
section
open Go.RowKit Go.Shelf Go.Lib
def idxBe (p:Be→Bool)(l:List Be):Int:=
 match l.findIdx? p with
 |some i=>(i:Int)
 |none=>-1
theorem idxBe_yes {p:Be→Bool}{l:List Be}{k:Nat}(hk:k < l.length)(h:p l[k]=true)(hall:∀j (hj:j < l.length),j < k→p l[j]=false):idxBe p l=(k:Int):=by
 have:l.findIdx? p=some k:=by
  rw[List.findIdx?_eq_some_iff_getElem]
  exact⟨hk,h,fun j hj=>by simp[hall j (by omega) hj]⟩
 unfold idxBe
 rw[this]
theorem idxBe_no {p:Be→Bool}{l:List Be}(hall:∀j (hj:j < l.length),p l[j]=false):idxBe p l=-1:=by
 have:l.findIdx? p=none:=by
  rw[List.findIdx?_eq_none_iff]
  intro b hb
  obtain⟨j,hj,rfl⟩:=List.getElem_of_mem hb
  exact hall j hj
 unfold idxBe
 rw[this]
theorem idx_any (g:Nat)(lb:Array Value)(p:Be→Bool)(eg:∀args w,(callFunc g args).run Pg w=.ok (.enter g args) w)(A:Option Addr)(n c B:Nat)(l:List Be)(w:World)(hr:Reads w B 3 A n (bks l))(hB:B≤w.heap.size)(hn:n≤46912496118442)
  (hp:∀(W:World) (x:Be),Below w.heap.size w W→Calls Pg g (#[aG #[X Y x.id,X Z x.addr,X Y x.weight]]++lb) W fun e w'=>e=rT (bL (p x))∧Below w.heap.size w w'):
  Calls Pg 217 #[G A n c,.func (.func g) #[] lb] w fun e w'=>e=rT (X Y (idxBe p l))∧Below w.heap.size w w':=by
 have hlen:=hr.be_length
 go_enter func217,ntmps217
 go_wp2_with fail
 go_loopw [8] (fun i wr=>∃k:Nat,k≤n∧i=X Y k∧Hid (∀j (hj:j < l.length),j < k→p l[j]=false)∧Below w.heap.size w wr) (fun i _=>n - (intOf i).toNat)
 case atStart=>exact⟨0,by omega,rfl,(fun j _ h=>by omega),bR _ _⟩
 case round=>
  obtain⟨k,hk,rfl,hall,hbr⟩:=hrel
  by_cases hkn:k < n
  ·obtain⟨b,off,hl,rfl,hc0,hc1,hc2⟩:=(hr.below (hbr.mono hB)).be hkn
   have HYES:Hid (p l[k]=true→idxBe p l=(k:Int)):=fun h=>idxBe_yes hl h hall.out
   have HNO:Hid (p l[k]=false→∀j (hj:j < l.length),j < k + 1→p l[j]=false):=by
    intro h j hj hjk
    by_cases e:j=k
    ·subst e;exact h
    ·exact hall.out j hj (by omega)
   have hcall:=hp wr l[k] hbr
   obtain⟨v,hv⟩:∃v,v=p l[k]:=⟨_,rfl⟩
   rw[←hv] at HYES HNO hcall
   clear hv hp
   generalize l[k].id=x at *
   generalize l[k].weight=wt at *
   generalize l[k].addr=ad at *
   cases v with
   |true=>
    have HR:=jH (HYES.out rfl)
    clear HYES HNO hall
    go_wp2_with (go_at_fn g;refine hcall.mono ?_;rintro e w' ⟨rfl,hb'⟩)
    go_ret
    exact⟨by rw[HR.out];rfl,hb'⟩
   |false=>
    have HN:=jH (HNO.out rfl)
    clear HYES HNO hall
    go_wp2_with (go_at_fn g;refine hcall.mono ?_;rintro e w' ⟨rfl,hb'⟩)
    go_roundw
    case rel=>exact⟨k + 1,by omega,by go_num,HN,hb'⟩
    case measure=>simp[intOf];omega
  ·have hkk:k=n:=by omega
   have HR:Hid (idxBe p l=-1):=idxBe_no (fun j hj=>hall.out j hj (by omega))
   subst hkk
   clear hall hkn hk
   go_wp2_with fail
   go_ret
   exact⟨by rw[HR.out];rfl,hbr⟩
end
section
open Go.RowKit Go.Shelf
theorem idx_find (l:List Be)(id:Int):(idxBe (fun b=>b.id==id) l=-1∧findBe l id=(⟨0,0,0⟩,false))∨∃k,∃h:k < l.length,idxBe (fun b=>b.id==id) l=(k:Int)∧findBe l id=(l[k],true):=by
 by_cases h:∃k,∃hk:k < l.length,l[k].id=id∧∀j (hj:j < l.length),j < k→l[j].id≠id
 ·obtain⟨k,hk,h1,h2⟩:=h
  exact Or.inr ⟨k,hk,idxBe_yes hk (by simp[h1]) (fun j hj hjk=>by simp[h2 j hj hjk]),findBe_yes hk h1 h2⟩
 ·have hall:∀k (hk:k < l.length),l[k].id≠id:=by
   intro k
   induction k using Nat.strongRecOn with
   |_ k ih=>
    intro hk e
    exact h ⟨k,hk,e,fun j hj hjk=>ih j hjk hj⟩
  exact Or.inl ⟨idxBe_no (fun j hj=>by simp[hall j hj]),findBe_no hall⟩
theorem find1_any (q:Nat)(id:Int)(x:Be)(w:World)(hq:w.cell? ⟨q,0,none⟩=some (X Y id)):
  Calls Pg 218 #[aG #[X Y x.id,X Z x.addr,X Y x.weight],PT (some ⟨q,0,none⟩)] w fun e w'=>e=rT (bL (x.id==id))∧Below w.heap.size w w':=by
 have hlt:=World.block_lt_of_cell? w _ hq
 have hq2:(w.alloc (cL #[X Y x.id,X Z x.addr,X Y x.weight] 34)).cell? ⟨q,0,none⟩=some (X Y id):=by
  rw[World.cell?_alloc_lt _ _ _ hlt];exact hq
 obtain⟨xi,xa,xw⟩:=x
 dsimp only at hq2⊢
 go_enter func218,ntmps218
 go_wp2_with fail
 go_ret
 exact⟨rfl,(bR _ _).alloc (nR _) _⟩
theorem gfind_any (A:Option Addr)(n c B:Nat)(l:List Be)(id:Int)(w:World)(hr:Reads w B 3 A n (bks l))(hB:B≤w.heap.size)(hn:n≤46912496118442):
  Calls Pg 114 #[G A n c,X Y id] w fun e w'=>e=rT (tU #[.agg (findBe l id).1.cells.toArray,bL (findBe l id).2])∧Below w.heap.size w w':=by
 have hlen:=hr.be_length
 have eg:∀args w,(callFunc 218 args).run Pg w=.ok (.enter 218 args) w:=enters_of func218 (by kernel_rfl) rfl
 have hk0:=(Blk.new w 3 #[X Y id]).alloc (cL #[X Y 0,X Z 0,X Y 0] 34)
 have hq0:Blk ((w.alloc (cL #[X Y id] 3)).alloc (cL #[X Y 0,X Z 0,X Y 0] 34)) (w.heap.size + 1) 34 #[X Y 0,X Z 0,X Y 0]:=Blk.new_ (by simp)
 have hB0:=((bR w.heap.size w).alloc (nR _) (cL #[X Y id] 3)).alloc (by simp) (cL #[X Y 0,X Z 0,X Y 0] 34)
 have CI:=jH (idx_any 218 #[PT (some ⟨w.heap.size,0,none⟩)] (fun b=>b.id==id) eg A n c B l _ (hr.below (hB0.mono hB)) (nT hB hB0.size) hn
  (fun W x hb=>(find1_any w.heap.size id x W (by
   have h1:=(hk0.below hb hk0.lt).cell 0
   simpa using h1)).mono fun e w' ⟨he,hw⟩=>⟨he,hb.trans (hw.mono hb.size)⟩))
 clear eg
 go_enter func114,ntmps114
 go_wp2_with fail
 refine CI.out.mono ?_
 rintro e w1 ⟨rfl,hb1⟩
 have hB1:=hB0.trans (hb1.mono hB0.size)
 have hq1:=hq0.below hb1 hq0.lt
 obtain⟨q,hqe⟩:∃q,q=w.heap.size:=⟨_,rfl⟩
 rw[←hqe] at hq1⊢
 have HQ:=jH hqe
 have HB1:=jH hB1
 have HQ1:=jH hq1
 obtain⟨f0,f1,f2⟩:=hq1.f3
 obtain⟨d0,d1,d2⟩:=hq1.c3
 rcases idx_find l id with⟨h1,h2⟩|⟨k,hk,h1,h2⟩
 ·rw[h1]
  have HR:=jH h2
  clear h1 h2 hqe hq1 hB1 hb1 hq0 hB0 hk0 CI
  go_wp2_with fail
  obtain⟨w9,hw9⟩:∃w9,w9=((w1.setCell ⟨q + 1,0,none⟩ (X Y 0)).setCell ⟨q + 1,1,none⟩ (X Z 0)).setCell ⟨q + 1,2,none⟩ (X Y 0):=⟨_,rfl⟩
  have hz:Blk w9 (q + 1) 34 #[X Y 0,X Z 0,X Y 0]:=by
   rw[hw9]
   exact((HQ1.out.set_ 0 (X Y 0)).set_ 1 (X Z 0)).set_ 2 (X Y 0)
  have hB9:Below w.heap.size w w9:=by
   rw[hw9]
   have hle:w.heap.size≤q + 1:=by rw[HQ.out];exact nS _
   exact((HB1.out.setCell (p:=⟨q + 1,0,none⟩) hle _).setCell (p:=⟨q + 1,1,none⟩) hle _).setCell (p:=⟨q + 1,2,none⟩) hle _
  rw[←hw9]
  clear hw9 d0 d1 d2 f0 f1 f2
  obtain⟨r0,r1,r2⟩:=hz.c3
  exact bodyPost_ret (v:=tU #[aG #[X Y 0,X Z 0,X Y 0],bL false]) (by simp[results,results114,go_sem,r0,r1,r2]) rfl ⟨by rw[HR.out];rfl,hB9⟩
 ·obtain⟨b,off,hl,rfl,hc0,hc1,hc2⟩:=(hr.below (hB1.mono hB)).be (j:=k) (by omega)
  rw[h1]
  have hkn:(k:Int) < (n:Int):=by omega
  have HR:Hid (findBe l id=(⟨l[k].id,l[k].addr,l[k].weight⟩,true)):=h2
  clear h2
  generalize l[k].id=x at *
  generalize l[k].weight=wt at *
  generalize l[k].addr=ad at *
  clear h1 hqe hq1 hB1 hb1 hq0 hB0 hk0 CI
  go_wp2_with fail
  obtain⟨w9,hw9⟩:∃w9,w9=((w1.setCell ⟨q + 1,0,none⟩ (X Y x)).setCell ⟨q + 1,1,none⟩ (X Z ad)).setCell ⟨q + 1,2,none⟩ (X Y wt):=⟨_,rfl⟩
  have hz:Blk w9 (q + 1) 34 #[X Y x,X Z ad,X Y wt]:=by
   rw[hw9]
   exact((HQ1.out.set_ 0 (X Y x)).set_ 1 (X Z ad)).set_ 2 (X Y wt)
  have hB9:Below w.heap.size w w9:=by
   rw[hw9]
   have hle:w.heap.size≤q + 1:=by rw[HQ.out];exact nS _
   exact((HB1.out.setCell (p:=⟨q + 1,0,none⟩) hle _).setCell (p:=⟨q + 1,1,none⟩) hle _).setCell (p:=⟨q + 1,2,none⟩) hle _
  rw[←hw9]
  clear hw9 d0 d1 d2 f0 f1 f2
  obtain⟨r0,r1,r2⟩:=hz.c3
  exact bodyPost_ret (v:=tU #[aG #[X Y x,X Z ad,X Y wt],bL true]) (by simp[results,results114,go_sem,r0,r1,r2]) rfl ⟨by rw[HR.out];rfl,hB9⟩
end
section
open Go.RowKit
theorem infoBe:(Pg.info? 34).map (fun i=>(i.zero,i.size,i.bytes))=some (some (aG #[X Y 0,X Z 0,X Y 0]),3,24):=by kernel_rfl
theorem bks_one (l:List Be):∀u∈bks l,u.oneCell'=true:=by
 intro u hu
 unfold bks at hu
 rw[List.mem_flatMap] at hu
 obtain⟨b,_,hb⟩:=hu
 simp[Be.cells] at hb
 rcases hb with rfl|rfl|rfl<;>rfl
theorem clonebe_any (A:Option Addr)(n c B:Nat)(l:List Be)(w:World)(hr:Reads w B 3 A n (bks l))(hB:B≤w.heap.size)(hn:n * 24≤140737488355328)(hnil:A=none→c=0):
  Calls Pg 21 #[G A n c] w fun e w'=>∃A' c',e=rT (G A' n c')∧w'.ownsRow w.heap.size 34 3 (G A' n c') n (bks l)∧Below w.heap.size w w':=by
 rcases A with _|ad
 ·obtain rfl:=hnil rfl
  have h0:n=0:=by
   rcases Nat.eq_zero_or_pos n with h|h
   ·exact h
   ·obtain⟨_,h',_⟩:=hr.2 h
    cases h'
  subst h0
  have hl:l=[]:=List.eq_nil_of_length_eq_zero hr.be_length
  subst hl
  go_enter func21,ntmps21
  have heq:=fun w:World=>Lib.run_eql_slice_nil (P:=Pg) w 35 34 none 0 0 0 0 underlying35
  go_wp2_with fail
  go_ret
  exact⟨none,0,rfl,World.ownsRow_nil _ _ _ _,bR _ _⟩
 ·obtain⟨i0,hi0,hz0,hz1,hz2⟩:=info_parts infoBe
  go_enter func21,ntmps21
  have heq:=fun w:World=>Lib.run_eql_slice_nil (P:=Pg) w 35 34 (some ad) n c 0 0 underlying35
  go_wp2_with (at_builtin;refine stop_ ?_)
  refine on_ ?_
  refine wpList_append_want _ rfl (.tmp 5) (.tmp 6) _ rfl w.heap.size 34 i0 _ 3 24 underlying35 hi0 hz0 hz1 hz2 rfl (by omega) (G (some ⟨w.heap.size,0,none⟩) 0 0) 0 [] rfl
   ?hown B (some ad) n c (bks l) rfl (hr.alloc hB _) (bks_one l) (by unfold maxLen;omega) (by omega) (by simp) ?_
  case hown=>exact⟨by simp,.inr ⟨w.heap.size,_,#[],rfl,nR _,Blk.new_ rfl,nR _,by decide,by simp,by simp⟩⟩
  intro v' w1 hown1 hgr _
  obtain⟨A1,c1,rfl⟩:=own_slice hown1
  rw[List.nil_append,Nat.zero_add] at hown1
  have hb0:=(bR w.heap.size w).alloc (nR _) (cL #[] 34)
  have hbw1:=hb0.grown hgr (by simp) (fun k hk=>by cases hk;exact nR _)
  rw[Nat.zero_add]
  go_wp2_with fail
  go_ret
  exact⟨A1,c1,rfl,hown1,hbw1⟩
theorem bks_single (b:Be):bks [b]=[X Y b.id,X Z b.addr,X Y b.weight]:=by unfold bks Be.cells;simp
def keepBe (p:Be→Bool)(l:List Be):List Be:=l.filter (fun b=>!p b)
theorem keep_take {p:Be→Bool}{l:List Be}{k:Nat}(hk:k < l.length):keepBe p (l.take (k + 1))=if p l[k]=true then keepBe p (l.take k) else keepBe p (l.take k)++[l[k]]:=by
 unfold keepBe
 rw[List.take_succ_eq_append_getElem hk,List.filter_append]
 by_cases h:p l[k]=true
 ·rw[if_pos h];simp[h]
 ·rw[if_neg h];simp[h]
theorem keep_none {p:Be→Bool}{l:List Be}(h:idxBe p l=-1):keepBe p l=l:=by
 unfold keepBe
 rw[List.filter_eq_self]
 intro b hb
 cases hp:p b with
 |false=>rfl
 |true=>
  exfalso
  unfold idxBe at h
  cases hf:l.findIdx? p with
  |some i=>rw[hf] at h;simp at h
  |none=>
   rw[List.findIdx?_eq_none_iff] at hf
   rw[hf b hb] at hp
   cases hp
theorem keep_first {p:Be→Bool}{l:List Be}{k:Nat}(h:idxBe p l=(k:Int)):∃hk:k < l.length,p l[k]=true∧keepBe p (l.take k)=l.take k:=by
 unfold idxBe at h
 cases hf:l.findIdx? p with
 |none=>rw[hf] at h;simp at h
 |some i=>
  rw[hf] at h
  have:i=k:=by simp at h;omega
  subst this
  rw[List.findIdx?_eq_some_iff_getElem] at hf
  obtain⟨hi,hp,hall⟩:=hf
  refine⟨hi,hp,?_⟩
  unfold keepBe
  rw[List.filter_eq_self]
  intro b hb
  obtain⟨j,hj,rfl⟩:=List.getElem_of_mem hb
  rw[List.length_take] at hj
  have:=hall j (by omega)
  rw[List.getElem_take]
  simpa using this
def zeroBe:Value:=aG #[X Y 0,X Z 0,X Y 0]
theorem zeros_length (n:Nat):(Builtin.zeroCells zeroBe.cells n).toList.length=n * 3:=by
 simp[Builtin.zeroCells,zeroBe,Value.cells]
theorem zeros_one (n:Nat):∀v∈(Builtin.zeroCells zeroBe.cells n).toList,v.oneCell'=true:=by
 intro v hv
 simp[Builtin.zeroCells,zeroBe,Value.cells] at hv
 obtain⟨i,hi,rfl⟩:=hv
 have h3:i % 3=0∨i % 3=1∨i % 3=2:=by omega
 rcases h3 with h|h|h<;>rw[h]<;>rfl
theorem run_clear_be {P:Program}(w:World)(t e ty:TypeId)(ht:P.underlying t=some (.slice e))(hv:∀w,(zeroValue e).run P w=.ok zeroBe w)(b o n c:Nat)(hn:0 < n)
  (hc:∀j,j < n * 3→(w.cell? ⟨b,o + j,none⟩).isSome=true)(hf:∀j,j < n * 3→w.frozen? ⟨b,o + j,none⟩=false):
  (Builtin.clear_ #[t] ty #[G (some ⟨b,o,none⟩) n c]).run P w=.ok (tU #[]) (w.setCells b o (Builtin.zeroCells zeroBe.cells n).toList):=by
 have hst:=run_storeCells_cells (P:=P) b o (Builtin.zeroCells zeroBe.cells n).toList 0 w (by rw[zeros_length];simpa using hc) (by rw[zeros_length];simpa using hf) (zeros_one n)
 simp only[Nat.add_zero] at hst
 obtain⟨m,rfl⟩:∃m,n=m + 1:=⟨n - 1,by omega⟩
 simp[Builtin.clear_,run_underlying ht,hv,hst]
end
section
open Go.RowKit Go.Shelf Go.Lib
structure DelInv (p:Be→Bool)(l l':List Be)(k m:Nat):Prop where
 lt:m < k
 len:m=(keepBe p (l.take k)).length
 all:l'.length=l.length
 head:l'.take m=keepBe p (l.take k)
 tail:l'.drop k=l.drop k
theorem DelInv.start {p:Be→Bool}{l:List Be}{k:Nat}(h:idxBe p l=(k:Int)):k < l.length∧DelInv p l l (k + 1) k:=by
 obtain⟨hk,hp,ht⟩:=keep_first h
 have e:keepBe p (l.take (k + 1))=l.take k:=by rw[keep_take hk,if_pos hp,ht]
 exact⟨hk,by omega,by rw[e,List.length_take];omega,rfl,e.symm,rfl⟩
theorem DelInv.at_ {p:Be→Bool}{l l':List Be}{k m:Nat}(h:DelInv p l l' k m)(hk:k < l.length)(hk':k < l'.length):l'[k]=l[k]:=by
 have h1:(l'.drop k)[0]? =(l.drop k)[0]?:=by rw[h.tail]
 rw[List.getElem?_drop,List.getElem?_drop,Nat.add_zero,List.getElem?_eq_getElem hk',List.getElem?_eq_getElem hk] at h1
 injection h1
theorem drop_next {l l':List Be}{k:Nat}(h:l'.drop k=l.drop k):l'.drop (k + 1)=l.drop (k + 1):=by
 rw[←List.drop_drop,←List.drop_drop,h]
theorem DelInv.out {p:Be→Bool}{l l':List Be}{k m:Nat}(h:DelInv p l l' k m)(hk:k < l.length)(hp:p l[k]=true):DelInv p l l' (k + 1) m:=by
 have e:keepBe p (l.take (k + 1))=keepBe p (l.take k):=by rw[keep_take hk,if_pos hp]
 exact⟨by have:=h.lt;omega,by rw[e];exact h.len,h.all,by rw[e];exact h.head,drop_next h.tail⟩
theorem DelInv.keep {p:Be→Bool}{l l':List Be}{k m:Nat}(h:DelInv p l l' k m)(hk:k < l.length)(hp:p l[k]=false):DelInv p l (l'.set m l[k]) (k + 1) (m + 1):=by
 have e:keepBe p (l.take (k + 1))=keepBe p (l.take k)++[l[k]]:=by rw[keep_take hk,if_neg (by simp[hp])]
 have hm:m < l'.length:=by have:=h.lt;have:=h.all;omega
 refine⟨by have:=h.lt;omega,by rw[e,List.length_append,←h.len];rfl,by rw[List.length_set];exact h.all,?_,?_⟩
 ·rw[e,←h.head,List.take_succ_eq_append_getElem (by rw[List.length_set];exact hm),List.getElem_set_self,List.take_set_of_le (nR _)]
 ·rw[List.drop_set_of_lt (by have:=h.lt;omega)]
  exact drop_next h.tail
theorem bks_cons (a:Be)(r:List Be):bks (a::r)=X Y a.id::X Z a.addr::X Y a.weight::bks r:=rfl
theorem bks_set:∀(l:List Be) (m:Nat) (b:Be),(((bks l).set (m * 3) (X Y b.id)).set (m * 3 + 1) (X Z b.addr)).set (m * 3 + 2) (X Y b.weight)=bks (l.set m b)
 |[],m,b=>by simp[bks]
 |a::r,0,b=>rfl
 |a::r,m + 1,b=>by
  have ih:=bks_set r m b
  rw[show (m + 1) * 3=m * 3 + 1 + 1 + 1 from by omega]
  simp only[bks_cons,List.set_cons_succ]
  rw[←ih]
theorem bks_take (l:List Be)(m:Nat):(bks l).take (m * 3)=bks (l.take m):=by
 induction l generalizing m with
 |nil=>simp[bks]
 |cons a r ih=>
  cases m with
  |zero=>simp[bks]
  |succ m=>
   rw[show (m + 1) * 3=m * 3 + 1 + 1 + 1 from by omega]
   simp only[bks_cons,List.take_succ_cons]
   rw[ih m]
theorem own_be3 {w:World}{base n c g:Nat}{e:TypeId}{l:List Be}(h:w.ownsRow base e 3 (G (some ⟨g,0,none⟩) n c) n (bks l)){j:Nat}(hj:j < n):
  ∃b:Be,(w.cell? ⟨g,j * 3,none⟩=some (X Y b.id)∧w.cell? ⟨g,j * 3 + 1,none⟩=some (X Z b.addr)∧w.cell? ⟨g,j * 3 + 2,none⟩=some (X Y b.weight))∧
   w.frozen? ⟨g,j * 3,none⟩=false∧w.frozen? ⟨g,j * 3 + 1,none⟩=false∧w.frozen? ⟨g,j * 3 + 2,none⟩=false:=by
 obtain⟨b0,off0,hl2,he0,hc0,hc1,hc2⟩:=(Reads.of_own h).be hj
 cases he0
 simp only[Nat.zero_add] at hc0 hc1 hc2
 exact⟨l[j],⟨hc0,hc1,hc2⟩,h.frozenAt _,h.frozenAt _,h.frozenAt _⟩
theorem own_set3 {w:World}{base n c g:Nat}{e:TypeId}{l:List Be}(h:w.ownsRow base e 3 (G (some ⟨g,0,none⟩) n c) n (bks l))(j:Nat)(b:Be):
  (((w.setCell ⟨g,j * 3,none⟩ (X Y b.id)).setCell ⟨g,j * 3 + 1,none⟩ (X Z b.addr)).setCell ⟨g,j * 3 + 2,none⟩ (X Y b.weight)).ownsRow base e 3 (G (some ⟨g,0,none⟩) n c) n (bks (l.set j b)):=by
 have h3:=((((h.stored (j * 3) (X Y b.id)).1).stored (j * 3 + 1) (X Z b.addr)).1.stored (j * 3 + 2) (X Y b.weight)).1
 rwa [bks_set] at h3
theorem own_capp {w:World}{base size n c:Nat}{A:Option Addr}{e:TypeId}{xs:List Value}(h:w.ownsRow base e size (G A n c) n xs):n≤c∧c≤maxLen:=by
 rcases h.2 with⟨h',_⟩|⟨g',cap',cur,h',hb,hg,hnc,hcm,hcs,htake⟩
 ·injection h' with h1 h2 h3
  subst h2 h3
  exact⟨nR _,by decide⟩
 ·injection h' with h1 h2 h3
  subst h3
  exact⟨hnc,hcm⟩
theorem below_cells {B:Nat}{a:World}(b:Nat)(hb:B≤b):∀(vs:List Value) (o:Nat) {w:World},Below B a w→Below B a (w.setCells b o vs)
 |[],_,_,h=>h
 |v::r,o,_,h=>below_cells b hb r (o + 1) (h.setCell (p:=⟨b,o,none⟩) hb v)
theorem cell_in {w:World}{base n c g:Nat}{e:TypeId}{l:List Be}(h:w.ownsRow base e 3 (G (some ⟨g,0,none⟩) n c) n (bks l)){j:Nat}(hj:j < n * 3):(w.cell? ⟨g,j,none⟩).isSome=true:=by
 rw[h.cellAt j hj,List.getElem?_eq_getElem (by rw[h.1];exact hj)]
 rfl
theorem cut_reads {w:World}{base n c g m:Nat}{e:TypeId}{l:List Be}(zs:List Value)(h:w.ownsRow base e 3 (G (some ⟨g,0,none⟩) n c) n (bks l))(hm:m≤n):
  Reads (w.setCells g (m * 3) zs) w.heap.size 3 (some ⟨g,0,none⟩) m (bks (l.take m)):=by
 have hl:l.length=n:=(Reads.of_own h).be_length
 refine⟨by rw[bks_length,List.length_take];omega,fun h0=>⟨_,rfl,(h.lt g rfl).2,fun j u hu=>?_⟩⟩
 have hj:j < m * 3:=by
  have:=(List.getElem?_eq_some_iff.1 hu).1
  rw[bks_length,List.length_take] at this
  omega
 have e0:(⟨g,0,none⟩:Addr).add j=⟨g,j,none⟩:=by
  unfold Addr.add
  split
  ·subst_vars;rfl
  ·simp
 rw[e0,World.cell?_setCells_out g zs (m * 3) w ⟨g,j,none⟩ (fun _ _=>.inl hj),h.cellAt j (by omega),←hu,←bks_take,List.getElem?_take,if_pos hj]
theorem del_any (g:Nat)(lb:Array Value)(p:Be→Bool)(eg:∀args w,(callFunc g args).run Pg w=.ok (.enter g args) w)(A:Option Addr)(n c base:Nat)(l:List Be)(w:World)
  (hown:w.ownsRow base 34 3 (G A n c) n (bks l))(hbase:base≤w.heap.size)(hn:n≤1000000)
  (hp:∀(W:World) (x:Be),Below base w W→Calls Pg g (#[aG #[X Y x.id,X Z x.addr,X Y x.weight]]++lb) W fun e w'=>e=rT (bL (p x))∧Below W.heap.size W w'):
  Calls Pg 219 #[G A n c,.func (.func g) #[] lb] w fun e w'=>∃A' m c',e=rT (G A' m c')∧m=(keepBe p l).length∧m≤c'∧Reads w' w'.heap.size 3 A' m (bks (keepBe p l))∧Below base w w':=by
 have hr:=Reads.of_own hown
 have hlen:=hr.be_length
 have CI:=jH (idx_any g lb p eg A n c _ l w hr (nR _) (by omega) (fun W x hb=>(hp W x (hb.mono hbase)).mono fun e w' ⟨h1,h2⟩=>⟨h1,hb.trans (h2.mono hb.size)⟩))
 obtain⟨v,hv⟩:∃v,v=idxBe p l:=⟨_,rfl⟩
 rw[←hv] at CI
 by_cases h1:v=-1
 ·subst h1
  have HK:=jH (keep_none hv.symm)
  have HO:=jH hr
  have HC:=jH (own_capp hown)
  clear hv hr hp hown
  go_enter func219,ntmps219
  go_wp2_with (refine CI.out.mono ?_;rintro e w' ⟨rfl,hb'⟩)
  go_ret
  exact⟨A,n,c,rfl,by rw[HK.out];exact hlen.symm,HC.out.1,by rw[HK.out];exact(HO.out.below hb').more hb'.size,hb'.mono hbase⟩
 ·obtain⟨k0,hk0⟩:∃k:Nat,v=(k:Int):=by
   rw[hv] at h1⊢
   unfold idxBe at h1⊢
   cases hf:l.findIdx? p with
   |some i=>exact⟨i,rfl⟩
   |none=>rw[hf] at h1;exact absurd rfl h1
  subst hk0
  obtain⟨hkl,hstart⟩:=DelInv.start hv.symm
  obtain⟨gb,cap,he,hgb,hglt⟩:=hown.form (by omega)
  injection he with he1 he2 he3
  subst he1 he3
  have hd1:((k0:Int)==-1)=false:=by simp
  have HS:=jH hstart
  clear hv h1 hr hstart
  go_enter func219,ntmps219
  go_wp2_with (refine CI.out.mono ?_;rintro e w' ⟨rfl,hb'⟩)
  have hown1:=own_below hown hb'
  have hbb:=hb'.mono hbase
  clear hb' hown CI
  go_loopw [5,6] (fun d i wr=>∃(k m:Nat) (l':List Be),k≤n∧m < k∧d=X Y m∧i=X Y k∧Hid (DelInv p l l' k m)∧wr.ownsRow base 34 3 (G (some ⟨gb,0,none⟩) n c) n (bks l')∧Below base w wr) (fun _ i _=>n - (intOf i).toNat)
  case atStart=>exact⟨k0 + 1,k0,l,by omega,by omega,rfl,rfl,HS,hown1,hbb⟩
  case round=>
   obtain⟨k,m,l',hk,hmk,rfl,rfl,hinv,ho,hb⟩:=hrel
   clear hown1 hbb HS hd1 hkl
   by_cases hkn:k < n
   ·have hl:k < l.length:=by omega
    have hl':k < l'.length:=by have:=hinv.out.all;omega
    obtain⟨b0,off0,hl2,he0,hc0,hc1,hc2⟩:=(Reads.of_own ho).be hkn
    cases he0
    rw[hinv.out.at_ hl hl'] at hc0 hc1 hc2
    simp only[Nat.zero_add] at hc0 hc1 hc2
    have HYES:=jH (hinv.out.out hl)
    have HNO:=jH (hinv.out.keep hl)
    have hb2:=hb.alloc (by have:=hb.size;omega) (cL #[X Y l[k].id,X Z (l[k].addr),X Y l[k].weight] 34)
    have hcall:=hp _ l[k] hb2
    have hx2:=Blk.new wr 34 #[X Y l[k].id,X Z (l[k].addr),X Y l[k].weight]
    have ho2:=ho.alloc (cL #[X Y l[k].id,X Z (l[k].addr),X Y l[k].weight] 34)
    obtain⟨v,hv⟩:∃v,v=p l[k]:=⟨_,rfl⟩
    rw[←hv] at HYES HNO hcall
    clear hv
    obtain⟨⟨x,ad,wt⟩,hbe⟩:∃b:Be,b=l[k]:=⟨_,rfl⟩
    rw[←hbe] at HNO hc0 hc1 hc2 hb2 hcall hx2 ho2
    dsimp only at HNO hc0 hc1 hc2 hb2 hcall hx2 ho2
    clear hbe ho hp
    have HX:=jH (aI hb2 (aI hx2 ho2))
    clear hb2 hx2 ho2
    go_upto_region 8 with fail
    obtain⟨q,hq⟩:∃q,q=wr.heap.size:=⟨_,rfl⟩
    rw[←hq] at HX⊢
    clear hc0 hc1 hc2
    generalize wr.alloc (cL #[X Y x,X Z ad,X Y wt] 34)=w2 at *
    clear hq hb
    obtain⟨g0,g1,g2⟩:=HX.out.2.1.c3
    have hbase2:base≤w2.heap.size:=nT hbase HX.out.1.size
    cases v with
    |true=>
     go_wp2_with (go_at_fn g;refine hcall.mono ?_;rintro e w3 ⟨rfl,hb3⟩)
     go_roundw
     case rel=>exact⟨k + 1,m,l',by omega,by omega,rfl,by go_num,HYES.out trivial,own_below HX.out.2.2 hb3,HX.out.1.trans (hb3.mono hbase2)⟩
     case measure=>simp[intOf];omega
    |false=>
     have hmn:m < n:=by omega
     go_wp2_with (go_at_fn g;refine hcall.mono ?_;rintro e w3 ⟨rfl,hb3⟩;have ho3:=own_below HX.out.2.2 hb3;have hx3:=HX.out.2.1.below hb3 HX.out.2.1.lt;have d0:=hx3.cell 0;have d1:=hx3.cell 1;have d2:=hx3.cell 2;simp only[ga,gz,gN] at d0 d1 d2;obtain⟨⟨bi,ba,bw⟩,⟨s0,s1,s2⟩,f0,f1,f2⟩:=own_be3 ho3 hmn;dsimp only at s0 s1 s2;have HO3:=jH ho3;clear g0 g1 g2 ho3 hx3)
     go_roundw
     case rel=>
      exact⟨k + 1,m + 1,l'.set m ⟨x,ad,wt⟩,by omega,by omega,by go_num,by go_num,HNO.out trivial,own_set3 HO3.out m ⟨x,ad,wt⟩,
       (((HX.out.1.trans (hb3.mono hbase2)).setCell (p:=⟨gb,m * 3,none⟩) hgb _).setCell (p:=⟨gb,m * 3 + 1,none⟩) hgb _).setCell (p:=⟨gb,m * 3 + 2,none⟩) hgb _⟩
     case measure=>simp[intOf];omega
   ·have hkk:k=n:=by omega
    subst hkk
    clear hp
    have hmn:m < k:=hmk
    have hcap:=own_capp ho
    have hzv:∀w,(zeroValue 34).run Pg w=.ok zeroBe w:=fun _=>by kernel_rfl
    have hclr:=run_clear_be wr 35 34 0 underlying35 hzv gb (m * 3) (k - m) (c - m) (by omega) (fun j hj=>cell_in ho (by omega)) (fun j _=>ho.frozenAt _)
    obtain⟨zs,hzs⟩:∃zs,(Builtin.zeroCells zeroBe.cells (k - m)).toList=zs:=⟨_,rfl⟩
    rw[hzs] at hclr
    clear hzs
    go_wp2_with fail
    go_ret
    have hsz:(wr.setCells gb (m * 3) zs).heap.size≥wr.heap.size:=(below_cells gb (Nat.zero_le _) zs (m * 3) (bR 0 wr)).size
    have hkeep:l'.take m=keepBe p l:=by have:=hinv.out.head;rwa [List.take_of_length_le (l:=l) (by omega)] at this
    have hRd:=cut_reads (m:=m) zs ho (by omega)
    rw[hkeep] at hRd
    exact⟨_,m,c,rfl,by have:=hinv.out.len;rwa [List.take_of_length_le (l:=l) (by omega)] at this,by omega,hRd.more hsz,below_cells gb hgb zs _ hb⟩
end
section
open Go.RowKit
theorem weighed_same (x:Int)(w:World):
  Calls Pg 226 #[X Y x] w fun e w'=>e=rT (bL (decide (1≤x∧x≤10)))∧w'=w:=by
 obtain⟨r,hr⟩:∃r,r=decide (1≤x∧x≤10):=⟨_,rfl⟩
 rw[←hr]
 by_cases h1:1≤x
 ·by_cases h2:x≤10
  ·have HR:Hid (r=true):=hr.trans (decide_eq_true ⟨h1,h2⟩)
   clear hr
   go_enter func226,ntmps226
   go_wp2_with fail
   go_ret
   exact⟨by rw[HR.out];rfl,rfl⟩
  ·have HR:Hid (r=false):=hr.trans (decide_eq_false (fun h=>h2 h.2))
   clear hr
   go_enter func226,ntmps226
   go_wp2_with fail
   go_ret
   exact⟨by rw[HR.out];rfl,rfl⟩
 ·have HR:Hid (r=false):=hr.trans (decide_eq_false (fun h=>h1 h.1))
  clear hr
  go_enter func226,ntmps226
  go_wp2_with fail
  go_ret
  exact⟨by rw[HR.out];rfl,rfl⟩
theorem gmay_any (A:Option Addr)(n c B:Nat)(l:List Be)(w:World)(hr:Reads w B 3 A n (bks l))(hB:B≤w.heap.size)(hok:BesOk l)(hn:n≤46912496118442)(hnc:n≤c):
  Calls Pg 119 #[G A n c] w fun e w'=>MayBsRet n l e∧Below w.heap.size w w':=by
 have hlen:=hr.be_length
 by_cases h16:16 < n
 ·go_enter func119,ntmps119
  go_wp2
  go_ret
  exact⟨mayBsRet_no (fun h=>by have:=h.1;omega),bR _ _⟩
 go_enter func119,ntmps119
 go_wp2
 go_loopw [10] (fun i wr=>∃k:Nat,k≤n∧i=X Y k∧Hid (∀j,j < k→okAt l j)∧Below w.heap.size w wr) (fun i _=>n - (intOf i).toNat)
 case atStart=>exact⟨0,by omega,rfl,(fun j h=>by omega),bR _ _⟩
 case round=>
  obtain⟨k,hk,rfl,hall,hbr⟩:=hrel
  by_cases hkn:k < n
  ·obtain⟨b,off,hl,rfl,hc0,hc1,hc2⟩:=(hr.below (hbr.mono hB)).be hkn
   have hp:∃y:Int,0 < k→wr.cell? ⟨b,off + (k - 1) * 3,none⟩=some (X Y y)∧Hid (∃h:k - 1 < l.length,l[k - 1].id=y):=by
    by_cases h:0 < k
    ·obtain⟨b',off',hl',e,hc',_⟩:=(hr.below (hbr.mono hB)).be (j:=k - 1) (by omega)
     cases e
     exact⟨_,fun _=>⟨hc',hl',rfl⟩⟩
    ·exact⟨0,fun h'=>absurd h' h⟩
   obtain⟨y,hy⟩:=hp
   have hdec:Hid (okAt l k↔0≤l[k].id∧l[k].id≤65535∧1≤l[k].weight∧l[k].weight≤10∧(0 < k→y < l[k].id)):=by
    constructor
    ·rintro⟨_,h1,h2,h3,h4,h5⟩
     refine⟨h1,h2,h3,h4,fun h=>?_⟩
     obtain⟨_,e⟩:=(hy h).2.out
     rw[←e];exact h5 h
    ·rintro⟨h1,h2,h3,h4,h5⟩
     refine⟨hl,h1,h2,h3,h4,fun h=>?_⟩
     obtain⟨_,e⟩:=(hy h).2.out
     rw[e];exact h5 h
   have hbad:Hid (¬okAt l k→MayBsRet n l (rT (bL false))):=fun h=>mayBsRet_no (fun hm=>h (hm.2 k hkn))
   have hgood:Hid (okAt l k→∀j,j < k + 1→okAt l j):=by
    intro h j hj
    by_cases e:j=k
    ·subst e;exact h
    ·exact hall.out j (by omega)
   have hbl:=hok _ (List.getElem_mem hl)
   generalize l[k].id=x at *
   generalize l[k].weight=wt at *
   generalize l[k].addr=ad at *
   obtain⟨hb1,_,hb3⟩:=hbl
   have hsz:=hbr.size
   have hbox:Below w.heap.size w (wr.alloc (cL #[X Y x,X Z ad,X Y wt] 34)):=hbr.alloc hsz _
   have hd0:(wr.alloc (cL #[X Y x,X Z ad,X Y wt] 34)).cell? ⟨wr.heap.size,0,none⟩=some (X Y x):=(Blk.new wr _ _).cell 0
   have hd2:(wr.alloc (cL #[X Y x,X Z ad,X Y wt] 34)).cell? ⟨wr.heap.size,2,none⟩=some (X Y wt):=(Blk.new wr _ _).cell 2
   have hy2:0 < k→(wr.alloc (cL #[X Y x,X Z ad,X Y wt] 34)).cell? ⟨b,off + (k - 1) * 3,none⟩=some (X Y y):=fun h=>by
    have h1:=(hy h).1
    rw[World.cell?_alloc_lt _ _ _ (World.block_lt_of_cell? wr _ h1)]
    exact h1
   have HY:=jH hy2
   clear hy hy2
   go_wp2
   generalize wr.alloc (cL #[X Y x,X Z ad,X Y wt] 34)=w2 at *
   have hcase:(x < 0∧Hid (¬okAt l k))∨(0≤x∧65535 < x∧Hid (¬okAt l k))∨(0≤x∧x≤65535∧¬(1≤wt∧wt≤10)∧Hid (¬okAt l k))∨
     (0≤x∧x≤65535∧(1≤wt∧wt≤10)∧0 < k∧x≤y∧Hid (¬okAt l k))∨(0≤x∧x≤65535∧(1≤wt∧wt≤10)∧0 < k∧y < x∧Hid (okAt l k))∨(0≤x∧x≤65535∧(1≤wt∧wt≤10)∧k=0∧Hid (okAt l k)):=by
    have hd:=hdec.out
    unfold Hid
    rw[hd]
    omega
   have CW:=jH (fun w=>weighed_same wt w)
   rcases hcase with⟨q1,hno⟩|⟨q1,q2,hno⟩|⟨q1,q2,q3,hno⟩|⟨q1,q2,q3,hk0,q5,hno⟩|⟨q1,q2,q3,hk0,q5,hyes⟩|⟨q1,q2,q3,rfl,hyes⟩
   ·have d1:decide (x < 0)=true:=decide_eq_true (by omega)
    clear q1
    go_quiet (fail)
    go_wp2
    go_ret
    exact⟨hbad.out hno.out,hbox.trans ⟨rfl,rfl,rfl,nR _,fun _ _=>rfl⟩⟩
   ·have d1:decide (x < 0)=false:=decide_eq_false (by omega)
    have d2:decide (65535 < x)=true:=decide_eq_true (by omega)
    clear q1 q2
    go_quiet (fail)
    go_wp2
    go_ret
    exact⟨hbad.out hno.out,hbox.trans ⟨rfl,rfl,rfl,nR _,fun _ _=>rfl⟩⟩
   ·have d1:decide (x < 0)=false:=decide_eq_false (by omega)
    have d2:decide (65535 < x)=false:=decide_eq_false (by omega)
    have d3:decide (1≤wt∧wt≤10)=false:=decide_eq_false q3
    rw[d3] at CW
    clear d3
    clear q1 q2 q3
    go_quiet (first|(go_at_call 226;exact Calls.quiet_of_same (CW.out _)))
    go_wp2
    go_ret
    exact⟨hbad.out hno.out,hbox.trans ⟨rfl,rfl,rfl,nR _,fun _ _=>rfl⟩⟩
   ·have d1:decide (x < 0)=false:=decide_eq_false (by omega)
    have d2:decide (65535 < x)=false:=decide_eq_false (by omega)
    have d5:decide (x≤y)=true:=decide_eq_true (by omega)
    have d6:decide (0 < (k:Int))=true:=decide_eq_true (by omega)
    have hcy:=HY.out hk0
    obtain⟨j,hj,hjk⟩:∃j:Nat,k - 1=j∧j < n:=⟨k - 1,rfl,by omega⟩
    have e1:IntKind.i64.wrap ((k:Int) - 1)=(j:Int):=by rw[IntWalk.i64_in _ (by omega)];omega
    rw[hj] at hcy
    clear hj
    have d3:decide (1≤wt∧wt≤10)=true:=decide_eq_true q3
    rw[d3] at CW
    clear d3
    clear q1 q2 q3 q5
    go_quiet (first|(go_at_call 226;exact Calls.quiet_of_same (CW.out _)))
    go_wp2
    go_ret
    exact⟨hbad.out hno.out,hbox.trans ⟨rfl,rfl,rfl,nR _,fun _ _=>rfl⟩⟩
   ·have d1:decide (x < 0)=false:=decide_eq_false (by omega)
    have d2:decide (65535 < x)=false:=decide_eq_false (by omega)
    have d5:decide (x≤y)=false:=decide_eq_false (by omega)
    have d6:decide (0 < (k:Int))=true:=decide_eq_true (by omega)
    have hcy:=HY.out hk0
    obtain⟨j,hj,hjk⟩:∃j:Nat,k - 1=j∧j < n:=⟨k - 1,rfl,by omega⟩
    have e1:IntKind.i64.wrap ((k:Int) - 1)=(j:Int):=by rw[IntWalk.i64_in _ (by omega)];omega
    rw[hj] at hcy
    clear hj
    have d3:decide (1≤wt∧wt≤10)=true:=decide_eq_true q3
    rw[d3] at CW
    clear d3
    clear q1 q2 q3 q5
    go_quiet (first|(go_at_call 226;exact Calls.quiet_of_same (CW.out _)))
    go_wp2
    go_roundw
    case rel=>exact⟨k + 1,by omega,by go_num,hgood.out hyes.out,hbox.trans ⟨rfl,rfl,rfl,nR _,fun _ _=>rfl⟩⟩
    case measure=>simp[intOf];omega
   ·have d1:decide (x < 0)=false:=decide_eq_false (by omega)
    have d2:decide (65535 < x)=false:=decide_eq_false (by omega)
    have d3:decide (1≤wt∧wt≤10)=true:=decide_eq_true q3
    rw[d3] at CW
    clear d3
    clear q1 q2 q3
    go_quiet (first|(go_at_call 226;exact Calls.quiet_of_same (CW.out _)))
    go_wp2
    go_roundw
    case rel=>exact⟨1,by omega,by go_num,hgood.out hyes.out,hbox.trans ⟨rfl,rfl,rfl,nR _,fun _ _=>rfl⟩⟩
    case measure=>simp[intOf];omega
  ·have hfin:Hid (MayBsRet n l (rT (bL true))):=mayBsRet_yes ⟨by omega,fun j hj=>hall.out j (by omega)⟩
   go_wp2
   go_ret
   exact⟨hfin.out,hbr⟩
def Kept (w w':World):Prop:=∀g t cs,Blk w g t cs→t≠251→t≠5→Blk w' g t cs
theorem Kept.refl (w:World):Kept w w:=fun _ _ _ h _ _=>h
theorem Kept.trans {a b c:World}(h:Kept a b)(k:Kept b c):Kept a c:=fun g t cs h0 h1 h2=>k g t cs (h g t cs h0 h1 h2) h1 h2
theorem Kept.alloc {a w:World}(h:Kept a w)(o:Obj):Kept a (w.alloc o):=fun g t cs h0 h1 h2=>(h g t cs h0 h1 h2).alloc o
theorem Kept.drew {a w:World}(h:Kept a w):Kept a w.drew:=fun g t cs h0 h1 h2=>(h g t cs h0 h1 h2).drew
theorem Kept.grown {a w w':World}{base n:Nat}{v:Value}{xs:List Value}(h:Kept a w)(ho:w.ownsRow base 5 1 v n xs)(hg:w.grownBy w' v.ownBlock):Kept a w':=
 fun g t cs h0 h1 h2=>(h g t cs h0 h1 h2).grown hg (fun e=>own_blk_ne ho (h g t cs h0 h1 h2) h2.symm e.symm)
theorem Kept.setW {a w:World}{p:Nat}{ds:Array Value}(h:Kept a w)(hp:Blk w p 251 ds)(i:Nat)(u:Value):Kept a (w.setCell ⟨p,i,none⟩ u):=
 fun g t cs h0 h1 h2=>(h g t cs h0 h1 h2).far (Blk.ne_ (h g t cs h0 h1 h2) hp h1) u
theorem put_k (p base:Nat)(n width:Nat)(l:List Nat)(w:World)(hn:n < 18446744073709551616)(hwd:width≤8)(hl:l.length≤1099511627776)(h:WBuf w base p l)(hbase:base≤w.heap.size):
  Calls Pg 261 #[PT (some ⟨p,0,none⟩),X .u64 n,X Y width] w fun e w'=>e=rT (tU #[])∧WBuf w' base p (l++be n width)∧Below base w w'∧Kept w w':=by
 go_enter func261,ntmps261
 go_wp2
 go_loopw [10] (fun i wr=>∃k:Nat,k≤width∧i=X Y k∧WBuf wr base p (l++(be n width).take k)∧Below base w wr∧Kept w wr) (fun i _=>width - (intOf i).toNat)
 case atStart=>exact⟨0,by omega,rfl,by simpa using h,bR _ _,Kept.refl _⟩
 case round=>
  obtain⟨k,hk,rfl,hwb,hbr,hkr⟩:=hrel
  by_cases hkw:k < width
  ·obtain⟨hbp,A,c,hblk,hown⟩:=hwb
   have hcell:=hblk.cell 0
   have hfr:=hblk.frozen 0
   simp only[ga,gz] at hcell
   have hml:(l++(be n width).take k).length≤1099511627784:=by rw[List.length_append,List.length_take,be_length];omega
   have HT:=jH (be_take n width k hkw)
   have HT2:Hid (l++(be n width).take (k + 1)=(l++(be n width).take k)++[n / 256 ^ (width - 1 - k) % 256]):=by
    show _=_
    rw[HT.out,List.append_assoc]
   generalize l++(be n width).take k=m at *
   obtain⟨W,d,hW,hd,hdlt⟩:∃W d:Nat,W + 1=width∧d + k=W∧d≤7:=⟨width - 1,width - 1 - k,by omega,by omega,by omega⟩
   have e1:IntKind.i64.wrap ((width:Int) - 1)=(W:Int):=by rw[IntWalk.i64_in _ (by omega)];omega
   have e2:IntKind.i64.wrap ((W:Int) - (k:Int))=(d:Int):=by rw[IntWalk.i64_in _ (by omega)];omega
   have e3:IntKind.i64.wrap (8 * (d:Int))=((8 * d:Nat):Int):=by rw[IntWalk.i64_in _ (by omega)];omega
   have hq:n / 256 ^ (width - 1 - k)=n / 2 ^ (8 * d):=by
    rw[show width - 1 - k=d from by omega,Nat.pow_mul]
   have hsh:Op.shift BinOp.shr .u64 (n:Int) .i64 ((8 * d:Nat):Int)=pure (X .u64 (n / 2 ^ (8 * d):Nat)):=by
    rw[shift_shr_any _ _ _ _ (by omega)]
    have:min ((8 * d:Nat):Int).toNat IntKind.u64.bits=8 * d:=by rw[Int.toNat_natCast];show min (8 * d) 64=_;omega
    rw[this,Int.natCast_ediv,Int.natCast_pow]
    rfl
   have hql:n / 2 ^ (8 * d) < 18446744073709551616:=Nat.lt_of_le_of_lt (Nat.div_le_self _ _) hn
   rw[hq] at HT2
   generalize n / 2 ^ (8 * d)=q at *
   generalize 8 * d=s8 at *
   clear hq hW hd
   have hwq:IntKind.u8.wrap (q:Int)=((q % 256:Nat):Int):=by rw[IntKind.wrap_u8'];omega
   have hsz:base≤wr.heap.size:=nT hbase hbr.size
   have hplt:=hblk.lt
   go_wp2
   go_region_law (refine step_append_b rfl (.tmp 17) (.tmp 26) _ rfl 5 infoB underlying23 base (G A m.length c) m.length m (by simp[Act.eval,Act.put]) (hown.alloc _) (wr.heap.size + 1) (some ⟨wr.heap.size,0,none⟩) 1 1 [q % 256] (by simp[Act.eval,Act.put]) (reads_new _ _ _ _ 1 _ _ (by rfl) (by rfl) (by rfl) _ (by simp[bv])) (m.length + 1) rfl (by omega) (by simp;omega) ?_;intro A1 c1 w1 hown1 hb1 hg1 hat1;have hblk1:Blk w1 p 251 #[G A m.length c]:=Blk.grown ((hblk.alloc _).drew) hg1 (fun e=>own_blk_ne hown hblk (by decide) e.symm);have hcell1:=hblk1.cell 0;have hfr1:=hblk1.frozen 0;simp only[ga,gz] at hcell1)
   all_goals
    go_wp2
    go_roundw
    case rel=>
     refine⟨k + 1,by omega,by go_num,⟨hbp,A1,c1,?_,?_⟩,?_,?_⟩
     ·rw[HT2.out,List.length_append]
      exact hblk1.set_ 0 _
     ·rw[HT2.out,List.length_append]
      exact own_set_far hown1 hblk1 (by decide) 0 _
     ·exact(hbr.trans (((bR _ _).alloc hsz _).drew.trans hb1)).setCell hbp _
     ·exact(hkr.trans ((((Kept.refl _).alloc _).drew).grown (hown.alloc _) hg1)).setW hblk1 _ _
    case measure=>simp[intOf];omega
  ·have hkk:k=width:=by omega
   have hfin:Hid (WBuf wr base p (l++be n width)):=by
    have:=hwb
    rw[hkk,List.take_of_length_le (by rw[be_length];omega)] at this
    exact this
   clear hwb
   go_wp2
   go_end0
   exact⟨rfl,hfin.out,hbr,hkr⟩
theorem u32_k (p base n:Nat)(l:List Nat)(w:World)(hn:n < 4294967296)(hl:l.length≤1099511627776)(h:WBuf w base p l)(hbase:base≤w.heap.size):
  Calls Pg 263 #[PT (some ⟨p,0,none⟩),X Z n] w fun e w'=>e=rT (tU #[])∧WBuf w' base p (l++be n 4)∧Below base w w'∧Kept w w':=by
 have HC:=jH (put_k p base n 4 l w (by omega) (by omega) hl h hbase)
 go_enter func263,ntmps263
 go_wp2_with fail
 refine HC.out.mono ?_
 rintro e w' ⟨rfl,hwb,hbw,hkw⟩
 go_wp2_with fail
 go_end0
 exact⟨rfl,hwb,hbw,hkw⟩
theorem u8w_k (p base:Nat)(z:Int)(l:List Nat)(w:World)(hl:l.length≤1099511627776)(h:WBuf w base p l)(hbase:base≤w.heap.size):
  Calls Pg 159 #[PT (some ⟨p,0,none⟩),X Y z] w fun e w'=>e=rT (tU #[])∧WBuf w' base p (l++be (u64n z) 1)∧Below base w w'∧Kept w w':=by
 have HC:=jH (put_k p base (u64n z) 1 l w (u64n_lt z) (by omega) hl h hbase)
 have hw:=u64_wrap z
 go_enter func159,ntmps159
 go_wp2_with fail
 refine HC.out.mono ?_
 rintro e w' ⟨rfl,hwb,hbw,hkw⟩
 go_wp2_with fail
 go_end0
 exact⟨rfl,hwb,hbw,hkw⟩
theorem u16w_k (p base:Nat)(z:Int)(l:List Nat)(w:World)(hl:l.length≤1099511627776)(h:WBuf w base p l)(hbase:base≤w.heap.size):
  Calls Pg 157 #[PT (some ⟨p,0,none⟩),X Y z] w fun e w'=>e=rT (tU #[])∧WBuf w' base p (l++be (u64n z) 2)∧Below base w w'∧Kept w w':=by
 have HC:=jH (put_k p base (u64n z) 2 l w (u64n_lt z) (by omega) hl h hbase)
 have hw:=u64_wrap z
 go_enter func157,ntmps157
 go_wp2_with fail
 refine HC.out.mono ?_
 rintro e w' ⟨rfl,hwb,hbw,hkw⟩
 go_wp2_with fail
 go_end0
 exact⟨rfl,hwb,hbw,hkw⟩
end
section
structure Tu where
 src:Nat
 dst:Nat
 proto:Int
 sport:Int
 dport:Int
def Tu.vals (k:Tu):Array Value:=#[X Z k.src,X Z k.dst,X Y k.proto,X Y k.sport,X Y k.dport]
structure TuOk (k:Tu):Prop where
 src:k.src < 4294967296
 dst:k.dst < 4294967296
 proto:-9223372036854775808≤k.proto∧k.proto≤9223372036854775807
 sport:-9223372036854775808≤k.sport∧k.sport≤9223372036854775807
 dport:-9223372036854775808≤k.dport∧k.dport≤9223372036854775807
def mayTu (k:Tu):Bool:=decide ((k.proto=6∨k.proto=17)∧0≤k.sport∧k.sport≤65535∧0≤k.dport∧k.dport≤65535)
end
section
open Go.RowKit
theorem maytuple_any (k:Tu)(w:World):
  Calls Pg 11 #[.agg k.vals] w fun e w'=>e=rT (bL (mayTu k))∧Below w.heap.size w w':=by
 obtain⟨src,dst,proto,sport,dport⟩:=k
 unfold Tu.vals
 dsimp only
 by_cases hp:proto=6∨proto=17
 ·have hb:((proto==6)=true)∨((proto==6)=false∧(proto==17)=true):=by
   rcases hp with h|h
   ·left;simp[h]
   ·right;simp[h]
  rcases hb with b6|⟨b6,b17⟩
  all_goals
   by_cases h1:0≤sport
   case neg=>
    have HB:Hid (mayTu ⟨src,dst,proto,sport,dport⟩=false):=decide_eq_false (by dsimp only;omega)
    clear hp
    go_enter func11,ntmps11
    go_wp2_with fail
    go_ret
    exact⟨by rw[HB.out];rfl,(bR _ _).alloc (nR _) _⟩
   by_cases h2:sport≤65535
   case neg=>
    have HB:Hid (mayTu ⟨src,dst,proto,sport,dport⟩=false):=decide_eq_false (by dsimp only;omega)
    clear hp
    go_enter func11,ntmps11
    go_wp2_with fail
    go_ret
    exact⟨by rw[HB.out];rfl,(bR _ _).alloc (nR _) _⟩
   by_cases h3:0≤dport
   case neg=>
    have HB:Hid (mayTu ⟨src,dst,proto,sport,dport⟩=false):=decide_eq_false (by dsimp only;omega)
    clear hp
    go_enter func11,ntmps11
    go_wp2_with fail
    go_ret
    exact⟨by rw[HB.out];rfl,(bR _ _).alloc (nR _) _⟩
   by_cases h4:dport≤65535
   case neg=>
    have HB:Hid (mayTu ⟨src,dst,proto,sport,dport⟩=false):=decide_eq_false (by dsimp only;omega)
    clear hp
    go_enter func11,ntmps11
    go_wp2_with fail
    go_ret
    exact⟨by rw[HB.out];rfl,(bR _ _).alloc (nR _) _⟩
   have HB:Hid (mayTu ⟨src,dst,proto,sport,dport⟩=true):=decide_eq_true (by dsimp only;omega)
   clear hp
   go_enter func11,ntmps11
   go_wp2_with fail
   go_ret
   exact⟨by rw[HB.out];rfl,(bR _ _).alloc (nR _) _⟩
 ·have b6:(proto==6)=false:=by simp;omega
  have b17:(proto==17)=false:=by simp;omega
  have HB:Hid (mayTu ⟨src,dst,proto,sport,dport⟩=false):=decide_eq_false (by dsimp only;omega)
  clear hp
  go_enter func11,ntmps11
  go_wp2_with fail
  go_ret
  exact⟨by rw[HB.out];rfl,(bR _ _).alloc (nR _) _⟩
theorem tupmay_any (k:Tu)(w:World):
  Calls Pg 204 #[.agg k.vals] w fun e w'=>e=rT (bL (mayTu k))∧Below w.heap.size w w':=by
 obtain⟨src,dst,proto,sport,dport⟩:=k
 unfold Tu.vals
 dsimp only
 by_cases hp:proto=6∨proto=17
 ·have hb:((proto==6)=true)∨((proto==6)=false∧(proto==17)=true):=by
   rcases hp with h|h
   ·left;simp[h]
   ·right;simp[h]
  rcases hb with b6|⟨b6,b17⟩
  all_goals
   by_cases h1:0≤sport
   case neg=>
    have HB:Hid (mayTu ⟨src,dst,proto,sport,dport⟩=false):=decide_eq_false (by dsimp only;omega)
    clear hp
    go_enter func204,ntmps204
    go_wp2_with fail
    go_ret
    exact⟨by rw[HB.out];rfl,(bR _ _).alloc (nR _) _⟩
   by_cases h2:sport≤65535
   case neg=>
    have HB:Hid (mayTu ⟨src,dst,proto,sport,dport⟩=false):=decide_eq_false (by dsimp only;omega)
    clear hp
    go_enter func204,ntmps204
    go_wp2_with fail
    go_ret
    exact⟨by rw[HB.out];rfl,(bR _ _).alloc (nR _) _⟩
   by_cases h3:0≤dport
   case neg=>
    have HB:Hid (mayTu ⟨src,dst,proto,sport,dport⟩=false):=decide_eq_false (by dsimp only;omega)
    clear hp
    go_enter func204,ntmps204
    go_wp2_with fail
    go_ret
    exact⟨by rw[HB.out];rfl,(bR _ _).alloc (nR _) _⟩
   by_cases h4:dport≤65535
   case neg=>
    have HB:Hid (mayTu ⟨src,dst,proto,sport,dport⟩=false):=decide_eq_false (by dsimp only;omega)
    clear hp
    go_enter func204,ntmps204
    go_wp2_with fail
    go_ret
    exact⟨by rw[HB.out];rfl,(bR _ _).alloc (nR _) _⟩
   have HB:Hid (mayTu ⟨src,dst,proto,sport,dport⟩=true):=decide_eq_true (by dsimp only;omega)
   clear hp
   go_enter func204,ntmps204
   go_wp2_with fail
   go_ret
   exact⟨by rw[HB.out];rfl,(bR _ _).alloc (nR _) _⟩
 ·have b6:(proto==6)=false:=by simp;omega
  have b17:(proto==17)=false:=by simp;omega
  have HB:Hid (mayTu ⟨src,dst,proto,sport,dport⟩=false):=decide_eq_false (by dsimp only;omega)
  clear hp
  go_enter func204,ntmps204
  go_wp2_with fail
  go_ret
  exact⟨by rw[HB.out];rfl,(bR _ _).alloc (nR _) _⟩
def tupB (k:Tu):List Nat:=be k.src 4++be k.dst 4++be (u64n k.proto) 1++be (u64n k.sport) 2++be (u64n k.dport) 2
theorem tupB_length (k:Tu):(tupB k).length=13:=by simp[tupB,be_length]
theorem allB_append {a b:List Nat}(ha:AllB a)(hb:AllB b):AllB (a++b):=fun x hx=>(List.mem_append.1 hx).elim (ha x) (hb x)
theorem tupB_all (k:Tu):AllB (tupB k):=allB_append (allB_append (allB_append (allB_append (be_all _ _) (be_all _ _)) (be_all _ _)) (be_all _ _)) (be_all _ _)
def hashT (k:Tu):Nat:=mixN 0 (tupB k)
theorem write_any (p base:Nat)(k:Tu)(hk:TuOk k)(w:World)(h:WBuf w base p [])(hbase:base≤w.heap.size):
  Calls Pg 318 #[PT (some ⟨p,0,none⟩),.agg k.vals] w fun e w'=>e=rT (tU #[])∧WBuf w' base p (tupB k)∧Below base w w':=by
 obtain⟨src,dst,proto,sport,dport⟩:=k
 obtain⟨k1,k2,k3,k4,k5⟩:=hk
 dsimp only[Tu.vals] at *
 have hx:=Blk.new w 39 #[X Z src,X Z dst,X Y proto,X Y sport,X Y dport]
 have hb0:=(bR w.heap.size w).alloc (nR _) (cL #[X Z src,X Z dst,X Y proto,X Y sport,X Y dport] 39)
 have hw0:=h.below hb0
 have HE:Hid (tupB ⟨src,dst,proto,sport,dport⟩=be src 4++be dst 4++be (u64n proto) 1++be (u64n sport) 2++be (u64n dport) 2):=rfl
 obtain⟨T,hT⟩:∃T,tupB ⟨src,dst,proto,sport,dport⟩=T:=⟨_,rfl⟩
 rw[hT] at HE⊢
 clear hT
 have hlen:∀(n width:Nat) (l:List Nat),(l++be n width).length=l.length + width:=fun n width l=>by rw[List.length_append,be_length]
 have ht1:39≠251:=by decide
 have ht2:39≠5:=by decide
 have hbs:=nT hbase hb0.size
 have C1:=jH (u32_k p base src [] _ k1 (by simp) hw0 hbs)
 have HX:=jH hx
 have HB:=jH (hb0.mono hbase)
 have HL:=jH hlen
 have HS:=jH hbs
 clear hx hb0 hw0 hlen hbs h
 go_enter func318,ntmps318
 obtain⟨q,hq⟩:∃q,q=w.heap.size:=⟨_,rfl⟩
 go_wp2_with fail
 generalize w.alloc (cL #[X Z src,X Z dst,X Y proto,X Y sport,X Y dport] 39)=w0 at *
 rw[←hq] at HX⊢
 clear hq
 refine C1.out.mono ?_
 rintro e w1 ⟨rfl,hw1,hb1,hK1⟩
 have hx1:=hK1 _ _ _ HX.out ht1 ht2
 have hs1:=nT HS.out hb1.size
 have C2:=jH (u32_k p base dst _ w1 k2 (by rw[HL.out];simp) hw1 hs1)
 obtain⟨-,d1⟩:=hx1.c2
 have HX1:=jH hx1
 clear hx1
 go_wp2_with fail
 clear d1
 refine C2.out.mono ?_
 rintro e w2 ⟨rfl,hw2,hb2,hK2⟩
 have hx2:=hK2 _ _ _ HX1.out ht1 ht2
 have hs2:=nT hs1 hb2.size
 have C3:=jH (u8w_k p base proto _ w2 (by simp[be_length]) hw2 hs2)
 obtain⟨-,-,d2⟩:=hx2.c3
 have HX2:=jH hx2
 clear hx2
 go_wp2_with fail
 clear d2
 refine C3.out.mono ?_
 rintro e w3 ⟨rfl,hw3,hb3,hK3⟩
 have hx3:=hK3 _ _ _ HX2.out ht1 ht2
 have hs3:=nT hs2 hb3.size
 have C4:=jH (u16w_k p base sport _ w3 (by simp[be_length]) hw3 hs3)
 have d3:=hx3.cell 3
 simp only[ga,gz,gN] at d3
 have HX3:=jH hx3
 clear hx3
 go_wp2_with fail
 clear d3
 refine C4.out.mono ?_
 rintro e w4 ⟨rfl,hw4,hb4,hK4⟩
 have hx4:=hK4 _ _ _ HX3.out ht1 ht2
 have hs4:=nT hs3 hb4.size
 have C5:=jH (u16w_k p base dport _ w4 (by simp[be_length]) hw4 hs4)
 have d4:=hx4.cell 4
 simp only[ga,gz,gN] at d4
 have HX4:=jH hx4
 clear hx4
 go_wp2_with fail
 clear d4
 refine C5.out.mono ?_
 rintro e w5 ⟨rfl,hw5,hb5,hK5⟩
 have hx5:=hK5 _ _ _ HX4.out ht1 ht2
 have hs5:=nT hs4 hb5.size
 go_wp2_with fail
 go_end0
 refine⟨rfl,?_,((((HB.out.trans hb1).trans hb2).trans hb3).trans hb4).trans hb5⟩
 rw[HE.out]
 simpa using hw5
theorem hash_any (k:Tu)(hk:TuOk k)(w:World):
  Calls Pg 205 #[.agg k.vals] w fun e w'=>e=rT (X Z (hashT k))∧Below w.heap.size w w':=by
 have HT:Hid (mixN 0 (tupB k)=hashT k):=rfl
 have hl:=tupB_length k
 have ha:=tupB_all k
 have hb0:=((bR w.heap.size w).alloc (nR _) (.cells k.vals 39)).alloc (by simp) (cL #[G none 0 0] 251)
 have hs0:((w.alloc (.cells k.vals 39)).alloc (cL #[G none 0 0] 251)).heap.size=w.heap.size + 2:=by simp
 have C1:=jH (write_any (w.heap.size + 1) (w.heap.size + 1) k hk ((w.alloc (.cells k.vals 39)).alloc (cL #[G none 0 0] 251))
  ⟨nR _,none,0,Blk.new_ (by simp),World.ownsRow_nil _ _ _ _⟩ (by rw[hs0];omega))
 have hx0:=(Blk.new w 39 k.vals).alloc (cL #[G none 0 0] 251)
 have HT2:=jH (aI hb0 hs0)
 obtain⟨src,dst,proto,sport,dport⟩:=k
 dsimp only[Tu.vals] at *
 obtain⟨c0,c1,c2,c3,c4⟩:=hx0.c5
 clear hb0 hs0 hx0
 generalize hashT ⟨src,dst,proto,sport,dport⟩=hT at *
 generalize tupB ⟨src,dst,proto,sport,dport⟩=tb at *
 have HL:=jH hl
 clear hl
 go_enter func205,ntmps205
 go_wp2_with fail
 refine C1.out.mono ?_
 rintro e w1 ⟨rfl,hw1,hb1⟩
 have hs1:w.heap.size + 2≤w1.heap.size:=by have:=hb1.size;rw[HT2.out.2] at this;exact this
 have hB1:Below w.heap.size w w1:=HT2.out.1.trans (hb1.mono (by omega))
 clear c0 c1 c2 c3 c4
 go_wp2_with fail
 refine(bytes_any (w.heap.size + 1) (w.heap.size + 1) tb w1 hw1 (by rw[HL.out];omega)).mono ?_
 rintro e w2 ⟨A2,c2,rfl,hown2,hb2⟩
 have hr2:=Reads.of_own hown2
 rw[HL.out] at hr2 hown2⊢
 have hB2:Below w.heap.size w w2:=hB1.trans (hb2.mono (by omega))
 clear hown2 hb2
 go_wp2_with fail
 refine(mix_any 0 (by omega) _ _ _ _ _ tb hr2 (by omega) ha).mono ?_
 rintro e w' ⟨rfl,rfl⟩
 rw[HT.out]
 go_wp2_with fail
 go_ret
 exact⟨rfl,hB2⟩
theorem rleft_any (p:Nat)(l:List Nat)(w:World)(h:RBuf w p l):
  Calls Pg 443 #[PT (some ⟨p,0,none⟩)] w fun e w'=>e=rT (X Y l.length)∧w=w':=by
 obtain⟨B,A,c,hB,hblk,hr,hlc⟩:=h
 have g0:=hblk.c1
 clear hblk hr
 generalize l.length=n at *
 go_enter func443,ntmps443
 go_wp2_with fail
 go_ret
 exact⟨rfl,rfl⟩
theorem rend_any (p:Nat)(w:World)(h:RBuf w p []):
  Calls Pg 307 #[PT (some ⟨p,0,none⟩)] w fun e w'=>e=rT (X Y 0)∧w=w':=by
 obtain⟨B,A,c,hB,hblk,hr,hlc⟩:=h
 obtain⟨g0,g1⟩:=hblk.c2
 clear hblk hr
 go_enter func307,ntmps307
 go_wp2_with fail
 go_ret
 exact⟨rfl,rfl⟩
theorem number8_any (p:Nat)(l:List Nat)(w:World)(hn:8≤l.length)(hl:l.length≤140737488355328)(ha:AllB l)(h:RBuf w p l):
  Calls Pg 408 #[PT (some ⟨p,0,none⟩),X Y 8] w fun e w'=>e=rT (X .u64 (nb (l.take 8):Nat))∧NumLeft p 8 l w w':=by
 have HC:=jH (take_any p 8 l w hn hl h)
 rw[show ((8:Nat):Int)=8 from rfl] at HC
 have hlt:(l.take 8).length=8:=by simp;omega
 have HT:=jH hlt
 have HA:=jH (ha.take 8)
 have HB:=jH (nb_lt (ha.take 8))
 clear hlt ha h hn
 go_enter func408,ntmps408
 go_wp2_with fail
 refine HC.out.mono ?_
 rintro e w1 ⟨A,c,B,rfl,hB,hr,hrb,hbl⟩
 have HE:Hid (NumLeft p 8 l w w1):=⟨hrb,hbl⟩
 clear hrb hbl HC hl
 obtain⟨m,hm⟩:∃m,m=l.take 8:=⟨_,rfl⟩
 rw[←hm] at hr HT HA HB
 have HM:=jH hm
 clear hm
 go_wp2_with fail
 go_loop [5,12] (fun t i=>∃k:Nat,k≤8∧i=X Y k∧t=X .u64 (nb (m.take k):Nat)) (fun _ i=>8 - (intOf i).toNat)
 case atStart=>exact⟨0,Nat.zero_le _,rfl,rfl⟩
 case round=>
  obtain⟨k,hk,rfl,rfl⟩:=hrel
  have hlt:=HB.out k (by rw[HT.out];exact hk)
  by_cases hkw:k < 8
  ·have hp:256 ^ k≤256 ^ 7:=Nat.pow_le_pow_right (by omega) (by omega)
   have hsm':nb (m.take k) < 72057594037927936:=Nat.lt_of_lt_of_le hlt hp
   clear hlt hp
   obtain⟨ad,hl0,rfl,hc⟩:=bytes_at hr hkw
   have hx:=HA.out _ (List.getElem_mem hl0)
   have hnx:Hid (nb (m.take (k + 1))=nb (m.take k) * 256 + m[k]):=nb_take m k hl0
   generalize m[k]=x at *
   generalize nb (m.take k)=y at *
   have hor:bits BinOp.or IntKind.u64 ((y:Int) * 256) (x:Int)=((y * 256 + x:Nat):Int):=by
    have:=u64_or_nat (y * 256) x (by omega) (by omega)
    rw[nat_join 8 (y * 256) x (by omega) (by omega)] at this
    exact this
   go_wp2_with fail
   go_round
   case rel=>exact⟨k + 1,by omega,by go_num,by rw[hnx.out,Int.natCast_add,Int.natCast_mul];rfl⟩
   case measure=>simp[intOf];omega
  ·have hkk:k=8:=by omega
   have hfin:Hid (m.take k=m):=by show _=_;rw[hkk];exact List.take_of_length_le (by rw[HT.out];exact nR _)
   rw[hfin.out]
   clear hkk hlt
   go_wp2_with fail
   go_ret
   exact⟨by rw[←HM.out];rfl,HE.out⟩
theorem i64r_any (p:Nat)(l:List Nat)(w:World)(hn:8≤l.length)(hl:l.length≤140737488355328)(ha:AllB l)(hx:nb (l.take 8) < 9223372036854775808)(h:RBuf w p l):
  Calls Pg 412 #[PT (some ⟨p,0,none⟩)] w fun e w'=>e=rT (X Y (nb (l.take 8):Nat))∧NumLeft p 8 l w w':=by
 have HC:=jH (number8_any p l w hn hl ha h)
 clear h ha
 go_enter func412,ntmps412
 go_wp2_with fail
 refine HC.out.mono ?_
 rintro e w1 ⟨rfl,he⟩
 have HE:=jH he
 clear he HC
 go_wp2_with fail
 go_ret
 exact⟨rfl,HE.out⟩
theorem NumLeft.below {p k:Nat}{l:List Nat}{w w':World}(h:NumLeft p k l w w')(hp:p < w.heap.size):Below p w w':=
 (bR p w).grown h.2 (Nat.le_of_lt hp) (fun k hk=>by injection hk with hk;omega)
theorem raw_take (p n:Nat)(l:List Nat)(w:World)(hn:n≤l.length)(hn0:0 < n)(hl:l.length≤140737488355328)(h:RBuf w p l):
  Calls Pg 405 #[PT (some ⟨p,0,none⟩),X Y n] w fun e w'=>∃A' c',e=rT (G A' n c')∧w'.ownsRow w.heap.size 5 1 (G A' n c') n (bv (l.take n))∧RBuf w' p (l.drop n)∧Below p w w':=by
 have hp:=h.lt
 have HC:=jH (take_any p n l w hn hl h)
 have HP:=jH hp
 clear h hp
 go_enter func405,ntmps405
 go_wp2_with fail
 refine HC.out.mono ?_
 rintro e w1 ⟨A,c,B,rfl,hB,hr,hrb,hbl⟩
 have hb1:Below p w w1:=(bR p w).grown hbl (Nat.le_of_lt HP.out) (fun k hk=>by injection hk with hk;omega)
 have hs1:=hb1.size
 have CL:=jH (clone_any A n c B (l.take n) w1 hr (by have:=hrb.lt;omega) (by omega) (fun e=>by subst e;obtain⟨ad,_,h1,_⟩:=bytes_at hr (j:=0) (by omega);cases h1))
 have HE:Hid (RBuf w1 p (l.drop n)∧Below p w w1):=⟨hrb,hb1⟩
 clear hrb hbl hb1 hr HC
 go_wp2_with fail
 refine CL.out.mono ?_
 rintro e w2 ⟨A2,c2,rfl,hown,hb2⟩
 have HF:Hid (w2.ownsRow w.heap.size 5 1 (G A2 n c2) n (bv (l.take n))∧RBuf w2 p (l.drop n)∧Below p w w2):=⟨own_base hown hs1,HE.out.1.below hb2,HE.out.2.trans (hb2.mono (Nat.le_of_lt HE.out.1.lt))⟩
 clear hown hb2 CL HE
 go_wp2_with fail
 go_ret
 exact⟨A2,c2,rfl,HF.out⟩
theorem nb_snoc (l:List Nat)(x:Nat):nb (l++[x])=nb l * 256 + x:=by simp[nb]
theorem be_succ (n k:Nat):be n (k + 1)=be (n / 256) k++[n % 256]:=by
 unfold be
 rw[List.range_succ,List.map_append]
 congr 1
 ·refine List.map_congr_left fun i hi=>?_
  have hi:=List.mem_range.1 hi
  rw[show k + 1 - 1 - i=(k - 1 - i) + 1 by omega,Nat.pow_succ,Nat.mul_comm,Nat.div_div_eq_div_mul]
 ·simp
theorem nb_be:∀(k n:Nat),n < 256 ^ k→nb (be n k)=n
 |0,n,h=>by
  have:n=0:=by simpa using h
  subst this;rfl
 |k + 1,n,h=>by
  rw[be_succ,nb_snoc,nb_be k (n / 256) (by rw[Nat.pow_succ] at h;omega)]
  omega
theorem take_be (n k:Nat)(r:List Nat):(be n k++r).take k=be n k:=by rw[List.take_append_of_le_length (by rw[be_length];exact nR _),List.take_of_length_le (by rw[be_length];exact nR _)]
theorem drop_be (n k:Nat)(r:List Nat):(be n k++r).drop k=r:=by
 have:=List.drop_left (l₁:=be n k) (l₂:=r)
 rwa [be_length] at this
theorem u8b (p x:Nat)(r:List Nat)(w:World)(hx:x < 256)(hl:r.length≤1000000)(ha:AllB r)(h:RBuf w p (be x 1++r)):
  Calls Pg 406 #[PT (some ⟨p,0,none⟩)] w fun e w'=>e=rT (X Y x)∧RBuf w' p r∧Below p w w':=by
 refine(u8r_any p (be x 1++r) w (by rw[List.length_append,be_length];omega) (by rw[List.length_append,be_length];omega) (allB_append (be_all _ _) ha) h).mono ?_
 rintro e w' ⟨rfl,hr⟩
 have hb:=hr.below h.lt
 have h2:=hr.1
 rw[drop_be] at h2
 rw[take_be,nb_be 1 x (by omega)]
 exact⟨rfl,h2,hb⟩
theorem u16b (p x:Nat)(r:List Nat)(w:World)(hx:x < 65536)(hl:r.length≤1000000)(ha:AllB r)(h:RBuf w p (be x 2++r)):
  Calls Pg 306 #[PT (some ⟨p,0,none⟩)] w fun e w'=>e=rT (X Y x)∧RBuf w' p r∧Below p w w':=by
 refine(u16r_any p (be x 2++r) w (by rw[List.length_append,be_length];omega) (by rw[List.length_append,be_length];omega) (allB_append (be_all _ _) ha) h).mono ?_
 rintro e w' ⟨rfl,hr⟩
 have hb:=hr.below h.lt
 have h2:=hr.1
 rw[drop_be] at h2
 rw[take_be,nb_be 2 x (by omega)]
 exact⟨rfl,h2,hb⟩
theorem u32b (p x:Nat)(r:List Nat)(w:World)(hx:x < 4294967296)(hl:r.length≤1000000)(ha:AllB r)(h:RBuf w p (be x 4++r)):
  Calls Pg 305 #[PT (some ⟨p,0,none⟩)] w fun e w'=>e=rT (X Z x)∧RBuf w' p r∧Below p w w':=by
 refine(u32r_any p (be x 4++r) w (by rw[List.length_append,be_length];omega) (by rw[List.length_append,be_length];omega) (allB_append (be_all _ _) ha) h).mono ?_
 rintro e w' ⟨rfl,hr⟩
 have hb:=hr.below h.lt
 have h2:=hr.1
 rw[drop_be] at h2
 rw[take_be,nb_be 4 x (by omega)]
 exact⟨rfl,h2,hb⟩
theorem raw_any (p base B:Nat)(A:Option Addr)(n c:Nat)(news l:List Nat)(w:World)(hl:l.length + n≤1099511627776)(h:WBuf w base p l)(hbase:base≤w.heap.size)(hr:Reads w B 1 A n (bv news)):
  Calls Pg 158 #[PT (some ⟨p,0,none⟩),G A n c] w fun e w'=>e=rT (tU #[])∧WBuf w' base p (l++news)∧Below base w w':=by
 obtain⟨hbp,A0,c0,hblk,hown⟩:=h
 have hlen:news.length=n:=by have:=hr.length;omega
 have g0:=hblk.c1
 have fz:=hblk.frozen 0
 have hlt:=hblk.lt
 have HO:=jH (aI hblk (aI hown hr))
 clear hblk hown hr
 go_enter func158,ntmps158
 go_wp2_with (at_builtin;refine stop_ ?_)
 refine on_ ?_
 refine wpList_append_b rfl (.tmp 10) (.tmp 11) _ rfl 5 infoB underlying23 base (G A0 l.length c0) l.length l rfl HO.out.2.1 B A n c news rfl HO.out.2.2 (l.length + n) rfl (by omega) hbase ?_
 intro A3 c3 w4 hown4 hbl4 hg4 hblk4
 have hb4:=HO.out.1.grown hg4 (fun e=>own_blk_ne HO.out.2.1 HO.out.1 (by decide) e.symm)
 have hlt4:=hb4.lt
 have fz4:=hb4.frozen 0
 have g4:=hb4.c1
 clear g0 fz hlt
 go_wp2_with fail
 go_end0
 have hb5:=hb4.set_ 0 (G A3 (l.length + n) c3)
 have ho5:=own_set_far hown4 hb4 (by decide) 0 (G A3 (l.length + n) c3)
 refine⟨rfl,⟨hbp,A3,c3,?_,?_⟩,hbl4.setCell (p:=⟨p,0,none⟩) hbp _⟩
 ·rw[List.length_append,hlen];exact hb5
 ·rw[List.length_append,hlen];exact ho5
theorem wlen_any (p base:Nat)(l:List Nat)(w:World)(h:WBuf w base p l):
  Calls Pg 161 #[PT (some ⟨p,0,none⟩)] w fun e w'=>e=rT (X Y l.length)∧w=w':=by
 obtain⟨hbp,A0,c0,hblk,hown⟩:=h
 have g0:=hblk.c1
 clear hblk hown
 generalize l.length=n at *
 go_enter func161,ntmps161
 go_wp2_with fail
 go_ret
 exact⟨rfl,rfl⟩
theorem folded_any (s:Nat)(hs:s < 4294967296)(w:World):
  Calls Pg 436 #[X Z s] w fun e w'=>e=rT (X Z (fo s))∧w=w':=by
 go_enter func436,ntmps436
 go_wp2
 go_loop [0] (fun t=>∃k:Nat,k < 4294967296∧Hid (fo k=fo s)∧t=X Z k) (fun t=>(intOf t).toNat)
 case atStart=>exact⟨s,hs,rfl,rfl⟩
 case round=>
  obtain⟨k,hk,hf,rfl⟩:=hrel
  by_cases h:65535 < k
  ·have hb:bits BinOp.and IntKind.u32 (k:Int) 65535=((k % 65536:Nat):Int):=by
    have:=u32_and_nat k 65535 hk (by omega)
    rw[nat_mask16] at this
    exact this
   have hr:(((k:Int) / 65536 + ((k % 65536:Nat):Int)) % 4294967296)=((k / 65536 + k % 65536:Nat):Int):=by omega
   have HB:=jH hb
   have HR:=jH hr
   clear hb hr
   go_wp2
   go_round
   case rel=>exact⟨k / 65536 + k % 65536,by omega,by rw[←hf.out];exact fo_step h,by rw[HB.out,HR.out]⟩
   case measure=>rw[HB.out,HR.out];simp only[intOf];omega
  ·go_wp2
   go_ret
   exact⟨ret_int (by rw[←hf.out,fo_small (by omega)]),rfl⟩
theorem folded_at (z:Int)(h0:0≤z)(h1:z < 4294967296)(w:World):
  Calls Pg 436 #[X Z z] w fun e w'=>e=rT (X Z (fo z.toNat))∧w=w':=by
 obtain⟨n,rfl⟩:=Int.eq_ofNat_of_zero_le h0
 exact folded_any n (by omega) w
theorem fold_any (s:Nat)(hs:s < 4294967296)(w:World):
  Calls Pg 385 #[X Z s] w fun e w'=>e=rT (X .u16 (foldN s))∧w=w':=by
 have hl:=fo_le s
 go_enter func385,ntmps385
 go_wp2_with (go_at_call 436;refine(folded_any s hs _).mono ?_;rintro e w' ⟨rfl,rfl⟩)
 go_ret
 exact⟨ret_int (not_u16 _ hl),rfl⟩
theorem part_any (s:Nat)(hs:s < 4294967296)(w:World)(B:Nat)(A:Option Addr)(n c:Nat)(l:List Nat)(h:Reads w B 1 A n (bv l))(hn:n≤281474976710656)(hb:AllB l):
  Calls Pg 386 #[X Z s,G A n c] w fun e w'=>e=rT (X Z (partN s l))∧w=w':=by
 have hln:l.length=n:=by have:=h.1;rw[bv_length] at this;omega
 have hfs:=fo_le s
 go_enter func386,ntmps386
 go_wp2_with (go_at_call 436;refine(folded_any s hs _).mono ?_;rintro e w' ⟨rfl,rfl⟩)
 go_loop [0,5] (fun t i=>∃k:Nat,2 * k≤n + 1∧i=X Y (2 * (k:Int))∧t=X Z (partN s (l.take (2 * k)))) (fun _ i=>n + 1 - (intOf i).toNat)
 case atStart=>exact⟨0,by omega,rfl,by simp[partN,wsum]⟩
 case round=>
  obtain⟨k,hk,rfl,rfl⟩:=hrel
  have hp:=partN_le s (l.take (2 * k))
  generalize hP:partN s (l.take (2 * k))=p at hp
  have HP:=jH hP
  clear hP
  by_cases hlt:2 * k < n
  ·obtain⟨ad,hl0,rfl,hc0⟩:=bytes_at h hlt
   have hx:=hb _ (List.getElem_mem hl0)
   generalize hX:l[2 * k]=x at hc0 hx
   have HX:=jH hX
   clear hX
   by_cases hlt1:2 * k + 1 < n
   ·obtain⟨_,hl1,e,hc1⟩:=bytes_at h hlt1
    cases e
    have hy:=hb _ (List.getElem_mem hl1)
    rw[add_succ] at hc1
    generalize hY:l[2 * k + 1]=y at hc1 hy
    have HY:=jH hY
    clear hY h
    have HF:Hid (fo (p + (x * 256 + y))=partN s (l.take (2 * (k + 1)))):=by
     show _=_
     rw[partN,wsum_take_two l k (by omega),HX.out,HY.out,←HP.out,partN,fo_add,Nat.add_assoc]
    have hor:bits BinOp.or IntKind.u32 ((x:Int) * 256) (y:Int)=((x * 256 + y:Nat):Int):=by
     have:=u32_or_nat (x * 256) y (by omega) (by omega)
     rw[nat_join 8 (x * 256) y (by omega) (by omega)] at this
     exact this
    go_wp2_with (go_at_call 436;refine(folded_at _ (by omega) (by omega) _).mono ?_;rintro e w' ⟨rfl,rfl⟩)
    go_round
    case rel=>exact⟨k + 1,by omega,by go_num,by rw[←HF.out];congr 3⟩
    case measure=>simp[intOf];omega
   ·have HF:Hid (fo (p + x * 256)=partN s (l.take (2 * (k + 1)))):=by
     show _=_
     rw[partN,List.take_of_length_le (by omega),wsum_take_last l k (by omega),HX.out,←HP.out,partN,fo_add,Nat.add_assoc]
    clear h
    go_wp2_with (go_at_call 436;refine(folded_at _ (by omega) (by omega) _).mono ?_;rintro e w' ⟨rfl,rfl⟩)
    go_round
    case rel=>exact⟨k + 1,by omega,by go_num,by rw[←HF.out];congr 3⟩
    case measure=>simp[intOf];omega
  ·have HF:Hid (p=partN s l):=by
    show _=_
    rw[←HP.out,List.take_of_length_le (by omega)]
   go_wp2
   go_ret
   exact⟨ret_int (by rw[HF.out]),rfl⟩
theorem fold_at (z:Int)(h0:0≤z)(h1:z < 4294967296)(w:World):
  Calls Pg 385 #[X Z z] w fun e w'=>e=rT (X .u16 (foldN z.toNat))∧w=w':=by
 obtain⟨s,rfl⟩:=Int.eq_ofNat_of_zero_le h0
 exact fold_any s (by omega) w
theorem net_any (w:World)(B:Nat)(A:Option Addr)(n c:Nat)(l:List Nat)(h:Reads w B 1 A n (bv l))(hn:n≤281474976710656)(hb:AllB l):
  Calls Pg 264 #[G A n c] w fun e w'=>e=rT (X .u16 (netN l))∧w=w':=by
 have hp:=partN_le 0 l
 have HF:=jH (net_of l)
 go_enter func264,ntmps264
 go_wp2_with (first|(go_at_call 386;refine(part_any 0 (by omega) _ B A n c l h hn hb).mono ?_;rintro e w' ⟨rfl,rfl⟩)|(go_at_call 385;refine(fold_any _ (by omega) _).mono ?_;rintro e w' ⟨rfl,rfl⟩))
 go_ret
 exact⟨ret_int (by rw[HF.out]),rfl⟩
theorem fix_any (x old now:Nat)(hx:x < 65536)(ho:old < 65536)(hn:now < 65536)(w:World):
  Calls Pg 322 #[X .u16 x,X .u16 old,X .u16 now] w fun e w'=>e=rT (X .u16 (fixN x old now))∧w=w':=by
 have h1:=not_u16 x (by omega)
 have h2:=not_u16 old (by omega)
 go_enter func322,ntmps322
 go_wp2_with (go_at_call 385;refine(fold_at _ (by omega) (by omega) _).mono ?_;rintro e w' ⟨rfl,rfl⟩)
 go_ret
 exact⟨ret_int (by unfold fixN foldN;congr 3;omega),rfl⟩
theorem and_one (k:Nat)(hk:k < 4294967296):bits BinOp.and IntKind.u32 (k:Int) 1=((k % 2:Nat):Int):=by
 have:=u32_and_nat k 1 hk (by omega)
 rw[nat_mask1] at this
 exact this
theorem crc_any (w:World)(B:Nat)(A:Option Addr)(n c:Nat)(l:List Nat)(h:Reads w B 1 A n (bv l))(hn:n≤281474976710656)(hb:AllB l):
  Calls Pg 351 #[G A n c] w fun e w'=>e=rT (X Z (crcN l))∧w=w':=by
 have hln:l.length=n:=by have:=h.1;rw[bv_length] at this;omega
 go_enter func351,ntmps351
 go_wp2
 go_loop [3,9] (fun t i=>∃k:Nat,k≤n∧i=X Y k∧t=X Z ((l.take k).foldl crcByte 4294967295:Nat)) (fun _ i=>n - (intOf i).toNat)
 case atStart=>exact⟨0,by omega,rfl,rfl⟩
 case round=>
  obtain⟨k,hk,rfl,rfl⟩:=hrel
  have hp:(l.take k).foldl crcByte 4294967295 < 4294967296:=foldl_lt (fun _ _=>crcByte_lt) _ _ (hb.take k) (by omega)
  by_cases hlt:k < n
  ·obtain⟨ad,hl0,rfl,hc0⟩:=bytes_at h hlt
   have hx:=hb _ (List.getElem_mem hl0)
   have hnext:=foldl_take (f:=crcByte) l k 4294967295 hl0
   generalize (l.take k).foldl crcByte 4294967295=p at hp hnext
   generalize l[k]=x at hc0 hx hnext
   have HN:=jH hnext
   clear hnext
   have hxor:bits BinOp.xor IntKind.u32 (p:Int) (x:Int)=((p ^^^ x:Nat):Int):=u32_xor_nat p x hp (by omega)
   have hq:p ^^^ x < 4294967296:=xor_lt32 hp (by omega)
   have HQ:Hid (crcByte p x=crcBits 8 (p ^^^ x)):=rfl
   generalize p ^^^ x=q at hxor hq HQ
   go_wp2
   go_loop [3,17] (fun t i=>∃j:Nat,j≤8∧i=X Y j∧t=X Z (crcBits j q:Nat)) (fun _ i=>8 - (intOf i).toNat)
   case atStart=>exact⟨0,by omega,rfl,rfl⟩
   case round=>
    obtain⟨j,hj,rfl,rfl⟩:=hrel
    have hr:=crcBits_lt j hq
    have HR:Hid (crcBits (j + 1) q=crcBit (crcBits j q)):=rfl
    have HR8:Hid (crcBits j q=crcBits j q):=rfl
    by_cases hj8:j < 8
    ·generalize crcBits j q=r at hr HR
     by_cases h1:r % 2=1
     ·have hand:bits BinOp.and IntKind.u32 (r:Int) 1=1:=by rw[and_one r hr,h1];rfl
      have hx2:bits BinOp.xor IntKind.u32 ((r:Int) / 2) 2197175160=((crcBit r:Nat):Int):=by
       unfold crcBit
       rw[if_pos h1]
       exact u32_xor_nat (r / 2) 2197175160 (by omega) (by omega)
      clear h1
      go_wp2
      go_round
      case rel=>exact⟨j + 1,by omega,by go_num,by rw[HR.out]⟩
      case measure=>simp[intOf];omega
     ·have hand:bits BinOp.and IntKind.u32 (r:Int) 1=0:=by rw[and_one r hr];omega
      have hx2:Hid (((r:Int) / 2)=((crcBit r:Nat):Int)):=by
       show _=_
       unfold crcBit
       rw[if_neg h1]
       exact(Int.natCast_ediv r 2).symm
      clear h1
      go_wp2
      go_round
      case rel=>exact⟨j + 1,by omega,by go_num,by rw[HR.out,←hx2.out]⟩
      case measure=>simp[intOf];omega
    ·obtain rfl:j=8:=by omega
     rw[←HQ.out,←HN.out]
     clear hr
     go_wp2
     go_round
     case rel=>exact⟨k + 1,by omega,by go_num,rfl⟩
     case measure=>simp[intOf];omega
  ·have HF:Hid (4294967295 - (l.take k).foldl crcByte 4294967295=crcN l):=by
    show _=_
    unfold crcN crcL
    rw[List.take_of_length_le (by omega)]
   have hnot:=not_u32 _ hp
   generalize (l.take k).foldl crcByte 4294967295=p at hp hnot HF
   rw[HF.out] at hnot
   go_wp2
   go_ret
   exact⟨rfl,rfl⟩
def frmHd (k v n:Nat):List Nat:=[103,111,105,116]++be k 1++be v 1++be n 2
def frameB (k v:Nat)(l:List Nat):List Nat:=frmHd k v l.length++be (crcN (frmHd k v l.length)) 4++be (crcN l) 4++l
theorem frmHd_length (k v n:Nat):(frmHd k v n).length=8:=by simp[frmHd,be_length]
theorem frmHd_all (k v n:Nat):AllB (frmHd k v n):=allB_append (allB_append (allB_append (by intro x hx;simp at hx;omega) (be_all _ _)) (be_all _ _)) (be_all _ _)
theorem frameB_length (k v:Nat)(l:List Nat):(frameB k v l).length=l.length + 16:=by simp[frameB,be_length,frmHd_length];omega
theorem frameB_all (k v:Nat){l:List Nat}(h:AllB l):AllB (frameB k v l):=allB_append (allB_append (allB_append (frmHd_all _ _ _) (be_all _ _)) (be_all _ _)) h
theorem run_convert_bytes_const_at {P:Program}(w:World)(t e:TypeId)(C:Array Value)(n c g:Nat)(hg:g=w.heap.size)(ht:P.underlying t=some (.slice e))(he:P.underlying e=some (.int .u8)):
  (convert t t (G (some ⟨g,0,none⟩) n c)).run P (w.alloc (.cells C e))=.ok (G (some ⟨g,0,none⟩) n c) (w.alloc (.cells C e (C.size,C.size + 1))):=by
 subst hg;exact Lib.run_convert_bytes_const w t e C n c ht he
theorem ownsRow_mono {w:World}{base base' size n:Nat}{e:TypeId}{v:Value}{xs:List Value}(h:w.ownsRow base e size v n xs)(hb:base'≤base):w.ownsRow base' e size v n xs:=
 ⟨h.1,h.2.elim Or.inl (fun⟨g,cap,cur,hv,hg,r⟩=>Or.inr ⟨g,cap,cur,hv,nT hb hg,r⟩)⟩
theorem put_frame (k v:Nat)(l:List Nat)(A:Option Addr)(n c B:Nat)(w:World)(hk:k≤255)(hv:v≤255)(hn:n≤4096)(hr:Reads w B 1 A n (bv l))(hB:B≤w.heap.size)(ha:AllB l):
  Calls Pg 238 #[aG #[X Y k,X Y v,G A n c]] w fun e w'=>∃A' c',e=rT (tU #[G A' (n + 16) c',X Y 0])∧w'.ownsRow w.heap.size 5 1 (G A' (n + 16) c') (n + 16) (bv (frameB k v l))∧Below w.heap.size w w':=by
 have hln:l.length=n:=by have:=hr.length;omega
 obtain⟨q,hq⟩:∃q,q=w.heap.size:=⟨_,rfl⟩
 have hbl:=(bR w.heap.size w).alloc (nR _) (cL #[X Y k,X Y v,G A n c] 284)
 have hb:=Blk.new w 284 #[X Y k,X Y v,G A n c]
 have hsz:(w.alloc (cL #[X Y k,X Y v,G A n c] 284)).heap.size=q + 1:=by rw[hq];simp
 rw[←hq] at hbl hb
 have hr1:=hr.alloc hB (cL #[X Y k,X Y v,G A n c] 284)
 have d1:decide ((k:Int) < 0)=false:=decide_eq_false (by omega)
 have d2:decide ((255:Int) < (k:Int))=false:=decide_eq_false (by omega)
 have d3:decide ((v:Int) < 0)=false:=decide_eq_false (by omega)
 have d4:decide ((255:Int) < (v:Int))=false:=decide_eq_false (by omega)
 have d5:decide ((4096:Int) < (n:Int))=false:=decide_eq_false (by omega)
 obtain⟨c0,c1,c2⟩:=hb.c3
 have hqB:B≤q:=by omega
 have HQ:=jH hq
 have kc:=run_convert_bytes_const_at (P:=Pg) ((w.alloc (cL #[X Y k,X Y v,G A n c] 284)).alloc (cL #[G none 0 0] 251)) 23 5 #[X .u8 103,X .u8 111,X .u8 105,X .u8 116] 4 4 (w.heap.size + 1 + 1) (by simp) underlying23 underlying5
 have H:=jH (aI hb (aI hbl hr1))
 clear hb hbl hr1 hr hB
 go_enter func238,ntmps238
 go_wp2_with fail
 rw[←hq] at kc⊢
 generalize w.alloc (cL #[X Y k,X Y v,G A n c] 284)=w1 at *
 clear kc hq
 have hb1:=H.out.1
 have hwb:WBuf (w1.alloc (cL #[G none 0 0] 251)) (q + 1) (q + 1) []:=⟨nR _,none,0,by have:=Blk.new w1 251 #[G none 0 0];rw[hsz] at this;exact this,rfl,.inl ⟨rfl,rfl⟩⟩
 have hbw:Below (q + 1) w1 (w1.alloc (cL #[G none 0 0] 251)):=by have:=(bR w1.heap.size w1).alloc (nR _) (cL #[G none 0 0] 251);rw[hsz] at this;exact this
 have hs2:(w1.alloc (cL #[G none 0 0] 251)).heap.size=q + 2:=by simp[hsz]
 generalize w1.alloc (cL #[G none 0 0] 251)=w2 at *
 have hb23:=(bR w2.heap.size w2).alloc (nR _) (cL #[X .u8 103,X .u8 111,X .u8 105,X .u8 116] 5 (4,5))
 have hwb3:=hwb.below hb23
 have hr3:Reads (w2.alloc (cL #[X .u8 103,X .u8 111,X .u8 105,X .u8 116] 5 (4,5))) (q + 3) 1 (some ⟨q + 1 + 1,0,none⟩) 4 (bv [103,111,105,116]):=reads_new _ _ _ _ 4 _ _ (by rfl) (by omega) (by omega) _ (by simp[bv])
 have hs3:(w2.alloc (cL #[X .u8 103,X .u8 111,X .u8 105,X .u8 116] 5 (4,5))).heap.size=q + 3:=by simp[hs2]
 have hb13:Below (q + 1) w1 (w2.alloc (cL #[X .u8 103,X .u8 111,X .u8 105,X .u8 116] 5 (4,5))):=hbw.trans (hb23.mono (by omega))
 generalize w2.alloc (cL #[X .u8 103,X .u8 111,X .u8 105,X .u8 116] 5 (4,5))=w3 at *
 have C1:=raw_any (q + 1) (q + 1) (q + 3) (some ⟨q + 1 + 1,0,none⟩) 4 4 [103,111,105,116] [] w3 (by simp) hwb3 (by omega) hr3
 refine C1.mono ?_
 rintro e w4 ⟨rfl,hwb4,hb34⟩
 rw[List.nil_append] at hwb4
 have hb14:=hb13.trans hb34
 have HF4:=hb1.below hb14 (by omega)
 obtain⟨c0,c1,c2⟩:=HF4.c3
 have hs4:=hb34.size
 clear C1 hr3 hb23 hwb3 hb13 hbw hwb hs2
 have C2:=jH (u8w_any (q + 1) (q + 1) (k:Int) _ w4 (by simp) hwb4 (by omega))
 rw[u64n_nat k (by omega)] at C2
 go_wp2_with fail
 refine C2.out.mono ?_
 rintro e w5 ⟨rfl,hwb5,hb45⟩
 have hs5:=hb45.size
 have hb15:=hb14.trans hb45
 clear C2 hwb4 hb14 hb34 hb45 HF4 c0 c1 c2
 have HF5:=hb1.below hb15 (by omega)
 obtain⟨-,c1⟩:=HF5.c2
 have C3:=jH (u8w_any (q + 1) (q + 1) (v:Int) _ w5 (by simp[be_length]) hwb5 (by omega))
 rw[u64n_nat v (by omega)] at C3
 go_wp2_with fail
 refine C3.out.mono ?_
 rintro e w6 ⟨rfl,hwb6,hb56⟩
 have hs6:=hb56.size
 have hb16:=hb15.trans hb56
 clear C3 hwb5 hb15 hb56 HF5 c1
 have HF6:=hb1.below hb16 (by omega)
 obtain⟨-,-,c2⟩:=HF6.c3
 have C4:=jH (u16w_any (q + 1) (q + 1) (n:Int) _ w6 (by simp[be_length]) hwb6 (by omega))
 rw[u64n_nat n (by omega),show [103,111,105,116]++be k 1++be v 1++be n 2=frmHd k v n from rfl] at C4
 go_wp2_with fail
 refine C4.out.mono ?_
 rintro e w7 ⟨rfl,hwb7,hb67⟩
 have hs7:=hb67.size
 have hb17:=hb16.trans hb67
 clear C4 hwb6 hb16 hb67 HF6 c2
 have C5:=jH (bytes_any (q + 1) (q + 1) _ w7 hwb7 (by rw[frmHd_length];omega))
 go_wp2_with fail
 refine C5.out.mono ?_
 rintro e w8 ⟨A8,c8,rfl,hown8,hb78⟩
 have hwb8:=hwb7.below hb78
 have hs8:=hb78.size
 have C6:=jH (crc_any w8 w8.heap.size A8 _ c8 _ (Reads.of_own hown8) (by rw[frmHd_length];omega) (frmHd_all k v n))
 have hb18:=hb17.trans (hb78.mono (by omega))
 clear C5 hwb7 hown8 hb17 hb78
 go_wp2_with fail
 refine C6.out.mono ?_
 rintro e w9 ⟨rfl,rfl⟩
 clear C6
 have hcl:∀m:List Nat,AllB m→crcN m < 4294967296:=fun m hm=>by unfold crcN;omega
 have C7:=jH (u32_any (q + 1) (q + 1) (crcN (frmHd k v n)) _ w8 (hcl _ (frmHd_all _ _ _)) (by rw[frmHd_length];omega) hwb8 (by omega))
 go_wp2_with fail
 refine C7.out.mono ?_
 rintro e w9 ⟨rfl,hwb9,hb89⟩
 have hs9:=hb89.size
 have hb19:=hb18.trans hb89
 clear C7 hwb8 hb18 hb89
 have HF9:=hb1.below hb19 (by omega)
 obtain⟨-,-,c2⟩:=HF9.c3
 have hr9:=H.out.2.2.below (hb19.mono (by omega))
 have C8:=jH (crc_any w9 B A n c l hr9 (by omega) ha)
 go_wp2_with fail
 refine C8.out.mono ?_
 rintro e w10 ⟨rfl,rfl⟩
 have C9:=jH (u32_any (q + 1) (q + 1) (crcN l) _ w9 (hcl _ ha) (by rw[List.length_append,be_length,frmHd_length];omega) hwb9 (by omega))
 clear C8 hr9 HF9 c2
 go_wp2_with fail
 refine C9.out.mono ?_
 rintro e w10 ⟨rfl,hwb10,hb910⟩
 have hs10:=hb910.size
 have hb110:=hb19.trans hb910
 clear C9 hwb9 hb19 hb910
 have HF10:=hb1.below hb110 (by omega)
 obtain⟨-,-,c2⟩:=HF10.c3
 have hr10:=H.out.2.2.below (hb110.mono (by omega))
 have hfb:frmHd k v n++be (crcN (frmHd k v n)) 4++be (crcN l) 4++l=frameB k v l:=by unfold frameB;rw[hln]
 have C10:=jH (raw_any (q + 1) (q + 1) B A n c l _ w10 (by simp only[List.length_append,be_length,frmHd_length];omega) hwb10 (by omega) hr10)
 rw[hfb] at C10
 go_wp2_with fail
 refine C10.out.mono ?_
 rintro e w11 ⟨rfl,hwb11,hb1011⟩
 have hs11:=hb1011.size
 have hb111:=hb110.trans hb1011
 clear C10 hwb10 hb110 hb1011 HF10 c2 hr10
 have C11:=jH (bytes_any (q + 1) (q + 1) _ w11 hwb11 (by rw[frameB_length];omega))
 have hfl:(frameB k v l).length=n + 16:=by rw[frameB_length,hln]
 rw[hfl] at C11
 go_wp2_with fail
 refine C11.out.mono ?_
 rintro e w12 ⟨A12,c12,rfl,hown12,hb1112⟩
 have hB0:w.heap.size≤w11.heap.size:=by have:=HQ.out;omega
 have HE:=jH (aI (ownsRow_mono hown12 hB0) ((H.out.2.1.trans (hb111.mono (by omega))).trans (hb1112.mono (by omega))))
 clear C11 hwb11 hb111 hown12 hb1112
 go_wp2_with fail
 go_ret2
 exact⟨A12,c12,rfl,HE.out.1,HQ.out▸HE.out.2⟩
theorem bclone_any (A:Option Addr)(n c B:Nat)(l:List Nat)(w:World)(hr:Reads w B 1 A n (bv l))(hB:B≤w.heap.size)(hn0:0 < n)(hn:n≤1000000):
  Calls Pg 407 #[G A n c] w fun e w'=>∃A' c',e=rT (G A' n c')∧w'.ownsRow w.heap.size 5 1 (G A' n c') n (bv l)∧Below w.heap.size w w':=by
 obtain⟨ad,_,hA,_⟩:=bytes_at hr (j:=0) hn0
 subst hA
 have q22:∀(W:World) (a:Option Addr) (n c n' c':Nat),(binOp .eql 23 (G a n c) (G none n' c')).run Pg W=.ok (.bool a.isNone) W:=fun W a n c n' c'=>Lib.run_eql_slice_nil W _ _ a n c n' c' underlying23
 have hr1:=hr.alloc hB (cL #[] 5)
 have ho1:(w.alloc (cL #[] 5)).ownsRow w.heap.size 5 1 (G (some ⟨w.heap.size,0,none⟩) 0 0) 0 (bv []):=World.ownsRow_made w #[] 0 (nR _) (Nat.zero_le _) rfl
 have hlen:=hr.length
 have HR:=jH (aI hr1 (aI ho1 hlen))
 clear hr hr1 ho1 hlen
 go_enter func407,ntmps407
 go_wp2_with (at_builtin;refine stop_ ?_)
 refine on_ ?_
 refine wpList_append_b rfl (.tmp 5) (.tmp 6) _ rfl 5 infoB underlying23 w.heap.size (G (some ⟨w.heap.size,0,none⟩) 0 0) 0 [] rfl HR.out.2.1 B (some ad) n c l rfl HR.out.1 n (by omega) (by omega) (by simp) ?_
 intro A3 c3 w4 hown4 hbl4 hg4 hblk4
 go_wp2_with fail
 go_ret
 refine⟨A3,c3,rfl,by simpa using hown4,((bR _ w).alloc (nR _) _).trans hbl4⟩
theorem allB_nil:AllB []:=fun x hx=>by simp at hx
theorem allB_be {n k:Nat}{r:List Nat}(h:AllB r):AllB (be n k++r):=allB_append (be_all _ _) h
theorem mark_S:strB [103,111,105,116]=(⟨#[103,111,105,116]⟩:ByteArray):=by decide
def hd16 (k v n:Nat)(l:List Nat):List Nat:=be k 1++(be v 1++(be n 2++(be (crcN (frmHd k v n)) 4++(be (crcN l) 4++[]))))
theorem frame_cut (k v:Nat)(l rest:List Nat):(frameB k v l++rest).take 16=[103,111,105,116]++hd16 k v l.length l:=by
 have e:frameB k v l++rest=([103,111,105,116]++hd16 k v l.length l)++(l++rest):=by simp[frameB,frmHd,hd16]
 have h:([103,111,105,116]++hd16 k v l.length l).length=16:=by simp[hd16,be_length]
 rw[e,List.take_append_of_le_length (by omega),List.take_of_length_le (by omega)]
theorem frame_cut8 (k v:Nat)(l rest:List Nat):(frameB k v l++rest).take 8=frmHd k v l.length:=by
 have e:frameB k v l++rest=frmHd k v l.length++(be (crcN (frmHd k v l.length)) 4++be (crcN l) 4++l++rest):=by simp[frameB]
 have h:=frmHd_length k v l.length
 rw[e,List.take_append_of_le_length (by omega),List.take_of_length_le (by omega)]
theorem frame_body (k v:Nat)(l rest:List Nat):((frameB k v l++rest).drop 16).take l.length=l:=by
 have e:frameB k v l++rest=(frmHd k v l.length++be (crcN (frmHd k v l.length)) 4++be (crcN l) 4)++(l++rest):=by simp[frameB]
 have h:(frmHd k v l.length++be (crcN (frmHd k v l.length)) 4++be (crcN l) 4).length=16:=by simp[be_length,frmHd_length]
 rw[e,←h,List.drop_left,List.take_append_of_le_length (nR _),List.take_of_length_le (nR _)]
theorem take_frame (k v:Nat)(l rest:List Nat)(A:Option Addr)(n c B:Nat)(w:World)(hk:k≤255)(hv:v≤255)(hl:l.length≤4096)(hl0:0 < l.length)(ha:AllB l)(har:AllB rest)(hr:Reads w B 1 A n (bv (frameB k v l++rest)))(hB:B≤w.heap.size)(hnc:n≤c)(hn:n≤1048576):
  Calls Pg 303 #[G A n c] w fun e w'=>∃A' c',e=rT (tU #[aG #[X Y k,X Y v,G A' l.length c'],X Y (16 + l.length:Nat),X Y 0])∧w'.ownsRow w.heap.size 5 1 (G A' l.length c') l.length (bv l)∧Below w.heap.size w w':=by
 have hlen:=hr.length
 rw[List.length_append,frameB_length] at hlen
 have hm:16 + l.length≤n:=by omega
 obtain⟨b,off,hA,hbB,hcl⟩:=hr.plain (by omega) (by omega)
 subst hA
 have hr16:=hr.takeb (k:=16) (by omega)
 rw[frame_cut] at hr16
 have hr8:=hr.takeb (k:=8) (by omega)
 rw[frame_cut8] at hr8
 have hrb:=hr.cut (k:=16) (by omega) hnc
 have hrbody:Reads w B 1 (some ⟨b,off + 16,none⟩) l.length (bv l):=by
  have h1:=hr.cut (k:=16) (cap:=c) (by omega) hnc
  rw[if_neg (by omega),Nat.mul_one] at h1
  have h2:(bv (frameB k v l++rest)).drop 16=bv ((frameB k v l++rest).drop 16):=by simp[bv]
  rw[h2] at h1
  have h3:=h1.takeb (k:=l.length) (by omega)
  rw[frame_body] at h3
  exact h3
 obtain⟨q,hq⟩:∃q,q=w.heap.size:=⟨_,rfl⟩
 have hb0:=Blk.new w 284 #[X Y 0,X Y 0,G none 0 0]
 have hbl0:=(bR q w).alloc (by omega) (cL #[X Y 0,X Y 0,G none 0 0] 284)
 have r16:=hr16.alloc hB (cL #[X Y 0,X Y 0,G none 0 0] 284)
 have r8:=hr8.alloc hB (cL #[X Y 0,X Y 0,G none 0 0] 284)
 have rbo:=hrbody.alloc hB (cL #[X Y 0,X Y 0,G none 0 0] 284)
 have hsz:(w.alloc (cL #[X Y 0,X Y 0,G none 0 0] 284)).heap.size=q + 1:=by rw[hq];simp
 rw[←hq] at hb0 hB
 have hc16:¬c=16:=by omega
 have hc8:¬c=8:=by omega
 have hcl8:16≤c:=by omega
 have hll:l.length≤n:=by omega
 clear hr hr16 hr8 hrb hrbody hcl hlen
 have hcr:crcN (frmHd k v l.length) < 4294967296:=crcN_lt _
 have hcr2:crcN l < 4294967296:=crcN_lt _
 go_enter func303,ntmps303
 go_wp2_with fail
 rw[←hq]
 have HE:=jH hq
 clear hq
 generalize w.alloc (cL #[X Y 0,X Y 0,G none 0 0] 284)=w1 at *
 have CN:=jH (newreader_any (some ⟨b,off,none⟩) 16 c B _ w1 r16 (by omega) (by omega) (fun e=>by cases e))
 try rw[show ((16:Nat):Int)=16 from rfl] at CN
 have H1:=jH (aI hb0 (aI hbl0 (aI r8 rbo)))
 clear hb0 hbl0 r16 r8 rbo
 refine CN.out.mono ?_
 rintro e w2 ⟨p,rfl,hp,hrb,hb2⟩
 have H2:Hid (RBuf w2 p ([103,111,105,116]++hd16 k v l.length l)∧q < p∧Blk w2 q 284 #[X Y 0,X Y 0,G none 0 0]∧Below q w w2∧Reads w2 B 1 (some ⟨b,off,none⟩) 8 (bv (frmHd k v l.length))∧Reads w2 B 1 (some ⟨b,off + 16,none⟩) l.length (bv l)):=⟨hrb,by omega,H1.out.1.below hb2 (by omega),H1.out.2.1.trans (hb2.mono (by omega)),H1.out.2.2.1.below (hb2.mono (by omega)),H1.out.2.2.2.below (hb2.mono (by omega))⟩
 clear hrb hb2 CN H1
 go_wp2_with fail
 refine(raw_take p 4 _ w2 (by simp[hd16,be_length]) (by omega) (by simp[hd16,be_length]) H2.out.1).mono ?_
 rintro e w3 ⟨A3,c3,rfl,hown3,hrb,hbb⟩
 have H3:Hid (RBuf w3 p (be k 1++(be v 1++(be l.length 2++(be (crcN (frmHd k v l.length)) 4++(be (crcN l) 4++[])))))∧q < p∧Blk w3 q 284 #[X Y 0,X Y 0,G none 0 0]∧Below q w w3∧Reads w3 B 1 (some ⟨b,off,none⟩) 8 (bv (frmHd k v l.length))∧Reads w3 B 1 (some ⟨b,off + 16,none⟩) l.length (bv l)):=by
  obtain⟨-,g2,g3,g4,g5,g6⟩:=H2.out
  exact⟨hrb,g2,g3.below hbb g2,g4.trans (hbb.mono (Nat.le_of_lt g2)),g5.below (hbb.mono (by omega)),g6.below (hbb.mono (by omega))⟩
 have hcv:=run_string_back (P:=Pg) (c:=c3) 23 9 5 underlying23 underlying5 underlying9 (l:=[103,111,105,116]) (Reads.of_own hown3) (by intro x hx;simp at hx;omega)
 rw[mark_S] at hcv
 clear hown3
 clear hrb hbb H2
 go_wp2_with fail
 clear hcv
 refine(u8b p k (be v 1++(be l.length 2++(be (crcN (frmHd k v l.length)) 4++(be (crcN l) 4++[])))) w3 (by omega) (by simp[be_length]) (allB_be (allB_be (allB_be (allB_be allB_nil)))) H3.out.1).mono ?_
 rintro e w4 ⟨rfl,hrb,hbb⟩
 have H4:Hid (RBuf w4 p (be v 1++(be l.length 2++(be (crcN (frmHd k v l.length)) 4++(be (crcN l) 4++[]))))∧q < p∧Blk w4 q 284 #[X Y 0,X Y 0,G none 0 0]∧Below q w w4∧Reads w4 B 1 (some ⟨b,off,none⟩) 8 (bv (frmHd k v l.length))∧Reads w4 B 1 (some ⟨b,off + 16,none⟩) l.length (bv l)):=by
  obtain⟨-,g2,g3,g4,g5,g6⟩:=H3.out
  exact⟨hrb,g2,g3.below hbb g2,g4.trans (hbb.mono (Nat.le_of_lt g2)),g5.below (hbb.mono (by omega)),g6.below (hbb.mono (by omega))⟩
 clear hrb hbb H3
 go_wp2_with fail
 refine(u8b p v (be l.length 2++(be (crcN (frmHd k v l.length)) 4++(be (crcN l) 4++[]))) w4 (by omega) (by simp[be_length]) (allB_be (allB_be (allB_be allB_nil))) H4.out.1).mono ?_
 rintro e w5 ⟨rfl,hrb,hbb⟩
 have H5:Hid (RBuf w5 p (be l.length 2++(be (crcN (frmHd k v l.length)) 4++(be (crcN l) 4++[])))∧q < p∧Blk w5 q 284 #[X Y 0,X Y 0,G none 0 0]∧Below q w w5∧Reads w5 B 1 (some ⟨b,off,none⟩) 8 (bv (frmHd k v l.length))∧Reads w5 B 1 (some ⟨b,off + 16,none⟩) l.length (bv l)):=by
  obtain⟨-,g2,g3,g4,g5,g6⟩:=H4.out
  exact⟨hrb,g2,g3.below hbb g2,g4.trans (hbb.mono (Nat.le_of_lt g2)),g5.below (hbb.mono (by omega)),g6.below (hbb.mono (by omega))⟩
 clear hrb hbb H4
 go_wp2_with fail
 refine(u16b p l.length (be (crcN (frmHd k v l.length)) 4++(be (crcN l) 4++[])) w5 (by omega) (by simp[be_length]) (allB_be (allB_be allB_nil)) H5.out.1).mono ?_
 rintro e w6 ⟨rfl,hrb,hbb⟩
 have H6:Hid (RBuf w6 p (be (crcN (frmHd k v l.length)) 4++(be (crcN l) 4++[]))∧q < p∧Blk w6 q 284 #[X Y 0,X Y 0,G none 0 0]∧Below q w w6∧Reads w6 B 1 (some ⟨b,off,none⟩) 8 (bv (frmHd k v l.length))∧Reads w6 B 1 (some ⟨b,off + 16,none⟩) l.length (bv l)):=by
  obtain⟨-,g2,g3,g4,g5,g6⟩:=H5.out
  exact⟨hrb,g2,g3.below hbb g2,g4.trans (hbb.mono (Nat.le_of_lt g2)),g5.below (hbb.mono (by omega)),g6.below (hbb.mono (by omega))⟩
 clear hrb hbb H5
 go_wp2_with fail
 refine(u32b p (crcN (frmHd k v l.length)) (be (crcN l) 4++[]) w6 hcr (by simp[be_length]) (allB_be allB_nil) H6.out.1).mono ?_
 rintro e w7 ⟨rfl,hrb,hbb⟩
 have H7:Hid (RBuf w7 p (be (crcN l) 4++[])∧q < p∧Blk w7 q 284 #[X Y 0,X Y 0,G none 0 0]∧Below q w w7∧Reads w7 B 1 (some ⟨b,off,none⟩) 8 (bv (frmHd k v l.length))∧Reads w7 B 1 (some ⟨b,off + 16,none⟩) l.length (bv l)):=by
  obtain⟨-,g2,g3,g4,g5,g6⟩:=H6.out
  exact⟨hrb,g2,g3.below hbb g2,g4.trans (hbb.mono (Nat.le_of_lt g2)),g5.below (hbb.mono (by omega)),g6.below (hbb.mono (by omega))⟩
 clear hrb hbb H6
 go_wp2_with fail
 refine(u32b p (crcN l) [] w7 hcr2 (by simp) allB_nil H7.out.1).mono ?_
 rintro e w8 ⟨rfl,hrb,hbb⟩
 have H8:Hid (RBuf w8 p ([])∧q < p∧Blk w8 q 284 #[X Y 0,X Y 0,G none 0 0]∧Below q w w8∧Reads w8 B 1 (some ⟨b,off,none⟩) 8 (bv (frmHd k v l.length))∧Reads w8 B 1 (some ⟨b,off + 16,none⟩) l.length (bv l)):=by
  obtain⟨-,g2,g3,g4,g5,g6⟩:=H7.out
  exact⟨hrb,g2,g3.below hbb g2,g4.trans (hbb.mono (Nat.le_of_lt g2)),g5.below (hbb.mono (by omega)),g6.below (hbb.mono (by omega))⟩
 clear hrb hbb H7
 go_wp2_with fail
 refine(crc_any w8 B (some ⟨b,off,none⟩) 8 c _ H8.out.2.2.2.2.1 (by omega) (frmHd_all _ _ _)).mono ?_
 rintro e w9 ⟨rfl,rfl⟩
 go_wp2_with fail
 refine(bclone_any (some ⟨b,off + 16,none⟩) l.length (c - 16) B l w8 H8.out.2.2.2.2.2 (by have:=H8.out.2.2.1.lt;omega) hl0 (by omega)).mono ?_
 rintro e w9 ⟨A9,c9,rfl,hown9,hb9⟩
 have H9:Hid (Blk w9 q 284 #[X Y 0,X Y 0,G none 0 0]∧Below q w w9∧w9.ownsRow q 5 1 (G A9 l.length c9) l.length (bv l)):=by
  obtain⟨-,g2,g3,g4,-⟩:=H8.out
  exact⟨g3.below hb9 g3.lt,g4.trans (hb9.mono (Nat.le_of_lt g3.lt)),own_base hown9 (Nat.le_of_lt g3.lt)⟩
 clear hb9 hown9 H8
 go_wp2_with fail
 refine(crc_any w9 _ A9 l.length c9 l (Reads.of_own H9.out.2.2) (by omega) ha).mono ?_
 rintro e w10 ⟨rfl,rfl⟩
 obtain⟨s0,s1,s2⟩:=H9.out.1.c3
 obtain⟨z0,z1,z2⟩:=H9.out.1.f3
 go_wp2_with fail
 have n5:=((H9.out.1.set_ 0 (X Y k)).set_ 1 (X Y v)).set_ 2 (G A9 l.length c9)
 have o5:=own_set_far (own_set_far (own_set_far H9.out.2.2 H9.out.1 (by decide) 0 (X Y k)) (H9.out.1.set_ 0 (X Y k)) (by decide) 1 (X Y v)) ((H9.out.1.set_ 0 (X Y k)).set_ 1 (X Y v)) (by decide) 2 (G A9 l.length c9)
 have d0:=n5.cell 0
 have d1:=n5.cell 1
 have d2:=n5.cell 2
 refine bodyPost_ret (v:=tU #[aG #[X Y k,X Y v,G A9 l.length c9],X Y (16 + l.length:Nat),X Y 0]) (by simp[results,results303,go_sem,d0,d1,d2]) rfl ?_
 exact⟨A9,c9,rfl,HE.out▸o5,HE.out▸(((H9.out.2.1.setCell (p:=⟨q,0,none⟩) (nR _) _).setCell (p:=⟨q,1,none⟩) (nR _) _).setCell (p:=⟨q,2,none⟩) (nR _) _)⟩
def dig (n k j:Nat):Nat:=if 6 - k < j then 48 + n / 10 ^ (6 - j) % 10 else 0
def nameK (n k:Nat):List Nat:=[115,dig n k 1,dig n k 2,dig n k 3,dig n k 4,dig n k 5,dig n k 6]
def nameS (n:Nat):ByteArray:=strB (nameK n 6)
theorem name_step (n k:Nat)(hk:k < 6):(bv (nameK n k)).toArray.setIfInBounds (6 - k) (X .u8 (48 + n / 10 ^ k % 10:Nat))=(bv (nameK n (k + 1))).toArray:=by
 have:k=0∨k=1∨k=2∨k=3∨k=4∨k=5:=by omega
 rcases this with rfl|rfl|rfl|rfl|rfl|rfl<;>simp[bv,nameK,dig]
theorem reads_row {w:World}{q n:Nat}{t:TypeId}{xs:List Value}(h:Blk w q t xs.toArray)(hn:xs.length=n):Reads w (q + 1) 1 (some ⟨q,0,none⟩) n xs:=by
 refine⟨by omega,fun _=>⟨⟨q,0,none⟩,rfl,by simp,fun j u hu=>?_⟩⟩
 have:(⟨q,0,none⟩:Addr).add j=⟨q,j,none⟩:=by unfold Addr.add;split<;>simp_all
 rw[this,h.cell j]
 simpa using hu
theorem name_any (n:Nat)(h1:1≤n)(h2:n < 1000000)(w:World):
  Calls Pg 173 #[X Y n] w fun e w'=>e=rT (.string (nameS n))∧Below w.heap.size w w':=by
 have d1:decide ((n:Int) < 1)=false:=decide_eq_false (by omega)
 have d2:decide ((1000000:Int)≤(n:Int))=false:=decide_eq_false (by omega)
 have hmk:∀W:World,(Instr.makeSlice 23 (X Y 7) (X Y 7)).run Pg W=.ok (G (some ⟨W.heap.size,0,none⟩) 7 7) (W.alloc (cL #[X .u8 0,X .u8 0,X .u8 0,X .u8 0,X .u8 0,X .u8 0,X .u8 0] 5)):=fun _=>by kernel_rfl
 obtain⟨q,hq⟩:∃q,q=w.heap.size:=⟨_,rfl⟩
 have hmk1:=hmk w
 rw[←hq] at hmk1
 have hb0:=Blk.new w 5 #[X .u8 0,X .u8 0,X .u8 0,X .u8 0,X .u8 0,X .u8 0,X .u8 0]
 have hbl0:=(bR q w).alloc (by omega) (cL #[X .u8 0,X .u8 0,X .u8 0,X .u8 0,X .u8 0,X .u8 0,X .u8 0] 5)
 rw[←hq] at hb0
 generalize w.alloc (cL #[X .u8 0,X .u8 0,X .u8 0,X .u8 0,X .u8 0,X .u8 0,X .u8 0] 5)=w1 at *
 have c0:=hb0.c1
 have f0:=hb0.frozen 0
 have l0:=hb0.lt
 have H:=jH (aI hb0 (aI hbl0 hq))
 clear hmk hb0 hbl0 hq
 go_enter func173,ntmps173
 go_wp2_with fail
 go_loopw [0,4] (fun x i wr=>∃k:Nat,k≤6∧x=X Y (n / 10 ^ k:Nat)∧i=X Y (6 - k:Nat)∧Blk wr q 5 (bv (nameK n k)).toArray∧Below q w wr) (fun _ i _=>(intOf i).toNat)
 case atStart=>exact⟨0,by omega,by simp,rfl,H.out.1.set_ 0 (X .u8 115),H.out.2.1.setCell (p:=⟨q,0,none⟩) (nR _) _⟩
 case round=>
  obtain⟨k,hk,rfl,rfl,hbk,hbl⟩:=hrel
  by_cases hk6:k < 6
  ·have hstep:=name_step n k hk6
   have hm:n / 10 ^ k < 1000000:=Nat.lt_of_le_of_lt (Nat.div_le_self _ _) h2
   have hdd:n / 10 ^ (k + 1)=n / 10 ^ k / 10:=by rw[Nat.pow_succ,Nat.div_div_eq_div_mul]
   have HN:=jH hdd
   clear hdd
   generalize hmm:n / 10 ^ k=m at *
   obtain⟨i,hi⟩:∃i,6 - k=i:=⟨_,rfl⟩
   rw[hi] at hstep⊢
   have i0:0 < i:=by omega
   have e0:decide ((0:Int) < (i:Int))=true:=decide_eq_true (by omega)
   have e1:(m:Int).tmod 10=((m % 10:Nat):Int):=by rw[Int.tmod_eq_emod_of_nonneg (by omega)];omega
   have e2:IntKind.i64.wrap (48 + ((m % 10:Nat):Int))=((48 + m % 10:Nat):Int):=by rw[IntWalk.i64_in _ (by omega)];omega
   have e3:IntKind.u8.wrap ((48 + m % 10:Nat):Int)=((48 + m % 10:Nat):Int):=by rw[IntKind.wrap_u8'];omega
   have e4:(m:Int).tdiv 10=((m / 10:Nat):Int):=by rw[Int.tdiv_eq_ediv_of_nonneg (by omega)];omega
   have e5:IntKind.i64.wrap ((i:Int) - 1)=((i - 1:Nat):Int):=by rw[IntWalk.i64_in _ (by omega)];omega
   have e6:IntKind.i64.wrap ((m / 10:Nat):Int)=((m / 10:Nat):Int):=by rw[IntWalk.i64_in _ (by omega)]
   have e7:IntKind.i64.wrap ((m % 10:Nat):Int)=((m % 10:Nat):Int):=by rw[IntWalk.i64_in _ (by omega)]
   have hi7:i < 7:=by omega
   obtain⟨x0,gi⟩:∃x0:Int,wr.cell? ⟨q,i,none⟩=some (X .u8 x0):=⟨_,by rw[hbk.cell i,ga,bv_get (show i < (nameK n k).length from by simp[nameK];omega)]⟩
   have fi:=hbk.frozen i
   have li:=hbk.lt
   have HB:=jH (aI hbk (aI hbl (aI hstep hi)))
   clear hbk hbl hstep c0 f0 l0
   go_wp2_with fail
   go_roundw
   case rel=>
    obtain⟨hbk,hbl,hstep,hi⟩:=HB.out
    refine⟨k + 1,by omega,?_,?_,?_,hbl.setCell (p:=⟨q,i,none⟩) (nR _) _⟩
    ·rw[HN.out];congr 1
    ·congr 1;omega
    ·have:=hbk.set_ i (X .u8 (48 + (m:Int) % 10))
     rw[←hstep]
     have e:((48 + m % 10:Nat):Int)=48 + (m:Int) % 10:=by omega
     rw[e]
     exact this
   case measure=>simp[intOf];omega
  ·have hk0:k=6:=by omega
   subst hk0
   have hcv:=run_string_back (P:=Pg) (c:=7) 23 9 5 underlying23 underlying5 underlying9
    (reads_row hbk (by simp[bv,nameK]):Reads wr (q + 1) 1 (some ⟨q,0,none⟩) 7 (bv (nameK n 6))) (by
     intro x hx
     simp[nameK,dig] at hx
     omega)
   have e0:decide ((0:Int) < ((0:Nat):Int))=false:=rfl
   have HE:=jH (aI H.out.2.2 hbl)
   clear hbk hbl c0 f0 l0 H
   simp only[Nat.sub_self] at *
   go_wp2_with fail
   go_ret
   exact⟨rfl,HE.out.1▸HE.out.2⟩
def fnvs (L:List (Nat×Array Value)):List Value:=L.map fun p=>Value.func (.func p.1) #[] p.2
theorem all_ok (L:List (Nat×Array Value))(A:Option Addr)(n c B:Nat)(J:Nat→World→Prop)(w:World)(hn:L.length=n)(hn2:n≤1000)(hL:∀p∈L,∀args w,(callFunc p.1 args).run Pg w=.ok (.enter p.1 args) w)
  (hr:∀i W,J i W→Reads W B 1 A n (fnvs L))(hJ:J 0 w)(hstep:∀(i:Nat) (hi:i < L.length) (W:World),J i W→Calls Pg L[i].1 L[i].2 W fun e w'=>e=rT (X Y 0)∧J (i + 1) w'):
  Calls Pg 168 #[G A n c] w fun e w'=>e=rT (X Y 0)∧J n w':=by
 go_enter func168,ntmps168
 go_wp2_with fail
 go_loopw [8] (fun i wr=>∃k:Nat,k≤n∧i=X Y k∧J k wr) (fun i _=>n - (intOf i).toNat)
 case atStart=>exact⟨0,by omega,rfl,hJ⟩
 case round=>
  obtain⟨k,hk,rfl,hJk⟩:=hrel
  by_cases hkn:k < n
  ·obtain⟨b,off,e,hb,hc⟩:=(hr k wr hJk).plain (by omega) (by omega)
   have hkl:k < L.length:=by omega
   have hcell:=hc k _ (by unfold fnvs;rw[List.getElem?_map,List.getElem?_eq_getElem hkl];rfl)
   have hcall:=hstep k hkl wr hJk
   have eg:=hL L[k] (List.getElem_mem hkl)
   generalize L[k]=p at *
   obtain⟨g,lb⟩:=p
   dsimp only at hcell hcall eg
   subst e
   have e3:decide ((k:Int) < (n:Int))=true:=decide_eq_true (by omega)
   clear hc hr hstep hL hJ hJk
   go_wp2_with (go_at_fn g;refine hcall.mono ?_;rintro e w' ⟨rfl,hJ'⟩)
   go_roundw
   case rel=>exact⟨k + 1,by omega,by go_num,hJ'⟩
   case measure=>simp[intOf];omega
  ·have hkk:k=n:=by omega
   have e3:decide ((n:Int) < (n:Int))=false:=decide_eq_false (by omega)
   subst hkk
   clear hr hstep hL hJ
   go_wp2_with fail
   go_ret
   exact⟨rfl,hJk⟩
def fnvs2 (L:List (Nat×Array Value×Array Value)):List Value:=L.map fun p=>Value.func (.func p.1) p.2.1 p.2.2
theorem all_ok2 (L:List (Nat×Array Value×Array Value))(A:Option Addr)(n c B:Nat)(J:Nat→World→Prop)(w:World)(hn:L.length=n)(hn2:n≤1000)(hL:∀p∈L,∀args w,(callFunc p.1 args).run Pg w=.ok (.enter p.1 args) w)
  (hr:∀i W,J i W→Reads W B 1 A n (fnvs2 L))(hJ:J 0 w)(hstep:∀(i:Nat) (hi:i < L.length) (W:World),J i W→Calls Pg L[i].1 (L[i].2.1++L[i].2.2) W fun e w'=>e=rT (X Y 0)∧J (i + 1) w'):
  Calls Pg 168 #[G A n c] w fun e w'=>e=rT (X Y 0)∧J n w':=by
 go_enter func168,ntmps168
 go_wp2_with fail
 go_loopw [8] (fun i wr=>∃k:Nat,k≤n∧i=X Y k∧J k wr) (fun i _=>n - (intOf i).toNat)
 case atStart=>exact⟨0,by omega,rfl,hJ⟩
 case round=>
  obtain⟨k,hk,rfl,hJk⟩:=hrel
  by_cases hkn:k < n
  ·obtain⟨b,off,e,hb,hc⟩:=(hr k wr hJk).plain (by omega) (by omega)
   have hkl:k < L.length:=by omega
   have hcell:=hc k _ (by unfold fnvs2;rw[List.getElem?_map,List.getElem?_eq_getElem hkl];rfl)
   have hcall:=hstep k hkl wr hJk
   have eg:=hL L[k] (List.getElem_mem hkl)
   generalize L[k]=p at *
   obtain⟨g,pre,lb⟩:=p
   dsimp only at hcell hcall eg
   subst e
   have e3:decide ((k:Int) < (n:Int))=true:=decide_eq_true (by omega)
   clear hc hr hstep hL hJ hJk
   go_wp2_with (go_at_fn g;refine hcall.mono ?_;rintro e w' ⟨rfl,hJ'⟩)
   go_roundw
   case rel=>exact⟨k + 1,by omega,by go_num,hJ'⟩
   case measure=>simp[intOf];omega
  ·have hkk:k=n:=by omega
   have e3:decide ((n:Int) < (n:Int))=false:=decide_eq_false (by omega)
   subst hkk
   clear hr hstep hL hJ
   go_wp2_with fail
   go_ret
   exact⟨rfl,hJk⟩
end
section
open Go.RowKit Go.Maps Go.MapKept
open Go.ChangeMaps (setBlock heap_setBlock_same heap_setBlock_other)
section plain
variable {κ ν:Type}[DecidableEq κ]
def mget (m:List (κ×ν))(x:κ):Option ν:=(m.find? (fun p=>p.1=x)).map (·.2)
def mput (m:List (κ×ν))(x:κ)(v:ν):List (κ×ν):=if m.any (fun p=>p.1=x) then m.map (fun p=>if p.1=x then (x,v) else p) else m++[(x,v)]
def mdel (m:List (κ×ν))(x:κ):List (κ×ν):=m.filter (fun p=>¬p.1=x)
def mkeys (m:List (κ×ν)):List κ:=m.map (·.1)
theorem mget_none {m:List (κ×ν)}{x:κ}(h:∀p∈m,p.1≠x):mget m x=none:=by
 unfold mget
 rw[List.find?_eq_none.2 (fun p hp=>by simpa using h p hp)]
 rfl
theorem mget_at {m:List (κ×ν)}(hd:(mkeys m).Nodup){j:Nat}{p:κ×ν}(hp:m[j]? =some p):mget m p.1=some p.2:=by
 obtain⟨hj,rfl⟩:=List.getElem?_eq_some_iff.1 hp
 have:m.find? (fun q=>q.1=m[j].1)=some m[j]:=by
  rw[List.find?_eq_some_iff_getElem]
  refine⟨by simp,j,hj,rfl,fun i hi=>?_⟩
  have hd':=List.pairwise_iff_getElem.1 hd i j (by simpa [mkeys] using (by omega:i < m.length)) (by simpa [mkeys] using hj) hi
  simpa [mkeys] using hd'
 unfold mget
 rw[this]
 rfl
theorem mget_some {m:List (κ×ν)}{x:κ}{v:ν}(h:mget m x=some v):(x,v)∈m:=by
 unfold mget at h
 rw[Option.map_eq_some_iff] at h
 obtain⟨p,hp,rfl⟩:=h
 have h1:=List.mem_of_find?_eq_some hp
 have h2:=List.find?_some hp
 simp at h2
 subst h2
 exact h1
theorem mget_mem {m:List (κ×ν)}(hd:(mkeys m).Nodup){x:κ}{v:ν}(h:(x,v)∈m):mget m x=some v:=by
 obtain⟨j,hj⟩:=List.getElem?_of_mem h
 exact mget_at hd hj
theorem mget_eq_none {m:List (κ×ν)}{x:κ}:mget m x=none↔∀p∈m,p.1≠x:=by
 unfold mget
 rw[Option.map_eq_none_iff,List.find?_eq_none]
 simp
end plain
structure Enc (P:Program)(kt:TypeId){κ:Type}(ek:κ→Value)(ok:κ→Prop):Prop where
 keyed:Keyed P kt
 key:∀x,ok x→∃l,keyOf P kt (ek x)=some l
 inj:∀x y,ek x=ek y→x=y
def MapIs {κ ν:Type}(w:World)(ek:κ→Value)(ok:κ→Prop)(ev:ν→Value)(b:Nat)(m:List (κ×ν)):Prop:=
 ∃es clock,w.heap[b]? =some (.map es clock)∧es.toList.map (fun e=>(e.key,e.val))=m.map (fun p=>(ek p.1,ev p.2))∧Stamped es clock∧∀p∈m,ok p.1
section
variable {κ ν:Type}{P:Program}{kt t e:TypeId}{ek:κ→Value}{ok:κ→Prop}{ev:ν→Value}{w w':World}{b:Nat}{m:List (κ×ν)}
theorem MapIs.lt (h:MapIs w ek ok ev b m):b < w.heap.size:=by
 obtain⟨es,clock,hb,_⟩:=h
 exact(Array.getElem?_eq_some_iff.1 hb).1
theorem MapIs.of_block (h:MapIs w ek ok ev b m)(hb:w'.heap[b]? =w.heap[b]?):MapIs w' ek ok ev b m:=by
 obtain⟨es,clock,h1,h2⟩:=h
 exact⟨es,clock,hb.trans h1,h2⟩
theorem MapIs.below {B:Nat}(h:MapIs w ek ok ev b m)(hb:Below B w w')(hB:b < B):MapIs w' ek ok ev b m:=h.of_block (hb.block b hB)
theorem MapIs.alloc (h:MapIs w ek ok ev b m)(o:Obj):MapIs (w.alloc o) ek ok ev b m:=h.of_block (Below.heap_alloc w o b h.lt)
theorem MapIs.drew (h:MapIs w ek ok ev b m):MapIs w.drew ek ok ev b m:=h
theorem MapIs.made (w:World):MapIs (w.alloc (.map #[] 0)) ek ok ev w.heap.size ([]:List (κ×ν)):=
 ⟨#[],0,(MapKept.heap_alloc w _).1,rfl,stamped_empty 0,fun p hp=>by cases hp⟩
theorem MapIs.ne_blk {g:Nat}{t:TypeId}{cs:Array Value}(h:MapIs w ek ok ev b m)(hg:Blk w g t cs):b≠g:=by
 rintro rfl
 obtain⟨es,clock,hb,_⟩:=h
 unfold Blk at hg
 rw[hb] at hg
 cases hg
theorem ents_at {es:Array MapEntry}(hm:es.toList.map (fun e=>(e.key,e.val))=m.map (fun p=>(ek p.1,ev p.2))){j:Nat}{e0:MapEntry}(h:es.toList[j]? =some e0):∃p,m[j]? =some p∧e0.key=ek p.1∧e0.val=ev p.2:=by
 have h1:(es.toList.map (fun e=>(e.key,e.val)))[j]? =some (e0.key,e0.val):=by rw[List.getElem?_map,h];rfl
 rw[hm,List.getElem?_map,Option.map_eq_some_iff] at h1
 obtain⟨p,hp,he⟩:=h1
 injection he with h2 h3
 exact⟨p,hp,h2.symm,h3.symm⟩
theorem ents_mem {es:Array MapEntry}(hm:es.toList.map (fun e=>(e.key,e.val))=m.map (fun p=>(ek p.1,ev p.2))){e0:MapEntry}(h:e0∈es.toList):∃p∈m,e0.key=ek p.1∧e0.val=ev p.2:=by
 obtain⟨j,hj⟩:=List.getElem?_of_mem h
 obtain⟨p,hp,h1,h2⟩:=ents_at hm hj
 exact⟨p,List.mem_of_getElem? hp,h1,h2⟩
theorem ents_of {es:Array MapEntry}(hm:es.toList.map (fun e=>(e.key,e.val))=m.map (fun p=>(ek p.1,ev p.2))){p:κ×ν}(h:p∈m):∃e0∈es.toList,e0.key=ek p.1∧e0.val=ev p.2:=by
 have h1:(ek p.1,ev p.2)∈m.map (fun p=>(ek p.1,ev p.2)):=List.mem_map.2 ⟨p,h,rfl⟩
 rw[←hm] at h1
 obtain⟨e0,he0,he⟩:=List.mem_map.1 h1
 injection he with h2 h3
 exact⟨e0,he0,h2,h3⟩
theorem ents_keys {es:Array MapEntry}(hm:es.toList.map (fun e=>(e.key,e.val))=m.map (fun p=>(ek p.1,ev p.2))):es.toList.map (·.key)=(mkeys m).map ek:=by
 have:=congrArg (List.map Prod.fst) hm
 simpa [mkeys,List.map_map,Function.comp_def] using this
theorem ents_nodup (E:Enc P kt ek ok){es:Array MapEntry}{clock:Nat}(hm:es.toList.map (fun e=>(e.key,e.val))=m.map (fun p=>(ek p.1,ev p.2)))(hs:Stamped es clock):(mkeys m).Nodup:=by
 have h3:=((stamped_iff es clock).1 hs).2.2
 have hk:(es.toList.map (·.key)).Pairwise (·≠·):=by rw[List.pairwise_map];exact h3
 rw[ents_keys hm,List.pairwise_map] at hk
 exact hk.imp (fun h e=>h (by rw[e]))
theorem MapIs.nodup (E:Enc P kt ek ok)(h:MapIs w ek ok ev b m):(mkeys m).Nodup:=by
 obtain⟨es,clock,hb,hm,hs,hk⟩:=h
 exact ents_nodup E hm hs
theorem ents_ok (E:Enc P kt ek ok){es:Array MapEntry}(hm:es.toList.map (fun e=>(e.key,e.val))=m.map (fun p=>(ek p.1,ev p.2)))(hk:∀p∈m,ok p.1):∀e0∈es.toList,∃l,keyOf P kt e0.key=some l:=by
 intro e0 he0
 obtain⟨p,hp,h1,_⟩:=ents_mem hm he0
 rw[h1]
 exact E.key _ (hk p hp)
theorem MapIs.lookup [DecidableEq κ](h:MapIs w ek ok ev b m)(E:Enc P kt ek ok)(ht:P.underlying t=some (.map kt e)){z:Value}(hz:(zeroValue e).run P w=.ok z w)(x:κ)(hx:ok x)(c:Bool):
  (Instr.lookup t (.map (some b)) (ek x) c).run P w=.ok (match mget m x with|some v=>if c then tU #[ev v,bL true] else ev v|none=>if c then tU #[z,bL false] else z) w:=by
 obtain⟨es,clock,hb,hm,hs,hk⟩:=h
 obtain⟨l,hl⟩:=E.key x hx
 rcases E.keyed.find w hl es.toList (ents_ok E hm hk) with⟨h1,h2⟩|⟨j,e0,h1,h2,h3⟩
 ·rw[mget_none (fun p hp e1=>?_)]
  ·simp[Instr.lookup,run_underlying ht,MapKept.run_getObj_map hb,E.keyed.check w _ hl,h1,hz,Result.andThen]
  ·obtain⟨e0,he0,h4,_⟩:=ents_of hm hp
   exact h2 e0 he0 (by rw[h4,e1])
 ·obtain⟨p,hp,h4,h5⟩:=ents_at hm h2
  have hpx:p.1=x:=E.inj _ _ (h4.symm.trans h3)
  have:=mget_at (ents_nodup E hm hs) hp
  rw[hpx] at this
  rw[this]
  simp[Instr.lookup,run_underlying ht,MapKept.run_getObj_map hb,E.keyed.check w _ hl,h1,Result.andThen,h5]
theorem But.of_set {es:Array MapEntry}{clock:Nat}(hb:w.heap[b]? =some (.map es clock))(o:Obj):But b w (setBlock w b o):=
 ⟨rfl,rfl,rfl,by simp[setBlock],fun k _ hk=>heap_setBlock_other hb _ hk⟩
theorem MapIs.update [DecidableEq κ](h:MapIs w ek ok ev b m)(E:Enc P kt ek ok)(ht:P.underlying t=some (.map kt e))(x:κ)(hx:ok x)(v:ν):
  ∃w',(Instr.mapUpdate t (.map (some b)) (ek x) (ev v)).run P w=.ok () w'∧MapIs w' ek ok ev b (mput m x v)∧But b w w'∧w'.heap.size=w.heap.size:=by
 obtain⟨es,clock,hb,hm,hs,hk⟩:=h
 obtain⟨l,hl⟩:=E.key x hx
 rcases E.keyed.find w hl es.toList (ents_ok E hm hk) with⟨h1,h2⟩|⟨j,e0,h1,h2,h3⟩
 ·have hno:∀p∈m,p.1≠x:=fun p hp e1=>by
   obtain⟨e0,he0,h4,_⟩:=ents_of hm hp
   exact h2 e0 he0 (by rw[h4,e1])
  refine⟨setBlock w b (.map (es.push ⟨ek x,ev v,clock⟩) (clock + 1)),by simp[Instr.mapUpdate,run_underlying ht,MapKept.run_getObj_map hb,E.keyed.check w false hl,h1,MapKept.run_setObj_map _ hb,Result.andThen,setBlock],
   ⟨_,_,heap_setBlock_same hb _,?_,stamped_push hs h2,?_⟩,But.of_set hb _,by simp[setBlock]⟩
  ·have hany:m.any (fun p=>decide (p.1=x))=false:=by
    rw[List.any_eq_false]
    intro p hp
    simpa using hno p hp
   unfold mput
   rw[if_neg (by rw[hany];simp)]
   simp[hm]
  ·intro p hp
   unfold mput at hp
   split at hp
   ·obtain⟨q,hq,rfl⟩:=List.mem_map.1 hp
    split
    ·exact hx
    ·exact hk q hq
   ·rcases List.mem_append.1 hp with hp|hp
    ·exact hk p hp
    ·rw[List.mem_singleton.1 hp];exact hx
 ·obtain⟨p,hp,h4,h5⟩:=ents_at hm h2
  have hpx:p.1=x:=E.inj _ _ (h4.symm.trans h3)
  have hjl:j < es.size:=by have:=(List.getElem?_eq_some_iff.1 h2).1;simpa using this
  have hj:es[j]? =some e0:=by rw[←Array.getElem?_toList];exact h2
  have hpm:p∈m:=List.mem_of_getElem? hp
  have hany:m.any (fun p=>decide (p.1=x))=true:=List.any_eq_true.2 ⟨p,hpm,by simp[hpx]⟩
  have hnd:=ents_nodup E hm hs
  refine⟨setBlock w b (.map (es.modify j fun e=>{e with key:=ek x,val:=ev v}) clock),by simp[Instr.mapUpdate,run_underlying ht,MapKept.run_getObj_map hb,E.keyed.check w false hl,h1,hj,h3,E.keyed.stays w hl,MapKept.run_setObj_map _ hb,Result.andThen,setBlock],
   ⟨_,_,heap_setBlock_same hb _,?_,?_,?_⟩,But.of_set hb _,by simp[setBlock]⟩
  ·unfold mput
   rw[if_pos hany]
   apply List.ext_getElem?
   intro i
   have hmi:=congrArg (fun l=>l[i]?) hm
   simp only[List.getElem?_map] at hmi
   simp only[List.getElem?_map,Array.getElem?_toList,Array.getElem?_modify]
   by_cases hij:j=i
   ·subst hij
    rw[if_pos rfl,hj,hp]
    simp[hpx]
   ·rw[if_neg hij]
    rw[←Array.getElem?_toList,hmi]
    cases hq:m[i]? with
    |none=>rfl
    |some q=>
     have hqx:q.1≠x:=by
      intro e1
      have hi:=(List.getElem?_eq_some_iff.1 hq)
      have hj':=(List.getElem?_eq_some_iff.1 hp)
      obtain⟨hi1,hi2⟩:=hi
      obtain⟨hj1,hj2⟩:=hj'
      have:=(List.getElem_inj (xs:=mkeys m) (i:=j) (j:=i) (h₀:=by simpa [mkeys] using hj1) (h₁:=by simpa [mkeys] using hi1) hnd).1 (by simp[mkeys,hi2,hj2,hpx,e1])
      exact hij this
     simp[hqx]
  ·exact stamped_modify hs j _ (fun _ _=>rfl) (fun e1 _ he1=>by rw[hj] at he1;injection he1 with he1;subst he1;exact h3.symm)
  ·intro q hq
   unfold mput at hq
   rw[if_pos hany] at hq
   obtain⟨q0,hq0,rfl⟩:=List.mem_map.1 hq
   split
   ·exact hx
   ·exact hk q0 hq0
theorem filter_eq_erase [DecidableEq κ]:∀(l:List (κ×ν)) (x:κ) (j:Nat) (p:κ×ν),l[j]? =some p→p.1=x→(mkeys l).Nodup→l.filter (fun p=>¬p.1=x)=l.eraseIdx j
 |[],_,_,_,h,_,_=>by simp at h
 |a::r,x,0,p,h,hx,hd=>by
  simp at h
  subst h
  have hr:r.filter (fun p=>¬p.1=x)=r:=by
   rw[List.filter_eq_self]
   intro q hq
   have:=(List.pairwise_cons.1 hd).1 q.1 (List.mem_map.2 ⟨q,hq,rfl⟩)
   simp[←hx,Ne.symm this]
  simp[hx]
  simpa using hr
 |a::r,x,j + 1,p,h,hx,hd=>by
  have ih:=filter_eq_erase r x j p (by simpa using h) hx (List.pairwise_cons.1 hd).2
  have hp:p∈r:=List.mem_of_getElem? (by simpa using h)
  have:=(List.pairwise_cons.1 hd).1 p.1 (List.mem_map.2 ⟨p,hp,rfl⟩)
  have ha:¬a.1=x:=fun e=>this (e.trans hx.symm)
  rw[List.filter_cons_of_pos (by simpa using ha),ih]
  rfl
theorem MapIs.delete [DecidableEq κ]{ty:TypeId}(h:MapIs w ek ok ev b m)(E:Enc P kt ek ok)(ht:P.underlying t=some (.map kt e))(x:κ)(hx:ok x):
  ∃w',(Builtin.delete_ #[t,kt] ty #[.map (some b),ek x]).run P w=.ok (tU #[]) w'∧MapIs w' ek ok ev b (mdel m x)∧But b w w'∧w'.heap.size=w.heap.size:=by
 obtain⟨es,clock,hb,hm,hs,hk⟩:=h
 obtain⟨l,hl⟩:=E.key x hx
 have hkd:∀p∈mdel m x,ok p.1:=fun p hp=>hk p (List.mem_filter.1 hp).1
 rcases E.keyed.find w hl es.toList (ents_ok E hm hk) with⟨h1,h2⟩|⟨j,e0,h1,h2,h3⟩
 ·have hno:∀p∈m,p.1≠x:=fun p hp e1=>by
   obtain⟨e0,he0,h4,_⟩:=ents_of hm hp
   exact h2 e0 he0 (by rw[h4,e1])
  have hmd:mdel m x=m:=by
   unfold mdel
   rw[List.filter_eq_self]
   intro p hp
   simpa using hno p hp
  refine⟨setBlock w b (.map es clock),by simp[Builtin.delete_,run_underlying ht,MapKept.run_getObj_map hb,E.keyed.check w _ hl,h1,MapKept.run_setObj_map _ hb,Result.andThen,setBlock],
   ⟨_,_,heap_setBlock_same hb _,by rw[hmd];exact hm,hs,hkd⟩,But.of_set hb _,by simp[setBlock]⟩
 ·obtain⟨p,hp,h4,h5⟩:=ents_at hm h2
  have hpx:p.1=x:=E.inj _ _ (h4.symm.trans h3)
  have hjl:j < es.toList.length:=(List.getElem?_eq_some_iff.1 h2).1
  have hjs:j < es.size:=by simpa using hjl
  have hsub:(es.eraseIdxIfInBounds j).toList=es.toList.eraseIdx j:=by
   unfold Array.eraseIdxIfInBounds
   rw[dif_pos hjs]
   simp
  refine⟨setBlock w b (.map (es.eraseIdxIfInBounds j) clock),by simp[Builtin.delete_,run_underlying ht,MapKept.run_getObj_map hb,E.keyed.check w _ hl,h1,MapKept.run_setObj_map _ hb,Result.andThen,setBlock],
   ⟨_,_,heap_setBlock_same hb _,?_,stamped_erase hs j,hkd⟩,But.of_set hb _,by simp[setBlock]⟩
  have he:mdel m x=m.eraseIdx j:=filter_eq_erase m x j p hp hpx (ents_nodup E hm hs)
  rw[hsub,he,Go.ChangeMaps.map_eraseIdx,hm,Go.ChangeMaps.map_eraseIdx]
theorem MapIs.len {ty:TypeId}(h:MapIs w ek ok ev b m)(ht:P.underlying t=some (.map kt e)):(Builtin.len_ #[t] ty #[.map (some b)]).run P w=.ok (X Y m.length) w:=by
 obtain⟨es,clock,hb,hm,hs,hk⟩:=h
 have hl:es.size=m.length:=by
  have:=congrArg List.length hm
  simpa using this
 simp[Builtin.len_,run_underlying ht,MapKept.run_getObj_map hb,Result.andThen,goInt,hl]
end
end
section
open Go.RowKit Go.Maps Go.MapKept
open Go.ChangeMaps (setBlock)
def IterIs {κ ν:Type}(w:World)(ek:κ→Value)(ok:κ→Prop)(ev:ν→Value)(r b:Nat)(m left:List (κ×ν)):Prop:=
 r≠b∧MapIs w ek ok ev b m∧(∀p∈left,p∈m)∧∃es clock seen c0 since,w.heap[r]? =some (.mapIter (some b) since seen c0)∧w.heap[b]? =some (.map es clock)∧since≤c0∧since≤clock∧(∀x∈es.toList,x.born < since)∧(es.toList.map (·.born)).Nodup∧
  (leftOf es seen).toList.map (fun e=>(e.key,e.val))=left.map (fun p=>(ek p.1,ev p.2))
theorem perm_erase {α:Type}:∀(l:List α) (j:Nat) (h:j < l.length),l.Perm (l[j]::l.eraseIdx j)
 |[],_,h=>by simp at h
 |a::r,0,_=>List.Perm.refl _
 |a::r,j + 1,h=>((perm_erase r j (by simpa using h)).cons a).trans (List.Perm.swap _ _ _)
section
variable {κ ν:Type}{P:Program}{kt t e:TypeId}{ek:κ→Value}{ok:κ→Prop}{ev:ν→Value}{w w':World}{r b:Nat}{m left:List (κ×ν)}
theorem heap_set_other {w:World}{b i:Nat}{o:Obj}(h:i≠b):(setBlock w b o).heap[i]? =w.heap[i]?:=by
 unfold setBlock
 simp only
 rw[Array.getElem?_setIfInBounds_ne (Ne.symm h)]
theorem heap_set_same {w:World}{b:Nat}{o:Obj}(h:b < w.heap.size):(setBlock w b o).heap[b]? =some o:=by
 unfold setBlock
 simp only
 rw[Array.getElem?_setIfInBounds_self_of_lt h]
theorem IterIs.kept (h:IterIs w ek ok ev r b m left)(h1:w'.heap[r]? =w.heap[r]?)(h2:w'.heap[b]? =w.heap[b]?):IterIs w' ek ok ev r b m left:=by
 obtain⟨hne,hm,hs,es,clock,seen,c0,since,g1,g2,rest⟩:=h
 exact⟨hne,hm.of_block h2,hs,es,clock,seen,c0,since,h1.trans g1,h2.trans g2,rest⟩
theorem MapIs.range (h:MapIs w ek ok ev b m)(ht:P.underlying t=some (.map kt e)):
  ∃w',(Instr.range t (.map (some b))).run P w=.ok (PT (some ⟨w.heap.size,0,none⟩)) w'∧IterIs w' ek ok ev w.heap.size b m m∧Below w.heap.size w w'∧w'.heap.size=w.heap.size + 1:=by
 have hlt:=h.lt
 have h0:=h
 obtain⟨es,clock,hb,hm,hs,hk⟩:=h
 refine⟨w.alloc (.mapIter (some b) clock #[] clock),?_,⟨by omega,h0.alloc _,fun p hp=>hp,es,clock,#[],clock,clock,(MapKept.heap_alloc w _).1,(Below.heap_alloc w _ b hlt).trans hb,nR _,nR _,((stamped_iff es clock).1 hs).1,((stamped_iff es clock).1 hs).2.1,?_⟩,(bR _ _).alloc (nR _) _,by simp⟩
 ·simp[Instr.range,run_underlying ht,MapKept.run_getObj_map hb,Result.andThen,newObj,Sem.run]
 ·have:leftOf es #[]=es:=by unfold leftOf;simp
  rw[this]
  exact hm
theorem IterIs.next (h:IterIs w ek ok ev r b m left)(ty:TypeId):
  (left=[]∧(Instr.next (PT (some ⟨r,0,none⟩)) false ty).run P w=.ok (tU #[bL false]) w)∨
  ∃p left' w',left.Perm (p::left')∧p∈m∧(Instr.next (PT (some ⟨r,0,none⟩)) false ty).run P w=.ok (tU #[bL true,ek p.1,ev p.2]) w'∧IterIs w' ek ok ev r b m left'∧But r w w'∧w'.heap.size=w.heap.size∧
   (Instr.entry (PT (some ⟨r,0,none⟩))).run P w'=.ok (tU #[ek p.1,ev p.2]) w':=by
 obtain⟨hne,hmap,hsub,es,clock,seen,c0,since,g1,g2,hsc,hscl,hborn,hnd,hleft⟩:=h
 have hlt:r < w.heap.size:=(Array.getElem?_eq_some_iff.1 g1).1
 rcases run_next_at (P:=P) w ty r b since c0 seen es clock g1 g2 hborn hsc with⟨h1,h2⟩|⟨e0,he0,w1,hw1,hrun⟩
 ·left
  refine⟨?_,h2⟩
  have hl:=congrArg List.length hleft
  simp[h1] at hl
  exact List.eq_nil_of_length_eq_zero hl.symm
 ·right
  obtain⟨j,hj⟩:=List.getElem?_of_mem he0
  obtain⟨p,hp,hk,hv⟩:=ents_at hleft hj
  have hes:e0∈es.toList:=by
   unfold leftOf at he0
   simp at he0
   simpa using he0.1
  have hpl:p∈left:=List.mem_of_getElem? hp
  have hw1h:w1.heap=w.heap:=by rcases hw1 with rfl|rfl<;>rfl
  have hw1r:(setBlock w1 r (.mapIter (some b) since (seen.push e0.born) clock)).heap[r]? =some (.mapIter (some b) since (seen.push e0.born) clock):=heap_set_same (by rw[hw1h];exact hlt)
  have hoth:∀k,k≠r→(setBlock w1 r (.mapIter (some b) since (seen.push e0.born) clock)).heap[k]? =w.heap[k]?:=fun k hk=>by rw[heap_set_other hk,hw1h]
  have hbut:But r w (setBlock w1 r (.mapIter (some b) since (seen.push e0.born) clock)):=by
   refine⟨?_,?_,?_,?_,fun k _ hk=>hoth k hk⟩
   ·rcases hw1 with rfl|rfl<;>rfl
   ·rcases hw1 with rfl|rfl<;>rfl
   ·rcases hw1 with rfl|rfl<;>rfl
   ·simp[setBlock,hw1h]
  have hb':(setBlock w1 r (.mapIter (some b) since (seen.push e0.born) clock)).heap[b]? =w.heap[b]?:=hoth b (Ne.symm hne)
  have hlo:(leftOf es (seen.push e0.born)).toList=(leftOf es seen).toList.eraseIdx j:=by
   have hsubn:((leftOf es seen).toList.map (·.born)).Nodup:=by
    refine List.Sublist.nodup ?_ hnd
    unfold leftOf
    rw[Array.toList_filter]
    exact List.Sublist.map _ List.filter_sublist
   have h1:(leftOf es (seen.push e0.born)).toList=(leftOf es seen).toList.filter (fun x=>!(x.born==e0.born)):=by
    unfold leftOf
    rw[Array.toList_filter,Array.toList_filter,List.filter_filter]
    congr 1
    funext x
    rw[Bool.eq_iff_iff]
    simp[Array.mem_push,and_comm]
   rw[h1]
   clear hrun hw1 hw1r hoth hbut hb' hleft h1 hp
   generalize (leftOf es seen).toList=L at *
   clear hlt g1 g2 hmap hsub hborn hnd hes hpl hk hv hw1h he0
   induction L generalizing j with
   |nil=>simp at hj
   |cons a R ih=>
    have hn:=List.pairwise_cons.1 hsubn
    cases j with
    |zero=>
     simp at hj
     subst hj
     have hR:R.filter (fun x=>!(x.born==a.born))=R:=by
      rw[List.filter_eq_self]
      intro x hx
      have:=hn.1 x.born (List.mem_map.2 ⟨x,hx,rfl⟩)
      simp[Ne.symm this]
     simp
     simpa using hR
    |succ j=>
     have hjR:R[j]? =some e0:=by simpa using hj
     have:=hn.1 e0.born (List.mem_map.2 ⟨e0,List.mem_of_getElem? hjR,rfl⟩)
     rw[List.filter_cons_of_pos (by simpa using this)]
     rw[ih j hjR hn.2]
     rfl
  obtain⟨hjl,hpe⟩:=List.getElem?_eq_some_iff.1 hp
  refine⟨p,left.eraseIdx j,_,?_,hsub p hpl,by rw[hrun,hk,hv],⟨hne,hmap.of_block hb',fun q hq=>hsub q ((List.eraseIdx_sublist _ _).subset hq),es,clock,_,_,since,hw1r,hb'.trans g2,hscl,hscl,hborn,hnd,?_⟩,hbut,by simp[setBlock,hw1h],?_⟩
  ·rw[←hpe]
   exact perm_erase left j hjl
  ·rw[hlo,Go.ChangeMaps.map_eraseIdx,hleft,Go.ChangeMaps.map_eraseIdx]
  ·rw[←hk,←hv]
   exact run_entry_at _ r b since seen es clock e0 hw1r (hb'.trans g2) hes hnd
end
end
section
open Go.RowKit
structure Fr (K:List TypeId)(M:List Nat)(base:Nat)(w w':World):Prop where
 below:Below base w w'
 blk:∀g t cs,Blk w g t cs→t∉K→Blk w' g t cs
 map:∀b es c,w.heap[b]? =some (.map es c)→b∉M→w'.heap[b]? =some (.map es c)
section
variable {K K':List TypeId}{M M':List Nat}{base:Nat}{a b c w w':World}
theorem Fr.refl (K:List TypeId)(M:List Nat)(base:Nat)(w:World):Fr K M base w w:=⟨bR _ _,fun _ _ _ h _=>h,fun _ _ _ h _=>h⟩
theorem Fr.trans (h:Fr K M base a b)(k:Fr K M base b c):Fr K M base a c:=
 ⟨h.below.trans k.below,fun g t cs h0 h1=>k.blk g t cs (h.blk g t cs h0 h1) h1,fun b es c h0 h1=>k.map b es c (h.map b es c h0 h1) h1⟩
theorem Fr.mono (h:Fr K M base w w')(hK:∀t∈K,t∈K')(hM:∀b∈M,b∈M'):Fr K' M' base w w':=
 ⟨h.below,fun g t cs h0 h1=>h.blk g t cs h0 (fun e=>h1 (hK t e)),fun b es c h0 h1=>h.map b es c h0 (fun e=>h1 (hM b e))⟩
theorem Fr.of_below (K:List TypeId)(M:List Nat){base:Nat}(h:Below w.heap.size w w')(hb:base≤w.heap.size):Fr K M base w w':=
 ⟨h.mono hb,fun g t cs h0 _=>h0.below h h0.lt,fun b es c h0 _=>(h.block b (Array.getElem?_eq_some_iff.1 h0).1).trans h0⟩
theorem Fr.made (h:Fr K M base a w)(k:Below w.heap.size w w')(hb:base≤w.heap.size):Fr K M base a w':=h.trans (Fr.of_below K M k hb)
theorem Fr.drew (h:Fr K M base a w):Fr K M base a w.drew:=⟨h.below.drew,h.blk,h.map⟩
theorem Fr.drewN (h:Fr K M base a w)(n:Nat):Fr K M base a (w.drewN n):=⟨h.below.trans ⟨rfl,rfl,rfl,nR _,fun _ _=>rfl⟩,h.blk,h.map⟩
theorem Fr.size (h:Fr K M base w w'):w.heap.size≤w'.heap.size:=h.below.size
theorem Fr.set_ {g:Nat}{t:TypeId}{cs:Array Value}(h:Fr K M base a w)(hg:Blk w g t cs)(ht:t∈K)(hb:base≤g)(i:Nat)(u:Value):Fr K M base a (w.setCell ⟨g,i,none⟩ u):=
 h.trans ⟨(bR _ _).setCell (p:=⟨g,i,none⟩) hb u,fun g' t' cs' h0 h1=>h0.far (fun e=>h1 (by
   subst e
   unfold Blk at h0 hg
   rw[h0] at hg
   injection hg with hg
   injection hg with _ he
   rw[he];exact ht)) u,fun b es c h0 _=>by
  rw[Below.heap_setCell _ _ _ _ (fun e=>?_)]
  ·exact h0
  ·subst e
   unfold Blk at hg
   rw[h0] at hg
   cases hg⟩
theorem Fr.grown {base0 n size:Nat}{e:TypeId}{v:Value}{xs:List Value}(h:Fr K M base a w)(ho:w.ownsRow base0 e size v n xs)(hg:w.grownBy w' v.ownBlock)(he:e∈K)(hb:base≤base0)(hs:base≤w.heap.size):Fr K M base a w':=
 h.trans ⟨(bR _ _).grown hg hs (fun k hk=>nT hb (ho.lt k hk).1),fun g t cs h0 h1=>h0.grown hg (fun e1=>own_blk_ne ho h0 (fun e2=>h1 (e2▸he)) e1.symm),fun b es c h0 _=>by
  rw[hg.block b (Array.getElem?_eq_some_iff.1 h0).1 (fun e1=>?_)]
  ·exact h0
  ·rcases ho.2 with⟨rfl,_⟩|⟨g,cap,cur,rfl,_,hh,_⟩
   ·simp[Value.ownBlock] at e1
   ·have:b=g:=by simpa [Value.ownBlock] using e1
    subst this
    rw[h0] at hh
    cases hh⟩
theorem Fr.but {p:Nat}{es:Array MapEntry}{cl:Nat}(h:Fr K M base a w)(hp:w.heap[p]? =some (.map es cl))(hk:But p w w')(hm:p∈M)(hb:base≤p)(hs:base≤w.heap.size):Fr K M base a w':=
 h.trans ⟨hk.below hb hs,fun g t cs h0 _=>hk.blk h0 (fun e=>by
   subst e
   unfold Blk at h0
   rw[hp] at h0
   cases h0),fun b es' c h0 h1=>(hk.block b (Array.getElem?_eq_some_iff.1 h0).1 (fun e=>h1 (e▸hm))).trans h0⟩
theorem Fr.own {base0 n size:Nat}{e:TypeId}{v:Value}{xs:List Value}(h:Fr K M base w w')(ho:w.ownsRow base0 e size v n xs)(he:e∉K):w'.ownsRow base0 e size v n xs:=by
 refine⟨ho.1,?_⟩
 rcases ho.2 with hn|⟨g,cap,cur,rfl,hg,hgg,rest⟩
 ·exact .inl hn
 ·exact .inr ⟨g,cap,cur,rfl,hg,h.blk g e cur hgg he,rest⟩
theorem Fr.mapIs {κ ν:Type}{ek:κ→Value}{ok:κ→Prop}{ev:ν→Value}{p:Nat}{m:List (κ×ν)}(h:Fr K M base w w')(hm:MapIs w ek ok ev p m)(hp:p∉M):MapIs w' ek ok ev p m:=by
 obtain⟨es,clock,h1,h2⟩:=hm
 exact⟨es,clock,h.map p es clock h1 hp,h2⟩
end
end
section
open Go.RowKit Go.Maps
structure PFile where
 b:List Nat
 sure:Nat
structure Chg where
 kind:Nat
 name:ByteArray
 tt:ByteArray
 f:Option Nat
structure PDisk where
 quota:Nat
 ops:Nat
 fail:Nat
 now:List (ByteArray×Nat)
 sure:List (ByteArray×Nat)
 chg:List Chg
 fs:List (Nat×PFile)
def ptrV (f:Option Nat):Value:=.pointer (f.map fun g=>⟨g,0,none⟩)
def encP (f:Nat):Value:=PT (some ⟨f,0,none⟩)
def okS (s:ByteArray):Prop:=s.size≤4096
def Chg.cells (c:Chg):List Value:=[X Y c.kind,.string c.name,.string c.tt,ptrV c.f]
def chv (l:List Chg):List Value:=l.flatMap Chg.cells
theorem encS:Enc Pg 9 Value.string okS:=
 ⟨string_keyed underlying9,fun x hx=>⟨_,Go.WideMaps.keyOf_string_mk underlying9 (by unfold okS at hx;unfold maxLen;omega)⟩,fun x y h=>by injection h⟩
def FilesAt (w:World)(base:Nat)(fs:List (Nat×PFile)):Prop:=
 ∃R:Nat→Value,(∀f p,mget fs f=some p→base≤f∧Blk w f 111 #[R f,X Y p.sure]∧w.ownsRow base 5 1 (R f) p.b.length (bv p.b)∧p.sure≤p.b.length∧p.b.length≤1048576∧AllB p.b)∧
  ∀f g p q,mget fs f=some p→mget fs g=some q→f≠g→(R f).ownBlock=none∨(R f).ownBlock≠(R g).ownBlock
structure DiskAt (w:World)(base d mn ms:Nat)(D:PDisk):Prop where
 lod:base≤d
 lon:base≤mn
 los:base≤ms
 hi:base≤w.heap.size
 ne:mn≠ms
 blk:∃cv,Blk w d 102 #[X Y D.quota,.map (some mn),.map (some ms),cv,X Y D.ops,X Y D.fail]∧w.ownsRow base 104 4 cv D.chg.length (chv D.chg)
 now:MapIs w Value.string okS encP mn D.now
 sure:MapIs w Value.string okS encP ms D.sure
 files:FilesAt w base D.fs
 ids:(mkeys D.fs).Nodup
 nowIn:∀p∈D.now,p.2∈mkeys D.fs
 sureIn:∀p∈D.sure,p.2∈mkeys D.fs
 chgIn:∀c∈D.chg,∀f,c.f=some f→f∈mkeys D.fs
 quotaB:D.quota≤1000000000
 opsB:D.ops≤1000000000000
 failB:D.fail≤9000000000000000000
theorem FilesAt.fr {w w':World}{base base':Nat}{fs:List (Nat×PFile)}{K:List TypeId}{M:List Nat}(h:FilesAt w base fs)(hf:Fr K M base' w w')(h1:111∉K)(h2:5∉K):FilesAt w' base fs:=by
 obtain⟨R,hR,hd⟩:=h
 exact⟨R,fun f p hp=>by
  obtain⟨a1,a2,a3,a4,a5⟩:=hR f p hp
  exact⟨a1,hf.blk _ _ _ a2 h1,hf.own a3 h2,a4,a5⟩,hd⟩
theorem DiskAt.fr {w w':World}{base base' d mn ms:Nat}{D:PDisk}{K:List TypeId}{M:List Nat}(h:DiskAt w base d mn ms D)(hf:Fr K M base' w w')(h1:111∉K)(h2:5∉K)(h3:102∉K)(h4:104∉K)(h5:mn∉M)(h6:ms∉M):DiskAt w' base d mn ms D:=by
 obtain⟨cv,hb,hc⟩:=h.blk
 exact{h with hi:=nT h.hi hf.size,blk:=⟨cv,hf.blk _ _ _ hb h3,hf.own hc h4⟩,now:=hf.mapIs h.now h5,sure:=hf.mapIs h.sure h6,files:=h.files.fr hf h1 h2}
theorem DiskAt.made {w w':World}{base d mn ms:Nat}{D:PDisk}(h:DiskAt w base d mn ms D)(hb:Below w.heap.size w w'):DiskAt w' base d mn ms D:=
 h.fr (K:=[]) (M:=[]) (Fr.of_below [] [] hb h.hi) (by simp) (by simp) (by simp) (by simp) (by simp) (by simp)
theorem DiskAt.drew {w:World}{base d mn ms:Nat}{D:PDisk}(h:DiskAt w base d mn ms D):DiskAt w.drew base d mn ms D:=h.made (bR _ _).drew
theorem DiskAt.turn {w w':World}{base d mn ms:Nat}{D:PDisk}(h:DiskAt w base d mn ms D)(ops fail:Nat)(cv:Value)(hb:Blk w' d 102 #[X Y D.quota,.map (some mn),.map (some ms),cv,X Y ops,X Y fail])
  (hc:w.ownsRow base 104 4 cv D.chg.length (chv D.chg))(hf:Fr [102] [] base w w')(h1:ops≤1000000000000)(h2:fail≤9000000000000000000):DiskAt w' base d mn ms {D with ops:=ops,fail:=fail}:=
 {lod:=h.lod,lon:=h.lon,los:=h.los,hi:=nT h.hi hf.size,ne:=h.ne,blk:=⟨cv,hb,hf.own hc (by decide)⟩,now:=hf.mapIs h.now (by simp),sure:=hf.mapIs h.sure (by simp),files:=h.files.fr hf (by decide) (by decide),ids:=h.ids,
  nowIn:=h.nowIn,sureIn:=h.sureIn,chgIn:=h.chgIn,quotaB:=h.quotaB,opsB:=h1,failB:=h2}
def beginP (D:PDisk):Int×PDisk:=if D.ops + 1=D.fail then (8,{D with ops:=D.ops + 1,fail:=0}) else (0,{D with ops:=D.ops + 1})
end
section
open Go.RowKit
theorem begin_any (base d mn ms:Nat)(D:PDisk)(w:World)(h:DiskAt w base d mn ms D)(hops:D.ops≤900000000000):
  Calls Pg 309 #[PT (some ⟨d,0,none⟩)] w fun e w'=>e=rT (X Y (beginP D).1)∧DiskAt w' base d mn ms (beginP D).2∧Fr [102] [] base w w':=by
 obtain⟨cv,hb,hc⟩:=h.blk
 obtain⟨-,-,-,-,c4,c5⟩:=hb.c6
 obtain⟨-,-,-,-,f4,f5⟩:=hb.f6
 have ew:IntKind.i64.wrap ((D.ops:Int) + 1)=((D.ops + 1:Nat):Int):=by rw[IntWalk.i64_in _ (by omega)];omega
 have H:=jH (aI h (aI hb hc))
 by_cases he:D.ops + 1=D.fail
 ·have hP:Hid (beginP D=(8,{D with ops:=D.ops + 1,fail:=0})):=by show _=_;unfold beginP;rw[if_pos he]
  have hbe:(((D.ops + 1:Nat):Int)==(D.fail:Int))=true:=by simp;omega
  obtain⟨n,hn⟩:∃n,n=D.ops + 1:=⟨_,rfl⟩
  rw[←hn] at ew hbe
  have hn':=jH hn
  generalize hfa:(D.fail:Int)=fa at *
  clear h hb hc he hn
  go_enter func309,ntmps309
  go_wp2_with fail
  go_quiet (fail)
  go_wp2_with fail
  go_ret
  obtain⟨h,hb,hc⟩:=H.out
  rw[hP.out,←hn'.out]
  have hb2:=(((hb.set_ 4 (X Y n)).drewN nq).set_ 5 (X Y 0))
  have hf:=(((Fr.refl [102] [] base w).set_ hb (by simp) h.lod 4 (X Y n)).drewN nq).set_ ((hb.set_ 4 (X Y n)).drewN nq) (by simp) h.lod 5 (X Y 0)
  exact⟨rfl,h.turn n 0 cv hb2 hc hf (by have:=hn'.out;omega) (by omega),hf⟩
 ·have hP:Hid (beginP D=(0,{D with ops:=D.ops + 1})):=by show _=_;unfold beginP;rw[if_neg he]
  have hbe:(((D.ops + 1:Nat):Int)==(D.fail:Int))=false:=by simp;omega
  obtain⟨n,hn⟩:∃n,n=D.ops + 1:=⟨_,rfl⟩
  rw[←hn] at ew hbe
  have hn':=jH hn
  obtain⟨fa,hfa⟩:∃fa:Int,(D.fail:Int)=fa:=⟨_,rfl⟩
  rw[hfa] at c5 hbe
  have hfa':=jH hfa
  clear h hb hc he hn hfa
  go_enter func309,ntmps309
  go_wp2_with fail
  go_quiet (fail)
  go_wp2_with fail
  go_ret
  obtain⟨h,hb,hc⟩:=H.out
  rw[hP.out,←hn'.out]
  have hb2:=(hb.set_ 4 (X Y n)).drewN nq
  have hf:=((Fr.refl [102] [] base w).set_ hb (by simp) h.lod 4 (X Y n)).drewN nq
  exact⟨rfl,h.turn n D.fail cv hb2 hc hf (by have:=hn'.out;omega) h.failB,hf⟩
def namedP (s:ByteArray):Bool:=decide (1≤s.size∧s.size≤16)
theorem named_any (s:ByteArray)(w:World):Calls Pg 394 #[.string s] w fun e w'=>e=rT (bL (namedP s))∧w=w':=by
 by_cases h1:1≤s.size
 ·by_cases h2:s.size≤16
  ·have H:Hid (namedP s=true):=decide_eq_true ⟨h1,h2⟩
   have d1:decide ((1:Int)≤(s.size:Int))=true:=decide_eq_true (by omega)
   have d2:decide ((s.size:Int)≤16)=true:=decide_eq_true (by omega)
   go_enter func394,ntmps394
   go_wp2_with fail
   go_ret
   exact⟨by rw[H.out];rfl,rfl⟩
  ·have H:Hid (namedP s=false):=decide_eq_false (by omega)
   have d1:decide ((1:Int)≤(s.size:Int))=true:=decide_eq_true (by omega)
   have d2:decide ((s.size:Int)≤16)=false:=decide_eq_false (by omega)
   go_enter func394,ntmps394
   go_wp2_with fail
   go_ret
   exact⟨by rw[H.out];rfl,rfl⟩
 ·have H:Hid (namedP s=false):=decide_eq_false (by omega)
  have d1:decide ((1:Int)≤(s.size:Int))=false:=decide_eq_false (by omega)
  go_enter func394,ntmps394
  go_wp2_with fail
  go_ret
  exact⟨by rw[H.out];rfl,rfl⟩
def flen (fs:List (Nat×PFile))(f:Nat):Nat:=match mget fs f with|some p=>p.b.length|none=>0
def sumL (fs:List (Nat×PFile))(l:List (ByteArray×Nat)):Nat:=(l.map fun p=>flen fs p.2).sum
def sizeP (D:PDisk):Nat:=sumL D.fs D.now
theorem flen_le {w:World}{base:Nat}{fs:List (Nat×PFile)}(h:FilesAt w base fs)(f:Nat):flen fs f≤1048576:=by
 unfold flen
 cases hm:mget fs f with
 |none=>simp
 |some p=>
  obtain⟨R,hR,_⟩:=h
  exact(hR f p hm).2.2.2.2.1
theorem sumL_perm {fs:List (Nat×PFile)}{l l':List (ByteArray×Nat)}(h:l.Perm l'):sumL fs l=sumL fs l':=(h.map _).sum_nat
theorem sumL_cons (fs:List (Nat×PFile))(p:ByteArray×Nat)(l:List (ByteArray×Nat)):sumL fs (p::l)=flen fs p.2 + sumL fs l:=by simp[sumL]
theorem sumL_le {w:World}{base:Nat}{fs:List (Nat×PFile)}(h:FilesAt w base fs):∀l:List (ByteArray×Nat),sumL fs l≤l.length * 1048576
 |[]=>by simp[sumL]
 |p::l=>by
  have:=sumL_le h l
  have:=flen_le h p.2
  rw[sumL_cons,List.length_cons]
  omega
theorem mget_keys {κ ν:Type}[DecidableEq κ]{m:List (κ×ν)}{x:κ}(h:x∈mkeys m):∃v,mget m x=some v:=by
 cases hg:mget m x with
 |some v=>exact⟨v,rfl⟩
 |none=>
  obtain⟨p,hp,hpx⟩:=List.mem_map.1 h
  exact absurd hpx (mget_eq_none.1 hg p hp)
theorem DiskAt.file {w:World}{base d mn ms:Nat}{D:PDisk}(h:DiskAt w base d mn ms D){f:Nat}(hf:f∈mkeys D.fs):∃A n c p,mget D.fs f=some p∧p.b.length=n∧flen D.fs f=n∧base≤f∧Blk w f 111 #[G A n c,X Y p.sure]∧w.ownsRow base 5 1 (G A n c) n (bv p.b):=by
 obtain⟨p,hp⟩:=mget_keys hf
 obtain⟨R,hR,_⟩:=h.files
 obtain⟨a1,a2,a3,a4,a5⟩:=hR f p hp
 obtain⟨A,c,e⟩:=own_slice a3
 rw[e] at a2 a3
 exact⟨A,p.b.length,c,p,hp,rfl,by unfold flen;rw[hp],a1,a2,a3⟩
theorem size_any (base d mn ms:Nat)(D:PDisk)(w:World)(h:DiskAt w base d mn ms D)(hn:D.now.length≤100000):
  Calls Pg 440 #[PT (some ⟨d,0,none⟩)] w fun e w'=>e=rT (X Y (sizeP D))∧Below w.heap.size w w':=by
 obtain⟨cv,hb,hc⟩:=h.blk
 obtain⟨-,c1⟩:=hb.c2
 obtain⟨w1,hrange,hit,hb1,hs1⟩:=h.now.range (P:=Pg) (t:=97) underlying97
 have H:=jH (aI h (aI hit hb1))
 clear h hb hc hit hb1 hs1
 go_enter func440,ntmps440
 go_wp2_with fail
 go_loopg [3,5] D.now.length (fun gk s f wr=>∃(left:List (ByteArray×Nat)) (a:Nat),left.length=gk∧s=X Y a∧Hid (a + sumL D.fs left=sizeP D)∧IterIs wr Value.string okS encP w.heap.size mn D.now left∧Below w.heap.size w wr)
 case atStart=>exact⟨D.now,0,rfl,rfl,by show _=_;unfold sizeP;omega,H.out.2.1,H.out.2.2⟩
 case round=>
  obtain⟨left,a,hgk,rfl,hsum,hit,hbr⟩:=hrel
  have hhD:=H.out.1.made hbr
  rcases hit.next (P:=Pg) 0 with⟨hnil,hrun0⟩|⟨p,left',w2,hperm,hpm,hrun0,hit2,hbut,hs2,hent⟩
  ·have hrun:∀ty,(Instr.next (PT (some ⟨w.heap.size,0,none⟩)) false ty).run Pg wr=.ok (tU #[bL false]) wr:=fun ty=>hrun0
   have HR:Hid (a=sizeP D):=by show _=_;rw[←hsum.out,hnil];simp[sumL]
   clear hrun0 hnil hgk hit hhD c1 hrange
   go_wp2_with fail
   go_ret
   exact⟨by rw[HR.out];rfl,hbr⟩
  ·have hrun:∀ty,(Instr.next (PT (some ⟨w.heap.size,0,none⟩)) false ty).run Pg wr=.ok (tU #[bL true,.string p.1,encP p.2]) w2:=fun ty=>hrun0
   have hb2:Below w.heap.size w w2:=hbr.trans (hbut.below (nR _) hbr.size)
   have hD2:=H.out.1.made hb2
   obtain⟨A,n,c,pf,hpf,hpl,hfl,hbase,hfb,hfo⟩:=hD2.file (hD2.nowIn p hpm)
   have c0:=hfb.c1
   have hsz:sizeP D≤100000 * 1048576:=nT (sumL_le hD2.files D.now) (Nat.mul_le_mul_right _ hn)
   have hs3:a + (n + sumL D.fs left')=sizeP D:=by
    have:=hsum.out
    rw[sumL_perm hperm,sumL_cons,hfl] at this
    exact this
   have ew:IntKind.i64.wrap ((a:Int) + (n:Int))=((a + n:Nat):Int):=by rw[IntWalk.i64_in _ (by omega)];omega
   have hlen:left'.length + 1=gk:=by rw[←hgk,hperm.length_eq];rfl
   have HS:Hid (a + n + sumL D.fs left'=sizeP D):=by show _=_;omega
   have HL:=jH hlen
   have HI:=jH (aI hit2 hb2)
   unfold encP at hrun hent
   clear hrun0 hgk hit hhD c1 hrange hsum hs3 hlen hit2 hb2 hD2 hfo hfb hpf hpl hbase hfl hsz hperm hpm hbut hs2 hbr
   go_wp2_with fail
   go_roundg (gk - 1)
   case measure=>have:=HL.out;omega
   case rel=>exact⟨left',a + n,by have:=HL.out;omega,rfl,HS,HI.out.1,HI.out.2⟩
end
section
section
variable {κ ν:Type}[DecidableEq κ]{m:List (κ×ν)}{x y:κ}{v:ν}
theorem mget_cons (p:κ×ν)(m:List (κ×ν))(x:κ):mget (p::m) x=if p.1=x then some p.2 else mget m x:=by
 unfold mget
 by_cases h:p.1=x
 ·rw[if_pos h,List.find?_cons_of_pos (by simpa using h)];rfl
 ·rw[if_neg h,List.find?_cons_of_neg (by simpa using h)]
theorem mget_append (m1 m2:List (κ×ν))(x:κ):mget (m1++m2) x=(mget m1 x).or (mget m2 x):=by
 induction m1 with
 |nil=>simp[mget]
 |cons p r ih=>
  rw[List.cons_append,mget_cons,mget_cons,ih]
  split<;>simp
theorem mget_mput_same (m:List (κ×ν))(x:κ)(v:ν):mget (mput m x v) x=some v:=by
 unfold mput
 by_cases h:m.any (fun p=>p.1=x)=true
 ·rw[if_pos h]
  induction m with
  |nil=>simp at h
  |cons p r ih=>
   rw[List.map_cons,mget_cons]
   by_cases hp:p.1=x
   ·simp[hp]
   ·rw[if_neg hp,if_neg hp]
    exact ih (by simpa [hp] using h)
 ·rw[if_neg h,mget_append,mget_none (m:=m) (fun p hp e=>h (List.any_eq_true.2 ⟨p,hp,by simpa using e⟩)),mget_cons]
  simp
theorem mget_mput_other (m:List (κ×ν))(v:ν)(h:y≠x):mget (mput m x v) y=mget m y:=by
 unfold mput
 by_cases ha:m.any (fun p=>p.1=x)=true
 ·rw[if_pos ha]
  clear ha
  induction m with
  |nil=>rfl
  |cons p r ih=>
   rw[List.map_cons,mget_cons,mget_cons,ih]
   by_cases hp:p.1=x
   ·rw[if_pos hp]
    have:¬p.1=y:=fun e=>h (e.symm.trans hp)
    simp[this,Ne.symm h]
   ·rw[if_neg hp]
 ·rw[if_neg ha,mget_append,mget_cons,if_neg (Ne.symm h)]
  simp[mget]
theorem mkeys_mput (m:List (κ×ν))(x:κ)(v:ν):mkeys (mput m x v)=if x∈mkeys m then mkeys m else mkeys m++[x]:=by
 unfold mput
 by_cases ha:m.any (fun p=>p.1=x)=true
 ·have hx:x∈mkeys m:=by
   obtain⟨p,hp,e⟩:=List.any_eq_true.1 ha
   exact List.mem_map.2 ⟨p,hp,by simpa using e⟩
  rw[if_pos ha,if_pos hx]
  unfold mkeys
  rw[List.map_map]
  apply List.map_congr_left
  intro p hp
  simp only[Function.comp]
  split
  ·rename_i e;exact e.symm
  ·rfl
 ·have hx:¬x∈mkeys m:=fun hx=>by
   obtain⟨p,hp,e⟩:=List.mem_map.1 hx
   exact ha (List.any_eq_true.2 ⟨p,hp,by simpa using e⟩)
  rw[if_neg ha,if_neg hx]
  simp[mkeys]
theorem mkeys_mput_mem {z:κ}:z∈mkeys (mput m x v)↔z∈mkeys m∨z=x:=by
 rw[mkeys_mput]
 split
 ·rename_i h
  exact⟨Or.inl,fun h'=>h'.elim id (fun e=>e▸h)⟩
 ·simp
theorem mput_nodup (h:(mkeys m).Nodup):(mkeys (mput m x v)).Nodup:=by
 rw[mkeys_mput]
 split
 ·exact h
 ·rename_i hx
  exact List.nodup_append.2 ⟨h,by simp,fun a ha b hb e=>hx (by rw[List.mem_singleton.1 hb] at e;exact e▸ha)⟩
theorem mget_mdel_same (m:List (κ×ν))(x:κ):mget (mdel m x) x=none:=mget_none fun p hp=>by
 have:=(List.mem_filter.1 hp).2
 simpa using this
theorem mget_mdel_other (m:List (κ×ν))(h:y≠x):mget (mdel m x) y=mget m y:=by
 unfold mdel
 induction m with
 |nil=>rfl
 |cons p r ih=>
  rw[List.filter_cons,mget_cons]
  by_cases hp:p.1=x
  ·have:¬p.1=y:=fun e=>h (e.symm.trans hp)
   simpa [hp,this,Ne.symm h] using ih
  ·simp only[hp,not_false_iff,decide_true,if_true]
   rw[mget_cons]
   simpa using congrArg (fun o=>if p.1=y then some p.2 else o) ih
theorem mdel_sub {p:κ×ν}(h:p∈mdel m x):p∈m:=(List.mem_filter.1 h).1
theorem mput_mem {p:κ×ν}(h:p∈mput m x v):p∈m∨p=(x,v):=by
 unfold mput at h
 split at h
 ·obtain⟨q,hq,rfl⟩:=List.mem_map.1 h
  split
  ·exact .inr rfl
  ·exact .inl hq
 ·rcases List.mem_append.1 h with h|h
  ·exact .inl h
  ·exact .inr (List.mem_singleton.1 h)
theorem mdel_nodup (h:(mkeys m).Nodup):(mkeys (mdel m x)).Nodup:=List.Sublist.nodup (List.Sublist.map _ List.filter_sublist) h
theorem mput_length_le (m:List (κ×ν))(x:κ)(v:ν):(mput m x v).length≤m.length + 1:=by
 unfold mput
 split<;>simp
end
end
section
open Go.RowKit
def haveP (D:PDisk)(f:Option Nat):Nat:=match f with|some g=>flen D.fs g|none=>0
def roomP (D:PDisk)(f:Option Nat)(n:Nat):Bool:=decide (sizeP D≤D.quota∧n + sizeP D≤D.quota∧n + haveP D f≤1048576)&&(f.isSome||decide (D.now.length < 200))
theorem room_some (base d mn ms:Nat)(D:PDisk)(w:World)(h:DiskAt w base d mn ms D)(hn:D.now.length≤100000)(f n:Nat)(hf:f∈mkeys D.fs)(hnb:n≤1000000000):
  Calls Pg 395 #[PT (some ⟨d,0,none⟩),PT (some ⟨f,0,none⟩),X Y n] w fun e w'=>e=rT (bL (roomP D (some f) n))∧Below w.heap.size w w':=by
 have CS:=jH (size_any base d mn ms D w h hn)
 have hszb:sizeP D≤100000 * 1048576:=nT (sumL_le h.files D.now) (Nat.mul_le_mul_right _ hn)
 obtain⟨A,k,c,pf,hpf,hpl,hfl,hbase,hfb,hfo⟩:=h.file hf
 have hkl:k≤1048576:=by rw[←hfl];exact flen_le h.files f
 have hR:roomP D (some f) n=decide (sizeP D≤D.quota∧n + sizeP D≤D.quota∧n + k≤1048576):=by unfold roomP haveP;simp[hfl]
 have g0:=hfb.c1
 obtain⟨cv,hb,hc⟩:=h.blk
 have hq:=h.quotaB
 have hnow:=h.now
 obtain⟨r,hr⟩:∃r,roomP D (some f) n=r:=⟨_,rfl⟩
 rw[hr] at hR⊢
 clear hr
 generalize sizeP D=s at *
 obtain⟨q,hqq⟩:∃q,D.quota=q:=⟨_,rfl⟩
 rw[hqq] at hb hq hR
 have H:=jH (aI hb hnow)
 clear h hpf hpl hfl hbase hfb hfo hf hc hqq hb hnow
 by_cases h1:s≤q
 case neg=>
  have d1:decide ((q:Int) < (s:Int))=true:=decide_eq_true (by omega)
  have HR:Hid (r=false):=hR.trans (decide_eq_false (by omega))
  clear hR
  go_enter func395,ntmps395
  go_wp2_with fail
  refine CS.out.mono ?_
  rintro e w1 ⟨rfl,hb1⟩
  have hq0:=(H.out.1.below hb1 H.out.1.lt).c1
  clear g0
  go_wp2_with fail
  go_ret
  exact⟨by rw[HR.out];rfl,hb1⟩
 by_cases h2:n + s≤q
 case neg=>
  have e1:IntKind.i64.wrap ((q:Int) - (s:Int))=((q - s:Nat):Int):=by rw[IntWalk.i64_in _ (by omega)];omega
  have d1:decide ((q:Int) < (s:Int))=false:=decide_eq_false (by omega)
  have d2:decide (((q - s:Nat):Int) < (n:Int))=true:=decide_eq_true (by omega)
  have HR:Hid (r=false):=hR.trans (decide_eq_false (by omega))
  clear hR
  go_enter func395,ntmps395
  go_wp2_with fail
  refine CS.out.mono ?_
  rintro e w1 ⟨rfl,hb1⟩
  have hq0:=(H.out.1.below hb1 H.out.1.lt).c1
  clear g0
  go_wp2_with fail
  go_ret
  exact⟨by rw[HR.out];rfl,hb1⟩
 by_cases h3:n + k≤1048576
 case neg=>
  have e1:IntKind.i64.wrap ((q:Int) - (s:Int))=((q - s:Nat):Int):=by rw[IntWalk.i64_in _ (by omega)];omega
  have e2:IntKind.i64.wrap (1048576 - (k:Int))=((1048576 - k:Nat):Int):=by rw[IntWalk.i64_in _ (by omega)];omega
  have d1:decide ((q:Int) < (s:Int))=false:=decide_eq_false (by omega)
  have d2:decide (((q - s:Nat):Int) < (n:Int))=false:=decide_eq_false (by omega)
  have d3:decide (((1048576 - k:Nat):Int) < (n:Int))=true:=decide_eq_true (by omega)
  have HR:Hid (r=false):=hR.trans (decide_eq_false (by omega))
  clear hR
  go_enter func395,ntmps395
  go_wp2_with fail
  refine CS.out.mono ?_
  rintro e w1 ⟨rfl,hb1⟩
  have hq0:=(H.out.1.below hb1 H.out.1.lt).c1
  clear g0
  go_wp2_with fail
  go_ret
  exact⟨by rw[HR.out];rfl,hb1⟩
 have e1:IntKind.i64.wrap ((q:Int) - (s:Int))=((q - s:Nat):Int):=by rw[IntWalk.i64_in _ (by omega)];omega
 have e2:IntKind.i64.wrap (1048576 - (k:Int))=((1048576 - k:Nat):Int):=by rw[IntWalk.i64_in _ (by omega)];omega
 have d1:decide ((q:Int) < (s:Int))=false:=decide_eq_false (by omega)
 have d2:decide (((q - s:Nat):Int) < (n:Int))=false:=decide_eq_false (by omega)
 have d3:decide (((1048576 - k:Nat):Int) < (n:Int))=false:=decide_eq_false (by omega)
 have HR:Hid (r=true):=hR.trans (decide_eq_true (by omega))
 clear hR
 go_enter func395,ntmps395
 go_wp2_with fail
 refine CS.out.mono ?_
 rintro e w1 ⟨rfl,hb1⟩
 have hq0:=(H.out.1.below hb1 H.out.1.lt).c1
 clear g0
 go_wp2_with fail
 go_ret
 exact⟨by rw[HR.out];rfl,hb1⟩
theorem room_none (base d mn ms:Nat)(D:PDisk)(w:World)(h:DiskAt w base d mn ms D)(hn:D.now.length≤100000)(n:Nat)(hnb:n≤1000000000):
  Calls Pg 395 #[PT (some ⟨d,0,none⟩),PT none,X Y n] w fun e w'=>e=rT (bL (roomP D none n))∧Below w.heap.size w w':=by
 have CS:=jH (size_any base d mn ms D w h hn)
 have hszb:sizeP D≤100000 * 1048576:=nT (sumL_le h.files D.now) (Nat.mul_le_mul_right _ hn)
 have hR:roomP D none n=decide (sizeP D≤D.quota∧n + sizeP D≤D.quota∧n≤1048576∧D.now.length < 200):=by
  unfold roomP haveP
  rw[Bool.eq_iff_iff]
  simp[and_assoc]
 obtain⟨cv,hb,hc⟩:=h.blk
 have hq:=h.quotaB
 have hnow:=h.now
 obtain⟨r,hr⟩:∃r,roomP D none n=r:=⟨_,rfl⟩
 rw[hr] at hR⊢
 clear hr
 generalize sizeP D=s at *
 obtain⟨q,hqq⟩:∃q,D.quota=q:=⟨_,rfl⟩
 rw[hqq] at hb hq hR
 have H:=jH (aI hb hnow)
 clear h hc hqq hb hnow
 by_cases h1:s≤q
 case neg=>
  have d1:decide ((q:Int) < (s:Int))=true:=decide_eq_true (by omega)
  have HR:Hid (r=false):=hR.trans (decide_eq_false (by omega))
  clear hR
  go_enter func395,ntmps395
  go_wp2_with fail
  refine CS.out.mono ?_
  rintro e w1 ⟨rfl,hb1⟩
  obtain⟨hq0,hq1⟩:=(H.out.1.below hb1 H.out.1.lt).c2
  have hml:=(H.out.2.below hb1 H.out.2.lt).len (P:=Pg) (t:=97) (ty:=3) underlying97
  go_wp2_with fail
  go_ret
  exact⟨by rw[HR.out];rfl,hb1⟩
 by_cases h2:n + s≤q
 case neg=>
  have e1:IntKind.i64.wrap ((q:Int) - (s:Int))=((q - s:Nat):Int):=by rw[IntWalk.i64_in _ (by omega)];omega
  have d1:decide ((q:Int) < (s:Int))=false:=decide_eq_false (by omega)
  have d2:decide (((q - s:Nat):Int) < (n:Int))=true:=decide_eq_true (by omega)
  have HR:Hid (r=false):=hR.trans (decide_eq_false (by omega))
  clear hR
  go_enter func395,ntmps395
  go_wp2_with fail
  refine CS.out.mono ?_
  rintro e w1 ⟨rfl,hb1⟩
  obtain⟨hq0,hq1⟩:=(H.out.1.below hb1 H.out.1.lt).c2
  have hml:=(H.out.2.below hb1 H.out.2.lt).len (P:=Pg) (t:=97) (ty:=3) underlying97
  go_wp2_with fail
  go_ret
  exact⟨by rw[HR.out];rfl,hb1⟩
 by_cases h3:n + 0≤1048576
 case neg=>
  have e1:IntKind.i64.wrap ((q:Int) - (s:Int))=((q - s:Nat):Int):=by rw[IntWalk.i64_in _ (by omega)];omega
  have d1:decide ((q:Int) < (s:Int))=false:=decide_eq_false (by omega)
  have d2:decide (((q - s:Nat):Int) < (n:Int))=false:=decide_eq_false (by omega)
  have d3:decide ((1048576:Int) < (n:Int))=true:=decide_eq_true (by omega)
  have HR:Hid (r=false):=hR.trans (decide_eq_false (by omega))
  clear hR
  go_enter func395,ntmps395
  go_wp2_with fail
  refine CS.out.mono ?_
  rintro e w1 ⟨rfl,hb1⟩
  obtain⟨hq0,hq1⟩:=(H.out.1.below hb1 H.out.1.lt).c2
  have hml:=(H.out.2.below hb1 H.out.2.lt).len (P:=Pg) (t:=97) (ty:=3) underlying97
  go_wp2_with fail
  go_ret
  exact⟨by rw[HR.out];rfl,hb1⟩
 by_cases h4:D.now.length < 200
 case neg=>
  have e1:IntKind.i64.wrap ((q:Int) - (s:Int))=((q - s:Nat):Int):=by rw[IntWalk.i64_in _ (by omega)];omega
  have d1:decide ((q:Int) < (s:Int))=false:=decide_eq_false (by omega)
  have d2:decide (((q - s:Nat):Int) < (n:Int))=false:=decide_eq_false (by omega)
  have d3:decide ((1048576:Int) < (n:Int))=false:=decide_eq_false (by omega)
  have d4:decide ((D.now.length:Int) < 200)=false:=decide_eq_false (by omega)
  have HR:Hid (r=false):=hR.trans (decide_eq_false (by omega))
  clear hR
  go_enter func395,ntmps395
  go_wp2_with fail
  refine CS.out.mono ?_
  rintro e w1 ⟨rfl,hb1⟩
  obtain⟨hq0,hq1⟩:=(H.out.1.below hb1 H.out.1.lt).c2
  have hml:=(H.out.2.below hb1 H.out.2.lt).len (P:=Pg) (t:=97) (ty:=3) underlying97
  go_wp2_with fail
  go_ret
  exact⟨by rw[HR.out];rfl,hb1⟩
 have e1:IntKind.i64.wrap ((q:Int) - (s:Int))=((q - s:Nat):Int):=by rw[IntWalk.i64_in _ (by omega)];omega
 have d1:decide ((q:Int) < (s:Int))=false:=decide_eq_false (by omega)
 have d2:decide (((q - s:Nat):Int) < (n:Int))=false:=decide_eq_false (by omega)
 have d3:decide ((1048576:Int) < (n:Int))=false:=decide_eq_false (by omega)
 have d4:decide ((D.now.length:Int) < 200)=true:=decide_eq_true (by omega)
 have HR:Hid (r=true):=hR.trans (decide_eq_true (by omega))
 clear hR
 go_enter func395,ntmps395
 go_wp2_with fail
 refine CS.out.mono ?_
 rintro e w1 ⟨rfl,hb1⟩
 obtain⟨hq0,hq1⟩:=(H.out.1.below hb1 H.out.1.lt).c2
 have hml:=(H.out.2.below hb1 H.out.2.lt).len (P:=Pg) (t:=97) (ty:=3) underlying97
 go_wp2_with fail
 go_ret
 exact⟨by rw[HR.out];rfl,hb1⟩
theorem files_put {w':World}{base:Nat}{fs:List (Nat×PFile)}{R:Nat→Value}(f:Nat)(v':Value)(p':PFile)
  (hkB:∀g p,mget fs g=some p→g≠f→base≤g∧Blk w' g 111 #[R g,X Y p.sure]∧w'.ownsRow base 5 1 (R g) p.b.length (bv p.b)∧p.sure≤p.b.length∧p.b.length≤1048576∧AllB p.b)
  (hd:∀g k p q,mget fs g=some p→mget fs k=some q→g≠k→(R g).ownBlock=none∨(R g).ownBlock≠(R k).ownBlock)
  (hbase:base≤f)(hb:Blk w' f 111 #[v',X Y p'.sure])(ho:w'.ownsRow base 5 1 v' p'.b.length (bv p'.b))(hs:p'.sure≤p'.b.length)(hl:p'.b.length≤1048576)(ha:AllB p'.b)
  (hdis:∀g p,mget fs g=some p→g≠f→(R g).ownBlock=none∨(R g).ownBlock≠v'.ownBlock):FilesAt w' base (mput fs f p'):=by
 refine⟨fun g=>if g=f then v' else R g,fun g p hp=>?_,fun g k p q hp hq hne=>?_⟩
 ·by_cases e:g=f
  ·subst e
   rw[mget_mput_same] at hp
   injection hp with hp
   subst hp
   simp only[if_true]
   exact⟨hbase,hb,ho,hs,hl,ha⟩
  ·rw[mget_mput_other _ _ e] at hp
   simp only[if_neg e]
   exact hkB g p hp e
 ·by_cases eg:g=f
  ·subst eg
   have ek:k≠g:=Ne.symm hne
   rw[mget_mput_other _ _ ek] at hq
   simp only[if_true,if_neg ek]
   have:=hdis k q hq ek
   cases hv:v'.ownBlock with
   |none=>exact .inl rfl
   |some x=>
    right
    rcases this with h|h
    ·rw[h];simp
    ·rw[hv] at h
     exact fun e=>h e.symm
  ·rw[mget_mput_other _ _ eg] at hp
   by_cases ek:k=f
   ·subst ek
    simp only[if_true,if_neg eg]
    exact hdis g p hp eg
   ·rw[mget_mput_other _ _ ek] at hq
    simp only[if_neg eg,if_neg ek]
    exact hd g k p q hp hq hne
def findP (D:PDisk)(name:ByteArray):Option Nat×Int×PDisk:=
 match beginP D with
 |(e,D1)=>if e=0 then (match mget D1.now name with|some f=>(some f,0,D1)|none=>(none,6,D1)) else (none,e,D1)
theorem beginP_cases (D:PDisk):(beginP D).1=0∨(beginP D).1=8:=by unfold beginP;split<;>simp
theorem find_any (base d mn ms:Nat)(D:PDisk)(name:ByteArray)(w:World)(h:DiskAt w base d mn ms D)(hops:D.ops≤900000000000)(hname:okS name):
  Calls Pg 277 #[PT (some ⟨d,0,none⟩),.string name] w fun e w'=>e=rT (tU #[ptrV (findP D name).1,X Y (findP D name).2.1])∧DiskAt w' base d mn ms (findP D name).2.2∧Fr [102] [] base w w':=by
 have CB:=jH (begin_any base d mn ms D w h hops)
 have hF:findP D name=match beginP D with|(e,D1)=>if e=0 then (match mget D1.now name with|some f=>(some f,0,D1)|none=>(none,6,D1)) else (none,e,D1):=rfl
 obtain⟨r,hr⟩:∃r,findP D name=r:=⟨_,rfl⟩
 have hcs:=beginP_cases D
 obtain⟨⟨eb,D1⟩,hbp⟩:∃b,beginP D=b:=⟨_,rfl⟩
 rw[hr,hbp] at hF
 rw[hr]
 rw[hbp] at CB hcs
 dsimp only at CB hF hcs
 clear hr hbp
 rcases hcs with rfl|rfl
 ·rw[if_pos rfl] at hF
  go_enter func277,ntmps277
  go_wp2_with fail
  refine CB.out.mono ?_
  rintro e w1 ⟨rfl,hD1,hf1⟩
  obtain⟨cv,hb,hc⟩:=hD1.blk
  obtain⟨-,c1⟩:=hb.c2
  have hlk:=hD1.now.lookup (P:=Pg) encS (t:=97) underlying97 (z:=PT none) (by kernel_rfl) name hname false
  have H:=jH (aI hD1 hf1)
  clear hD1 hf1 hb hc CB
  cases hm:mget D1.now name with
  |none=>
   rw[hm] at hF hlk
   have HF:=jH hF
   simp only[Bool.false_eq_true,if_false] at hlk
   clear hF hm
   go_wp2_with fail
   go_ret2
   exact⟨by rw[HF.out];rfl,by rw[HF.out];exact H.out.1,H.out.2⟩
  |some f=>
   rw[hm] at hF hlk
   have HF:=jH hF
   simp only[Bool.false_eq_true,if_false,encP] at hlk
   clear hF hm
   go_wp2_with fail
   go_ret2
   exact⟨by rw[HF.out];rfl,by rw[HF.out];exact H.out.1,H.out.2⟩
 ·rw[if_neg (by omega)] at hF
  have HF:=jH hF
  clear hF
  go_enter func277,ntmps277
  go_wp2_with fail
  refine CB.out.mono ?_
  rintro e w1 ⟨rfl,hD1,hf1⟩
  have H:=jH (aI hD1 hf1)
  clear hD1 hf1 CB
  go_wp2_with fail
  go_ret2
  exact⟨by rw[HF.out];rfl,by rw[HF.out];exact H.out.1,H.out.2⟩
def fileOf (fs:List (Nat×PFile))(f:Nat):PFile:=(mget fs f).getD ⟨[],0⟩
theorem fileOf_some {fs:List (Nat×PFile)}{f:Nat}{p:PFile}(h:mget fs f=some p):fileOf fs f=p:=by unfold fileOf;rw[h];rfl
theorem findP_cases (D:PDisk)(name:ByteArray):(∃f,findP D name=(some f,0,(beginP D).2)∧mget (beginP D).2.now name=some f)∨∃e,findP D name=(none,e,(beginP D).2)∧(e=6∨e=8):=by
 unfold findP
 have h:=beginP_cases D
 rcases hb:beginP D with⟨e,D1⟩
 rw[hb] at h
 dsimp only at h⊢
 rcases h with rfl|rfl
 ·rw[if_pos rfl]
  cases hm:mget D1.now name with
  |none=>exact .inr ⟨6,rfl,.inl rfl⟩
  |some f=>exact .inl ⟨f,rfl,rfl⟩
 ·rw[if_neg (by omega)]
  exact .inr ⟨8,rfl,.inr rfl⟩
theorem DiskAt.refile {w w':World}{base d mn ms:Nat}{D:PDisk}(f:Nat)(p':PFile)(h:DiskAt w base d mn ms D)(hf:Fr [111,5] [] base w w')(hfa:FilesAt w' base (mput D.fs f p')):DiskAt w' base d mn ms {D with fs:=mput D.fs f p'}:=by
 obtain⟨cv,hb,hc⟩:=h.blk
 exact{lod:=h.lod,lon:=h.lon,los:=h.los,hi:=nT h.hi hf.size,ne:=h.ne,blk:=⟨cv,hf.blk _ _ _ hb (by decide),hf.own hc (by decide)⟩,now:=hf.mapIs h.now (by simp),sure:=hf.mapIs h.sure (by simp),files:=hfa,ids:=mput_nodup h.ids,nowIn:=fun p hp=>mkeys_mput_mem.2 (.inl (h.nowIn p hp)),sureIn:=fun p hp=>mkeys_mput_mem.2 (.inl (h.sureIn p hp)),chgIn:=fun c hc g hg=>mkeys_mput_mem.2 (.inl (h.chgIn c hc g hg)),quotaB:=h.quotaB,opsB:=h.opsB,failB:=h.failB}
def syncP (D:PDisk)(name:ByteArray):Int×PDisk:=
 match findP D name with
 |(some f,_,D1)=>(0,{D1 with fs:=mput D1.fs f ⟨(fileOf D1.fs f).b,(fileOf D1.fs f).b.length⟩})
 |(none,e,D1)=>(e,D1)
theorem sync_any (base d mn ms:Nat)(D:PDisk)(name:ByteArray)(w:World)(h:DiskAt w base d mn ms D)(hops:D.ops≤900000000000)(hname:okS name):
  Calls Pg 172 #[PT (some ⟨d,0,none⟩),.string name] w fun e w'=>e=rT (X Y (syncP D name).1)∧DiskAt w' base d mn ms (syncP D name).2∧Fr [102,111,5] [] base w w':=by
 have CF:=jH (find_any base d mn ms D name w h hops hname)
 rcases findP_cases D name with⟨f,hF,hm⟩|⟨e0,hF,he0⟩
 ·have hS:syncP D name=(0,{(beginP D).2 with fs:=mput (beginP D).2.fs f ⟨(fileOf (beginP D).2.fs f).b,(fileOf (beginP D).2.fs f).b.length⟩}):=by unfold syncP;rw[hF]
  rw[hF] at CF
  dsimp only[ptrV,Option.map_some] at CF
  generalize (beginP D).2=D1 at *
  go_enter func172,ntmps172
  go_wp2_with fail
  refine CF.out.mono ?_
  rintro e w1 ⟨rfl,hD1,hf1⟩
  obtain⟨p,hp⟩:=mget_keys (hD1.nowIn _ (mget_some hm))
  obtain⟨R,hR,hd⟩:=hD1.files
  obtain⟨a1,a2,a3,a4,a5,a6⟩:=hR f p hp
  obtain⟨A,c,eR⟩:=own_slice a3
  rw[fileOf_some hp] at hS
  have a2':=a2
  rw[eR] at a2'
  obtain⟨c0,c1⟩:=a2'.c2
  have fz:=a2'.frozen 1
  have H:=jH (aI hD1 (aI hf1 (aI hS (aI a2 (aI a3 (aI hR hd))))))
  have H2:=jH (aI hp (aI a1 (aI a5 a6)))
  obtain⟨n,hn⟩:∃n,p.b.length=n:=⟨_,rfl⟩
  rw[hn] at c0
  have hn':=jH hn
  clear hD1 hf1 hS a2 a3 hR hd eR a2' hp a1 a4 a5 a6 hn hF hm CF h
  go_wp2_with fail
  go_ret
  obtain⟨hD1,hf1,hS,a2,a3,hR,hd⟩:=H.out
  obtain⟨hp,a1,a5,a6⟩:=H2.out
  rw[hS,hn'.out]
  have hfs:Fr [111,5] [] base w1 (w1.setCell ⟨f,1,none⟩ (X Y n)):=(Fr.refl _ _ _ _).set_ a2 (by decide) a1 1 _
  refine⟨rfl,DiskAt.refile f _ hD1 hfs ?_,(hf1.mono (by decide) (by simp)).trans (hfs.mono (by decide) (by simp))⟩
  refine files_put f (R f) _ ?_ hd a1 (a2.set_ 1 _) (own_set_far a3 a2 (by decide) 1 _) (by have:=hn'.out;dsimp only;omega) a5 a6 (fun g q hq hne=>hd g f q p hq hp hne)
  intro g q hq hne
  obtain⟨b1,b2,b3,b4,b5,b6⟩:=hR g q hq
  exact⟨b1,b2.far hne _,own_set_far b3 a2 (by decide) 1 _,b4,b5,b6⟩
 ·have hS:syncP D name=(e0,(beginP D).2):=by unfold syncP;rw[hF]
  rw[hF] at CF
  dsimp only[ptrV,Option.map_none] at CF
  generalize (beginP D).2=D1 at *
  have hb:(e0==0)=false:=by rcases he0 with rfl|rfl<;>rfl
  have HS:=jH hS
  clear hS hF
  go_enter func172,ntmps172
  go_wp2_with fail
  refine CF.out.mono ?_
  rintro e w1 ⟨rfl,hD1,hf1⟩
  have H:=jH (aI hD1 hf1)
  clear hD1 hf1 CF h
  go_wp2_with fail
  go_ret
  rw[HS.out]
  exact⟨rfl,H.out.1,H.out.2.mono (by decide) (by simp)⟩
end
section
open Go.RowKit Go.Maps
theorem clones_any {κ ν:Type}{ek:κ→Value}{ok:κ→Prop}{ev:ν→Value}{b:Nat}{m:List (κ×ν)}(w:World)(h:MapIs w ek ok ev b m):
  Calls Pg 34 #[.map (some b)] w fun e w'=>e=rT (.map (some w.heap.size))∧MapIs w' ek ok ev w.heap.size m∧Below w.heap.size w w'∧w'.heap.size=w.heap.size + 1:=by
 obtain⟨es,clock,hb,hm,hs,hk⟩:=h
 have hq:=fun w=>run_eql_map_nil_sl (P:=Pg) w 97 _ _ (some b) underlying97
 have H:=jH (aI hm (aI hs hk))
 clear hm hs hk
 go_enter func34,ntmps34
 go_wp2
 rw[run_callFunc_extern func93 (by kernel_rfl) (by kernel_rfl) (by kernel_rfl) (e:=Extern.MapsClone.clone) (by kernel_rfl),run_maps_clone_sl w 97 hb]
 simp only[Result.andThen]
 rw[Oper.upon_value]
 go_wp2
 rw[run_typeAssert_map_sl _ 97 _ _ _ _ underlying97]
 simp only[Result.andThen]
 rw[Oper.upon_value]
 go_wp2
 go_ret
 exact⟨rfl,⟨es,clock,(MapKept.heap_alloc w _).1,H.out.1,H.out.2.1,H.out.2.2⟩,(bR _ w).alloc (nR _) _,by simp⟩
theorem clonei_any {κ ν:Type}{ek:κ→Value}{ok:κ→Prop}{ev:ν→Value}{b:Nat}{m:List (κ×ν)}(w:World)(h:MapIs w ek ok ev b m):
  Calls Pg 328 #[.map (some b)] w fun e w'=>e=rT (.map (some w.heap.size))∧MapIs w' ek ok ev w.heap.size m∧Below w.heap.size w w'∧w'.heap.size=w.heap.size + 1:=by
 obtain⟨es,clock,hb,hm,hs,hk⟩:=h
 have hq:=fun w=>run_eql_map_nil_sl (P:=Pg) w 137 _ _ (some b) underlying137
 have H:=jH (aI hm (aI hs hk))
 clear hm hs hk
 go_enter func328,ntmps328
 go_wp2
 rw[run_callFunc_extern func93 (by kernel_rfl) (by kernel_rfl) (by kernel_rfl) (e:=Extern.MapsClone.clone) (by kernel_rfl),run_maps_clone_sl w 137 hb]
 simp only[Result.andThen]
 rw[Oper.upon_value]
 go_wp2
 rw[run_typeAssert_map_sl _ 137 _ _ _ _ underlying137]
 simp only[Result.andThen]
 rw[Oper.upon_value]
 go_wp2
 go_ret
 exact⟨rfl,⟨es,clock,(MapKept.heap_alloc w _).1,H.out.1,H.out.2.1,H.out.2.2⟩,(bR _ w).alloc (nR _) _,by simp⟩
theorem clonet_any {κ ν:Type}{ek:κ→Value}{ok:κ→Prop}{ev:ν→Value}{b:Nat}{m:List (κ×ν)}(w:World)(h:MapIs w ek ok ev b m):
  Calls Pg 329 #[.map (some b)] w fun e w'=>e=rT (.map (some w.heap.size))∧MapIs w' ek ok ev w.heap.size m∧Below w.heap.size w w'∧w'.heap.size=w.heap.size + 1:=by
 obtain⟨es,clock,hb,hm,hs,hk⟩:=h
 have hq:=fun w=>run_eql_map_nil_sl (P:=Pg) w 147 _ _ (some b) underlying147
 have H:=jH (aI hm (aI hs hk))
 clear hm hs hk
 go_enter func329,ntmps329
 go_wp2
 rw[run_callFunc_extern func93 (by kernel_rfl) (by kernel_rfl) (by kernel_rfl) (e:=Extern.MapsClone.clone) (by kernel_rfl),run_maps_clone_sl w 147 hb]
 simp only[Result.andThen]
 rw[Oper.upon_value]
 go_wp2
 rw[run_typeAssert_map_sl _ 147 _ _ _ _ underlying147]
 simp only[Result.andThen]
 rw[Oper.upon_value]
 go_wp2
 go_ret
 exact⟨rfl,⟨es,clock,(MapKept.heap_alloc w _).1,H.out.1,H.out.2.1,H.out.2.2⟩,(bR _ w).alloc (nR _) _,by simp⟩
end
section
open Go.RowKit
def readP (D:PDisk)(name:ByteArray):Option (List Nat):=(mget D.now name).map fun f=>(fileOf D.fs f).b
def ReadRet (r:Option (List Nat))(w:World)(e:Ending)(w':World):Prop:=
 match r with
 |none=>e=rT (tU #[G none 0 0,bL false])
 |some l=>∃A c,e=rT (tU #[G A l.length c,bL true])∧w'.ownsRow w.heap.size 5 1 (G A l.length c) l.length (bv l)∧l.length≤1048576∧AllB l
theorem own_nil0 {w:World}{base size n c:Nat}{e:TypeId}{A:Option Addr}{xs:List Value}(h:w.ownsRow base e size (G A n c) n xs)(hA:A=none):c=0:=by
 subst hA
 rcases h.2 with⟨h',_⟩|⟨g',cap',cur,h',_⟩
 ·injection h'
 ·injection h' with h1
  cases h1
theorem read_disk (base d mn ms:Nat)(D:PDisk)(name:ByteArray)(w:World)(h:DiskAt w base d mn ms D)(hname:okS name):
  Calls Pg 189 #[PT (some ⟨d,0,none⟩),.string name] w fun e w'=>ReadRet (readP D name) w e w'∧Below w.heap.size w w':=by
 obtain⟨cv,hb,hc⟩:=h.blk
 obtain⟨-,c1⟩:=hb.c2
 have hlk:=h.now.lookup (P:=Pg) encS (t:=97) underlying97 (z:=PT none) (by kernel_rfl) name hname false
 cases hm:mget D.now name with
 |none=>
  have HR:Hid (readP D name=none):=by show _=_;unfold readP;rw[hm];rfl
  rw[hm] at hlk
  simp only[Bool.false_eq_true,if_false] at hlk
  clear hb hc h hm
  go_enter func189,ntmps189
  go_wp2_with fail
  go_ret2
  exact⟨by rw[HR.out];rfl,bR _ _⟩
 |some f=>
  obtain⟨p,hp⟩:=mget_keys (h.nowIn _ (mget_some hm))
  have HR:Hid (readP D name=some p.b):=by show _=_;unfold readP;rw[hm,Option.map_some,fileOf_some hp]
  rw[hm] at hlk
  simp only[Bool.false_eq_true,if_false,encP] at hlk
  obtain⟨R,hR,hd⟩:=h.files
  obtain⟨a1,a2,a3,a4,a5,a6⟩:=hR f p hp
  obtain⟨A,c,eR⟩:=own_slice a3
  rw[eR] at a2 a3
  have g0:=a2.c1
  have CC:=jH (clone_any A p.b.length c w.heap.size p.b w (Reads.of_own a3) (nR _) (by omega) (own_nil0 a3))
  have H:=jH (aI a5 a6)
  generalize p.b=l at *
  clear hb hc h hm hR hd a1 a2 a3 a4 a5 a6 eR hp
  go_enter func189,ntmps189
  go_wp2_with fail
  refine CC.out.mono ?_
  rintro e w1 ⟨A1,c1',rfl,hown1,hb1⟩
  go_wp2_with fail
  go_ret2
  exact⟨by rw[HR.out];exact⟨A1,c1',rfl,hown1,H.out.1,H.out.2⟩,hb1⟩
def doP (c:Chg)(m:List (ByteArray×Nat)):List (ByteArray×Nat):=
 if c.kind=1 then (match c.f with|some f=>mput m c.name f|none=>m)
 else if c.kind=2 then (match mget m c.name with|some f=>mdel (mput m c.tt f) c.name|none=>m)
 else mdel m c.name
structure ChgOk (c:Chg)(m:List (ByteArray×Nat)):Prop where
 kind:c.kind=1∨c.kind=2∨c.kind=3
 name:okS c.name
 tt:okS c.tt
 f1:c.kind=1→∃f,c.f=some f
 f2:c.kind=2→∃f,mget m c.name=some f
theorem do_any (c:Chg)(mb base:Nat)(m:List (ByteArray×Nat))(w:World)(h:MapIs w Value.string okS encP mb m)(hc:ChgOk c m)(hbase:base≤mb):
  Calls Pg 35 #[aG #[X Y c.kind,.string c.name,.string c.tt,ptrV c.f],.map (some mb)] w fun e w'=>e=rT (tU #[])∧MapIs w' Value.string okS encP mb (doP c m)∧Fr [] [mb] base w w':=by
 have hlt:=h.lt
 have hs:base≤w.heap.size:=by omega
 have hq:=Blk.new w 104 #[X Y c.kind,.string c.name,.string c.tt,ptrV c.f]
 have hal:=(bR w.heap.size w).alloc (nR _) (cL #[X Y c.kind,.string c.name,.string c.tt,ptrV c.f] 104)
 have h1:=h.alloc (cL #[X Y c.kind,.string c.name,.string c.tt,ptrV c.f] 104)
 have hfr0:=(Fr.of_below [] [mb] hal hs)
 obtain⟨kind,name,tt,f⟩:=c
 obtain⟨hk,hn,ht,hf1,hf2⟩:=hc
 dsimp only at *
 obtain⟨q0,q1,q2,q3⟩:=hq.c4
 rcases hk with rfl|rfl|rfl
 ·obtain⟨fb,rfl⟩:=hf1 rfl
  have HP:Hid (doP ⟨1,name,tt,some fb⟩ m=mput m name fb):=rfl
  simp only[show ((1:Nat):Int)=(1:Int) from rfl] at h1 hfr0 q0 q1 q2 q3 hq hal⊢
  obtain⟨es,cl,hes,_⟩:=id h1
  obtain⟨w2,hup,hm2,hbut,hs2⟩:=h1.update (P:=Pg) encS (t:=97) underlying97 name hn fb
  have HF:=jH (aI hm2 (hfr0.but hes hbut (by simp) hbase (by simp;omega)))
  simp only[encP] at hup
  dsimp only[ptrV,Option.map_some] at *
  clear hm2 hbut hs2 hes h1 hfr0 hal hq h hf1 hf2
  go_enter func35,ntmps35
  go_wp2_with fail
  go_end0
  exact⟨rfl,by rw[HP.out];exact HF.out.1,HF.out.2⟩
 ·obtain⟨fb,hfb⟩:=hf2 rfl
  simp only[show ((2:Nat):Int)=(2:Int) from rfl] at h1 hfr0 q0 q1 q2 q3 hq hal⊢
  have HP:Hid (doP ⟨2,name,tt,f⟩ m=mdel (mput m tt fb) name):=by show _=_;unfold doP;simp[hfb]
  obtain⟨es,cl,hes,_⟩:=id h1
  have hlk:=h1.lookup (P:=Pg) encS (t:=97) underlying97 (z:=PT none) (by kernel_rfl) name hn false
  rw[hfb] at hlk
  simp only[Bool.false_eq_true,if_false] at hlk
  obtain⟨w2,hup,hm2,hbut,hs2⟩:=h1.update (P:=Pg) encS (t:=97) underlying97 tt ht fb
  have hq2:=hbut.blk hq (by have:=h1.lt;intro e;omega)
  obtain⟨-,p1⟩:=hq2.c2
  have hf2':=hfr0.but hes hbut (by simp) hbase (by simp;omega)
  obtain⟨es2,cl2,hes2,_⟩:=id hm2
  obtain⟨w3,hdel,hm3,hbut3,hs3⟩:=hm2.delete (P:=Pg) (ty:=0) encS (t:=97) underlying97 name hn
  have HF:=jH (aI hm3 (hf2'.but hes2 hbut3 (by simp) hbase (by rw[hs2];simp;omega)))
  simp only[encP] at hup hlk
  clear hm2 hbut hs2 hes h1 hfr0 hal hq h hf1 hf2 hq2 hf2' hes2 hm3 hbut3 hs3 hfb
  go_enter func35,ntmps35
  go_wp2_with fail
  go_end0
  exact⟨rfl,by rw[HP.out];exact HF.out.1,HF.out.2⟩
 ·have HP:Hid (doP ⟨3,name,tt,f⟩ m=mdel m name):=rfl
  simp only[show ((3:Nat):Int)=(3:Int) from rfl] at h1 hfr0 q0 q1 q2 q3 hq hal⊢
  obtain⟨es,cl,hes,_⟩:=id h1
  obtain⟨w3,hdel,hm3,hbut3,hs3⟩:=h1.delete (P:=Pg) (ty:=0) encS (t:=97) underlying97 name hn
  have HF:=jH (aI hm3 (hfr0.but hes hbut3 (by simp) hbase (by simp;omega)))
  clear hes h1 hfr0 hal hq h hf1 hf2 hm3 hbut3 hs3
  go_enter func35,ntmps35
  go_wp2_with fail
  go_end0
  exact⟨rfl,by rw[HP.out];exact HF.out.1,HF.out.2⟩
def iv (l:List Int):List Value:=l.map (Value.int .i64)
theorem iv_length (l:List Int):(iv l).length=l.length:=by simp[iv]
theorem iv_get {l:List Int}{j:Nat}(h:j < l.length):(iv l)[j]? =some (X Y l[j]):=by simp[iv,h]
theorem owni_cell {w:World}{base n c g:Nat}{e:TypeId}{l:List Int}(h:w.ownsRow base e 1 (G (some ⟨g,0,none⟩) n c) n (iv l))(j:Nat)(hj:j < n)(hl:j < l.length):w.cell? ⟨g,j,none⟩=some (X Y l[j]):=by
 rw[h.cellAt j (by omega),iv_get hl]
theorem owni_store {w:World}{base n c g:Nat}{e:TypeId}{l:List Int}(h:w.ownsRow base e 1 (G (some ⟨g,0,none⟩) n c) n (iv l))(j:Nat)(x:Int):
  (w.setCell ⟨g,j,none⟩ (X Y x)).ownsRow base e 1 (G (some ⟨g,0,none⟩) n c) n (iv (l.set j x)):=by
 have:=(h.stored j (X Y x)).1
 rwa [show (iv l).set j (X Y x)=iv (l.set j x) from by simp[iv,List.map_set]] at this
theorem owni_length {w:World}{base n:Nat}{e:TypeId}{v:Value}{l:List Int}(h:w.ownsRow base e 1 v n (iv l)):l.length=n:=by have:=h.1;rw[iv_length] at this;omega
structure Two (w w':World)(p g:Nat):Prop where
 os:w'.os=w.os
 tape:w'.tape=w.tape
 output:w'.output=w.output
 size:w'.heap.size=w.heap.size
 block:∀k,k≠p→k≠g→w'.heap[k]? =w.heap[k]?
theorem Two.refl (w:World)(p g:Nat):Two w w p g:=⟨rfl,rfl,rfl,rfl,fun _ _ _=>rfl⟩
theorem Two.drew {w w':World}{p g:Nat}(h:Two w w' p g):Two w w'.drew p g:=⟨h.os,h.tape,h.output,h.size,h.block⟩
theorem Two.set_ {w w':World}{p g:Nat}(h:Two w w' p g){a:Addr}(ha:a.block=p∨a.block=g)(u:Value):Two w (w'.setCell a u) p g:=
 ⟨h.os,h.tape,h.output,by simpa [World.setCell] using h.size,fun k hp hg=>by
  rw[Below.heap_setCell _ _ _ _ (by rcases ha with e|e<;>rw[e]<;>assumption)]
  exact h.block k hp hg⟩
theorem Two.blk {w w':World}{p g b:Nat}{t:TypeId}{cs:Array Value}(h:Two w w' p g)(hb:Blk w b t cs)(h1:b≠p)(h2:b≠g):Blk w' b t cs:=(h.block b h1 h2).trans hb
theorem Two.below {w w':World}{p g B:Nat}(h:Two w w' p g)(h1:B≤p)(h2:B≤g):Below B w w':=⟨h.os,h.tape,h.output,Nat.le_of_eq h.size.symm,fun k hk=>h.block k (by omega) (by omega)⟩
theorem Two.own {w w':World}{p g base n size:Nat}{e:TypeId}{v:Value}{xs:List Value}(h:Two w w' p g)(ho:w.ownsRow base e size v n xs)(h1:v.ownBlock≠some p)(h2:v.ownBlock≠some g):w'.ownsRow base e size v n xs:=by
 refine⟨ho.1,?_⟩
 rcases ho.2 with hn|⟨b,cap,cur,rfl,hb,hgg,rest⟩
 ·exact .inl hn
 ·refine .inr ⟨b,cap,cur,rfl,hb,?_,rest⟩
  rw[h.block b (by simpa [Value.ownBlock] using h1) (by simpa [Value.ownBlock] using h2)]
  exact hgg
theorem next_any (p g n c base:Nat)(id:Int)(at_ skip J v:Nat)(t:List Int)(w:World)(hp:Blk w p 375 #[X Y id,X Y at_,X Y skip])
  (ho:w.ownsRow base 3 1 (G (some ⟨g,0,none⟩) n c) n (iv t))(hn:n≤251)(hat:at_ < n)(hsk:skip < 4294967296)(hw:Walks t at_ skip n J v):
  Calls Pg 286 #[PT (some ⟨p,0,none⟩),G (some ⟨g,0,none⟩) n c] w fun e w'=>e=rT (tU #[])∧
   Blk w' p 375 #[X Y id,X Y v,X Y skip]∧w'.ownsRow base 3 1 (G (some ⟨g,0,none⟩) n c) n (iv (t.set v id))∧Two w w' p g:=by
 have hlen:=owni_length ho
 have hne:g≠p:=fun e=>by
  have:=own_blk_ne ho hp (by decide)
  exact this (by simp[Value.ownBlock,e])
 go_enter func286,ntmps286
 go_wp2
 go_loopg [] J (fun k wr=>∃i:Nat,i + k=J∧Blk wr p 375 #[X Y id,X Y ((at_ + i * skip) % n:Nat),X Y skip]∧wr.ownsRow base 3 1 (G (some ⟨g,0,none⟩) n c) n (iv t)∧Two w wr p g)
 case atStart=>exact⟨0,by omega,by simpa [Nat.mod_eq_of_lt hat] using hp,ho,Two.refl _ _ _⟩
 case round=>
  obtain⟨i,hik,hblk,hown,htwo⟩:=hrel
  have hn0:0 < n:=by omega
  have ha:(at_ + i * skip) % n < n:=Nat.mod_lt _ hn0
  have hstep:(((at_ + i * skip) % n:Nat):Int) + (skip:Int)=(((at_ + i * skip) % n + skip:Nat):Int):=by omega
  have hmod:((((at_ + i * skip) % n + skip:Nat):Int)) % (n:Int)=(((at_ + (i + 1) * skip) % n:Nat):Int):=by
   rw[←Int.natCast_emod,Nat.mod_add_mod,Nat.add_assoc,Nat.add_mul,Nat.one_mul]
  have HS:=jH (aI hstep hmod)
  have htk:Hid (i < J→t[(at_ + i * skip) % n]?≠some (-1)):=hw.taken i
  have hfr:Hid (i=J→(at_ + i * skip) % n=v∧t[v]? =some (-1)):=fun e=>⟨by rw[e];exact hw.goes,hw.free⟩
  clear hstep hmod
  generalize (at_ + i * skip) % n=a at *
  generalize ha':(at_ + (i + 1) * skip) % n=a' at *
  have HA:=jH ha'
  clear ha'
  have hal:a < t.length:=by omega
  have hct:=owni_cell hown a ha hal
  have hcf:=hown.frozenAt a
  obtain⟨hc0,hc1,hc2⟩:=hblk.c3
  have hf1:=hblk.frozen 1
  have hgl:Hid (t[a]? =some t[a]):=List.getElem?_eq_getElem hal
  by_cases hk0:i < J
  ·have hx:t[a]≠-1:=fun e=>htk.out hk0 (by rw[hgl.out,e])
   have hb1:(t[a]==-1)=false:=by simpa using hx
   have hb2:(t[a] !=-1)=true:=by simpa using hx
   clear hx
   generalize t[a]=x at hct hb1 hb2 hgl
   obtain⟨hstep,hmod⟩:=HS.out
   have hsum:(a:Int) + (skip:Int)=((a + skip:Nat):Int):=hstep
   have hsl:a + skip < 4294967547:=by omega
   generalize a + skip=z at *
   clear hal hstep
   go_wp2
   go_region
   go_wp2
   go_roundg (gk - 1)
   case measure=>omega
   case rel=>
    refine⟨i + 1,by omega,?_,?_,?_⟩
    ·rw[HA.out]
     exact hblk.set_ 1 (X Y a')
    ·exact own_set_far hown hblk (by decide) 1 _
    ·exact(htwo.set_ (a:=⟨p,1,none⟩) (.inl rfl) _).drew
  ·have hiJ:i=J:=by omega
   obtain⟨e1,e2⟩:=hfr.out hiJ
   have E1:=jH e1
   have hx:t[a]=-1:=by
    have h:t[a]? =some (-1):=by rw[e1];exact e2
    rw[List.getElem?_eq_getElem hal] at h
    exact Option.some.inj h
   rw[hx] at hct
   clear hx e1 e2 hgl
   go_wp2
   go_region
   go_wp2
   go_end0
   have h2:Blk (wr.setCell ⟨g,a,none⟩ (X Y id)) p 375 #[X Y id,X Y a,X Y skip]:=hblk.far (p:=⟨g,a,none⟩) (Ne.symm hne) _
   have h3:=owni_store hown a id
   rw[E1.out] at h2 h3
   rw[E1.out]
   exact⟨rfl,h2,h3,(htwo.set_ (a:=⟨g,v,none⟩) (.inr rfl) _).drew⟩
end
section
open Go.RowKit
def fv (p:Nat):Value:=.func (.func 286) #[PT (some ⟨p,0,none⟩)] #[]
def fvs (ps T:List Nat):List Value:=T.map fun b=>fv (ps[b]?.getD 0)
theorem fvs_length (ps T:List Nat):(fvs ps T).length=T.length:=by simp[fvs]
theorem fvs_append (ps:List Nat)(p:Nat)(T:List Nat)(h:∀b∈T,b < ps.length):fvs (ps++[p]) T=fvs ps T:=by
 unfold fvs
 apply List.map_congr_left
 intro b hb
 rw[List.getElem?_append_left (h b hb)]
theorem fvs_snoc (ps:List Nat)(p k j:Nat)(T:List Nat)(h:ps.length=k):fvs (ps++[p]) (T++List.replicate (j + 1) k)=fvs (ps++[p]) (T++List.replicate j k)++[fv p]:=by
 rw[List.replicate_succ',←List.append_assoc]
 simp[fvs,←h]
theorem own_own_ne {w:World}{b1 b2 s1 s2 n1 n2:Nat}{e1 e2:TypeId}{v1 v2:Value}{x1 x2:List Value}(h:w.ownsRow b1 e1 s1 v1 n1 x1)(h':w.ownsRow b2 e2 s2 v2 n2 x2)(hne:e1≠e2):v1.ownBlock=none∨v1.ownBlock≠v2.ownBlock:=by
 rcases h.2 with⟨rfl,_⟩|⟨g,cap,cur,rfl,_,hh,_⟩
 ·exact .inl rfl
 ·right
  have:=own_blk_ne h' hh (fun e=>hne e.symm)
  simpa [Value.ownBlock] using fun e=>this e.symm
structure RowsIn (w:World)(base:Nat)(bs:List Bk)(ps ats:List Nat):Prop where
 plen:ps.length=bs.length
 alen:ats.length=bs.length
 lo:∀p∈ps,base≤p∧p < w.heap.size
 inc:ps.Pairwise (·< ·)
 blk:∀(j:Nat) (b:Bk) (p a:Nat),bs[j]? =some b→ps[j]? =some p→ats[j]? =some a→Blk w p 375 #[X Y b.id,X Y a,X Y b.skip]
section
variable {w w':World}{base:Nat}{bs:List Bk}{ps ats:List Nat}
theorem RowsIn.at_ (h:RowsIn w base bs ps ats){p:Nat}(hp:p∈ps):∃cs,Blk w p 375 cs:=by
 obtain⟨j,hj,rfl⟩:=List.getElem_of_mem hp
 have h1:j < bs.length:=by rw[←h.plen];exact hj
 have h2:j < ats.length:=by rw[h.alen];exact h1
 exact⟨_,h.blk j _ _ _ (List.getElem?_eq_getElem h1) (List.getElem?_eq_getElem hj) (List.getElem?_eq_getElem h2)⟩
theorem RowsIn.keep (h:RowsIn w base bs ps ats)(hk:∀p∈ps,w'.heap[p]? =w.heap[p]?)(hs:w.heap.size≤w'.heap.size):RowsIn w' base bs ps ats:=
 ⟨h.plen,h.alen,fun p hp=>⟨(h.lo p hp).1,Nat.lt_of_lt_of_le (h.lo p hp).2 hs⟩,h.inc,fun j b p a hb hp ha=>(hk p (List.mem_of_getElem? hp)).trans (h.blk j b p a hb hp ha)⟩
theorem RowsIn.below (h:RowsIn w base bs ps ats)(hb:Below w.heap.size w w'):RowsIn w' base bs ps ats:=h.keep (fun p hp=>hb.block p (h.lo p hp).2) hb.size
theorem RowsIn.grown (h:RowsIn w base bs ps ats){b n s:Nat}{e:TypeId}{v:Value}{xs:List Value}(ho:w.ownsRow b e s v n xs)(hne:e≠375)(hg:w.grownBy w' v.ownBlock):RowsIn w' base bs ps ats:=
 h.keep (fun p hp=>by
  obtain⟨cs,hc⟩:=h.at_ hp
  exact hg.block p (h.lo p hp).2 (fun e=>own_blk_ne ho hc hne e.symm)) hg.size
theorem RowsIn.snoc (h:RowsIn w base bs ps ats)(b:Bk)(p a:Nat)(hp:Blk w p 375 #[X Y b.id,X Y a,X Y b.skip])(hb:base≤p)(hlt:∀q∈ps,q < p):
  RowsIn w base (bs++[b]) (ps++[p]) (ats++[a]):=by
 refine⟨by simp[h.plen],by simp[h.alen],?_,?_,?_⟩
 ·intro q hq
  rcases List.mem_append.1 hq with hq|hq
  ·exact h.lo q hq
  ·rw[List.mem_singleton.1 hq];exact⟨hb,hp.lt⟩
 ·rw[List.pairwise_append]
  refine⟨h.inc,by simp,?_⟩
  intro q hq r hr
  rw[List.mem_singleton.1 hr]
  exact hlt q hq
 ·intro j b' p' a' hb' hp' ha'
  have hl1:=h.plen
  have hl2:=h.alen
  by_cases hj:j < bs.length
  ·rw[List.getElem?_append_left hj] at hb'
   rw[List.getElem?_append_left (by omega)] at hp' ha'
   exact h.blk j b' p' a' hb' hp' ha'
  ·have hj':j=bs.length:=by
    have:=(List.getElem?_eq_some_iff.1 hb').1
    simp at this
    omega
   rw[List.getElem?_append_right (by omega)] at hb' hp' ha'
   rw[hj',Nat.sub_self] at hb'
   rw[show j - ps.length=0 from by omega] at hp'
   rw[show j - ats.length=0 from by omega] at ha'
   simp at hb' hp' ha'
   subst hb' hp' ha'
   exact hp
theorem RowsIn.two (h:RowsIn w base bs ps ats){j p g v:Nat}{b:Bk}(hb:bs[j]? =some b)(hp:ps[j]? =some p)(ht:Two w w' p g)(hg:g∉ps)
  (hn:Blk w' p 375 #[X Y b.id,X Y v,X Y b.skip]):RowsIn w' base bs ps (ats.set j v):=by
 refine⟨h.plen,by simpa using h.alen,fun q hq=>⟨(h.lo q hq).1,by rw[ht.size];exact(h.lo q hq).2⟩,h.inc,?_⟩
 intro i b' p' a' hb' hp' ha'
 by_cases hij:i=j
 ·subst hij
  rw[hb] at hb'
  rw[hp] at hp'
  cases hb'
  cases hp'
  have hi:i < ats.length:=by
   have:=(List.getElem?_eq_some_iff.1 ha').1
   simpa using this
  rw[List.getElem?_set_self hi] at ha'
  cases ha'
  exact hn
 ·rw[List.getElem?_set_ne (by omega)] at ha'
  have hb0:=h.blk i b' p' a' hb' hp' ha'
  have hne:p'≠p:=by
   have hi:=(List.getElem?_eq_some_iff.1 hp')
   have hj:=(List.getElem?_eq_some_iff.1 hp)
   obtain⟨hi1,rfl⟩:=hi
   obtain⟨hj1,rfl⟩:=hj
   have hpw:=List.pairwise_iff_getElem.1 h.inc
   rcases Nat.lt_or_ge i j with hlt|hge
   ·have:=hpw i j hi1 hj1 hlt;omega
   ·have:=hpw j i hj1 hi1 (by omega);omega
  exact ht.blk hb0 hne (fun e=>hg (by rw[←e];exact List.mem_of_getElem? hp'))
end
end
section
open Go.RowKit
theorem infoI:(Pg.info? 3).map (fun i=>(i.zero,i.size,i.bytes))=some (some (X Y 0),1,8):=by kernel_rfl
theorem infoF:(Pg.info? 228).map (fun i=>(i.zero,i.size,i.bytes))=some (some .nilFunc,1,8):=by kernel_rfl
theorem table_may (A:Option Addr)(na ca B n:Nat)(l:List Be)(w:World)(hr:Reads w B 3 A na (bks l))(hB:B≤w.heap.size)(hok:BesOk l)(hna:na≤46912496118442)(hnc:na≤ca)(hm:mayN n=true):
  Calls Pg 178 #[G A na ca,X Y n] w fun e w'=>∃A' c',e=rT (G A' n c')∧w'.ownsRow w.heap.size 3 1 (G A' n c') n (iv (tableF l n))∧Below w.heap.size w w':=by
 obtain⟨h3,h251⟩:=may_bounds hm
 have HM:=jH (may_any n (by omega))
 rw[hm] at HM
 obtain⟨i0,hi,hz0,hz1,hz2⟩:=info_parts infoI
 have hlen:=hr.be_length
 go_enter func178,ntmps178
 go_wp2_with (first|(at_make;refine stop_ ?_)|(go_at_call 83;refine(HM.out _).mono ?_;rintro e w' ⟨rfl,rfl⟩))
 refine on_ ?_
 refine wpList_make_full _ rfl _ _ 51 rfl w.heap.size 3 i0 _ 1 underlying51 hi hz0 hz1 _ _ _ _ n rfl rfl rfl rfl (by rw[hz2];omega) (by unfold maxLen;omega) (nR _) ?_
 intro w1 hown hg
 have hb1:Below w.heap.size w w1:=(bR _ _).grown hg (nR _) (by simp)
 have hown1:w1.ownsRow w.heap.size 3 1 (G (some ⟨w.heap.size,0,none⟩) n n) n (iv (List.replicate 0 (-1)++List.replicate (n - 0) 0)):=by
  have e:(madeCells (Value.int IntKind.i64 0).cells (n * 1)).toList=iv (List.replicate 0 (-1)++List.replicate (n - 0) 0):=by
   rw[Nat.mul_one]
   show (madeCells #[Value.int IntKind.i64 0] n).toList=_
   rw[toList_madeCells_one]
   simp[iv]
  rw[←e]
  exact hown
 clear hown hg
 go_wp2_with fail
 go_loopw [21] (fun i wr=>∃k:Nat,k≤n∧i=X Y k∧wr.ownsRow w.heap.size 3 1 (G (some ⟨w.heap.size,0,none⟩) n n) n (iv (List.replicate k (-1)++List.replicate (n - k) 0))∧Below w.heap.size w wr) (fun i _=>n - (intOf i).toNat)
 case atStart=>exact⟨0,by omega,rfl,hown1,hb1⟩
 case round=>
  obtain⟨k,hk,rfl,hown,hbr⟩:=hrel
  clear hown1 hb1
  by_cases hkn:k < n
  ·have hl:(List.replicate k (-1:Int)++List.replicate (n - k) 0).length=n:=by simp;omega
   have hc:=owni_cell hown k hkn (by rw[hl];exact hkn)
   have hf:=hown.frozenAt k
   generalize (List.replicate k (-1:Int)++List.replicate (n - k) 0)[k]=x at hc
   have hset:Hid ((List.replicate k (-1:Int)++List.replicate (n - k) 0).set k (-1)=List.replicate (k + 1) (-1)++List.replicate (n - (k + 1)) 0):=by
    show _=_
    rw[List.set_append_right _ _ (by simp),List.length_replicate,Nat.sub_self,show n - k=(n - (k + 1)) + 1 from by omega,List.replicate_succ,List.set_cons_zero,List.replicate_succ' (n:=k),List.append_assoc]
    rfl
   go_wp2_with fail
   go_roundw
   case rel=>
    refine⟨k + 1,by omega,by go_num,?_,hbr.setCell (p:=⟨w.heap.size,k,none⟩) (nR _) _⟩
    have:=owni_store hown k (-1)
    rw[hset.out] at this
    exact this
   case measure=>simp[intOf];omega
  ·have hkk:k=n:=by omega
   have hown2:wr.ownsRow w.heap.size 3 1 (G (some ⟨w.heap.size,0,none⟩) n n) n (iv (List.replicate n (-1))):=by
    have:=hown
    rwa [hkk,Nat.sub_self,List.replicate_zero,List.append_nil] at this
   clear hown
   go_wp2_with fail
   refine(maymany A na ca B l wr (hr.below (hbr.mono hB)) (nT hB hbr.size) hok hna hnc).mono ?_
   rintro e w2 ⟨⟨bb,rfl,hbb⟩,hb2⟩
   have hB2:Below w.heap.size w w2:=hbr.trans (hb2.mono hbr.size)
   have hlt2:w.heap.size < wr.heap.size:=by
    rcases hown2.2 with⟨h,_⟩|⟨g,cap,cur,h,_,hh,_⟩
    ·cases h
    ·cases h;exact(Array.getElem?_eq_some_iff.1 hh).1
   have hown3:=own_below hown2 hb2
   clear hown2
   rcases bb with _|_
   ·have hno:Hid (tableF l n=List.replicate n (-1)):=tableF_no (fun h=>by rw[hlen] at h;exact Bool.false_ne_true (hbb.2 h))
    go_wp2_with fail
    go_ret
    refine⟨_,_,rfl,?_,hB2⟩
    rw[hno.out]
    exact hown3
   ·have hmay:MayB na l:=hbb.1 rfl
    have hyes:Hid (tableF l n=tableB (l.map (bkOf n)) n):=tableF_yes (by rw[hlen];exact hmay)
    have hgood:Good (l.map (bkOf n)) n:=good_of hm (by rw[hlen];exact hmay)
    have HG:Hid (MayB na l∧Good (l.map (bkOf n)) n):=⟨hmay,hgood⟩
    have hna16:na≤16:=hmay.2.1
    have hna0:0 < na:=hmay.1
    clear hbb hmay hgood
    go_wp2_with fail
    have hg2:w.heap.size < w2.heap.size:=by have:=hb2.size;omega
    go_loopw [7,34] (fun v i wr=>∃(k:Nat) (ps:List Nat) (A7:Option Addr) (c7 m7:Nat),k≤na∧i=X Y k∧v=G A7 m7 c7∧
      wr.ownsRow w.heap.size 228 1 (G A7 m7 c7) m7 (fvs ps (turnsOf 0 ((l.take k).map (bkOf n))))∧RowsIn wr w.heap.size ((l.take k).map (bkOf n)) ps (((l.take k).map (bkOf n)).map Bk.off)∧
      wr.ownsRow w.heap.size 3 1 (G (some ⟨w.heap.size,0,none⟩) n n) n (iv (List.replicate n (-1)))∧Below w.heap.size w wr∧w.heap.size < wr.heap.size∧m7≤10 * k) (fun _ i _=>na - (intOf i).toNat)
    case atStart=>exact⟨0,[],none,0,0,by omega,rfl,rfl,World.ownsRow_nil _ _ _ _,⟨rfl,rfl,by simp,by simp,by simp⟩,hown3,hB2,hg2,by omega⟩
    case round=>
     obtain⟨k,ps,A7,c7,m7,hk,rfl,rfl,hown7,hrows,hownt,hbr',hgr,hm7⟩:=hrel
     clear hown3 hB2 hg2 hb2 hlt2 hbr
     by_cases hkna:k < na
     ·obtain⟨b,off,hl,rfl,hc0,hc1,hc2⟩:=(hr.below (hbr'.mono hB)).be hkna
      have hokb:=hok _ (List.getElem_mem hl)
      have hmayk:=HG.out.1.2.2 k hkna
      have HT:Hid ((l.take (k + 1)).map (bkOf n)=(l.take k).map (bkOf n)++[bkOf n l[k]]):=by
       show _=_
       rw[List.take_succ_eq_append_getElem hl,List.map_append]
       rfl
      obtain⟨_,hid0,hid1,hw0,hw1,_⟩:=hmayk
      have HB1:Hid ((bkOf n l[k]).id=l[k].id∧(bkOf n l[k]).weight=l[k].weight.toNat∧(bkOf n l[k]).off=rowOff l[k].id n∧(bkOf n l[k]).skip=rowSkip l[k].id n):=⟨rfl,rfl,rfl,rfl⟩
      obtain⟨wt,hwt,hwt1,hwt10⟩:∃wt:Nat,l[k].weight=(wt:Int)∧1≤wt∧wt≤10:=⟨l[k].weight.toNat,by omega,by omega,by omega⟩
      rw[hwt] at hc2 HB1
      generalize bkOf n l[k]=bk at HT HB1
      generalize l[k].id=x at *
      generalize l[k].addr=ad at *
      clear hokb hwt hw0 hw1
      have hbw:Below w.heap.size w (wr.alloc (cL #[X Y x,X Z ad,X Y wt] 34)):=hbr'.alloc (by omega) _
      have hbox:Blk (wr.alloc (cL #[X Y x,X Z ad,X Y wt] 34)) wr.heap.size 34 #[X Y x,X Z ad,X Y wt]:=Blk.new _ _ _
      have hown7b:=hown7.alloc (cL #[X Y x,X Z ad,X Y wt] 34)
      have hownb:=hownt.alloc (cL #[X Y x,X Z ad,X Y wt] 34)
      have hrowsb:=hrows.below (w':=wr.alloc (cL #[X Y x,X Z ad,X Y wt] 34)) ((bR _ _).alloc (nR _) _)
      have hszb:(wr.alloc (cL #[X Y x,X Z ad,X Y wt] 34)).heap.size=wr.heap.size + 1:=by simp
      obtain⟨hd0,-,hd2⟩:=hbox.c3
      clear hown7 hownt hrows
      go_wp2_with fail
      generalize wr.alloc (cL #[X Y x,X Z ad,X Y wt] 34)=w3 at *
      refine(row_any x n h3 h251 hm (by omega) w3).mono ?_
      rintro e w4 ⟨rfl,hb4⟩
      have hbox4:=hbox.below hb4 hbox.lt
      have hown74:=own_below hown7b hb4
      have hown4:=own_below hownb hb4
      have hrows4:=hrowsb.below hb4
      have hB4:Below w.heap.size w w4:=hbw.trans (hb4.mono (by omega))
      have hs4:=hb4.size
      clear hbox hown7b hownb hrowsb hbw hd0 hd2
      obtain⟨hd0,-,hd2⟩:=hbox4.c3
      have hd2':(w4.alloc (cL #[X Y x,X Y (rowOff x n:Nat),X Y (rowSkip x n:Nat)] 375)).cell? ⟨wr.heap.size,2,none⟩=some (X Y wt):=by
       rw[World.cell?_alloc_lt _ _ _ (World.block_lt_of_cell? w4 _ hd2)];exact hd2
      have hpl:ps.length=k:=by rw[hrows4.plen];simp;omega
      have hT0:∀q∈turnsOf 0 ((l.take k).map (bkOf n)),q < ps.length:=fun q hq=>by
       have:=takes_lt (bs:=(l.take k).map (bkOf n)) hq
       rw[hrows4.plen];exact this
      have hrow5:Blk (w4.alloc (cL #[X Y x,X Y (rowOff x n:Nat),X Y (rowSkip x n:Nat)] 375)) w4.heap.size 375 #[X Y x,X Y (rowOff x n:Nat),X Y (rowSkip x n:Nat)]:=Blk.new _ _ _
      have hrows5:=(hrows4.below (w':=w4.alloc (cL #[X Y x,X Y (rowOff x n:Nat),X Y (rowSkip x n:Nat)] 375)) ((bR _ _).alloc (nR _) _)).snoc bk w4.heap.size bk.off
       (by rw[HB1.out.1,HB1.out.2.2.1,HB1.out.2.2.2];exact hrow5) (by omega) (fun q hq=>(hrows4.lo q hq).2)
      have hown75:=hown74.alloc (cL #[X Y x,X Y (rowOff x n:Nat),X Y (rowSkip x n:Nat)] 375)
      have hown5:=hown4.alloc (cL #[X Y x,X Y (rowOff x n:Nat),X Y (rowSkip x n:Nat)] 375)
      have hB5:Below w.heap.size w (w4.alloc (cL #[X Y x,X Y (rowOff x n:Nat),X Y (rowSkip x n:Nat)] 375)):=hB4.alloc (by omega) _
      have hs5:w.heap.size < (w4.alloc (cL #[X Y x,X Y (rowOff x n:Nat),X Y (rowSkip x n:Nat)] 375)).heap.size:=by simp;omega
      rw[←fvs_append ps w4.heap.size _ hT0] at hown75
      have HPL:=jH hpl
      have hend:Hid (turnsOf 0 ((l.take (k + 1)).map (bkOf n))=turnsOf 0 ((l.take k).map (bkOf n))++List.replicate wt k):=by
       show _=_
       rw[HT.out,turnsOf_snoc,HB1.out.2.1]
       congr 2
       simp
       omega
      have hend2:Hid (((l.take (k + 1)).map (bkOf n)).map Bk.off=((l.take k).map (bkOf n)).map Bk.off++[bk.off]):=by
       show _=_
       rw[HT.out]
       simp
      generalize turnsOf 0 ((l.take k).map (bkOf n))=T at *
      clear hrow5 hrows4 hown74 hown4 hT0 hpl
      go_wp2_with fail
      clear hd0 hd2 hbox4
      obtain⟨wo,hwo⟩:∃wo:World,wo=wr:=⟨_,rfl⟩
      generalize hp4:w4.heap.size=p4 at *
      generalize w4.alloc (cL #[X Y x,X Y (rowOff x n:Nat),X Y (rowSkip x n:Nat)] 375)=w5 at *
      clear hwo hp4 hd2'
      go_loopw [7,53] (fun v i wq=>∃(j:Nat) (A8:Option Addr) (c8 m8:Nat),j≤wt∧i=X Y j∧v=G A8 m8 c8∧Hid (m8=m7 + j)∧
        wq.ownsRow w.heap.size 228 1 (G A8 m8 c8) m8 (fvs (ps++[p4]) (T++List.replicate j k))∧RowsIn wq w.heap.size ((l.take k).map (bkOf n)++[bk]) (ps++[p4]) (((l.take k).map (bkOf n)).map Bk.off++[bk.off])∧
        wq.ownsRow w.heap.size 3 1 (G (some ⟨w.heap.size,0,none⟩) n n) n (iv (List.replicate n (-1)))∧Below w.heap.size w wq∧w.heap.size < wq.heap.size) (fun _ i _=>wt - (intOf i).toNat)
      case atStart=>exact⟨0,A7,c7,m7,by omega,rfl,rfl,rfl,by simpa using hown75,hrows5,hown5,hB5,hs5⟩
      case round=>
       obtain⟨j,A8,c8,m8,hj,rfl,rfl,hm8,hown8,hrows8,hownt8,hb8,hs8⟩:=hrel
       clear hown75 hrows5 hown5 hB5 hs5
       by_cases hjw:j < wt
       ·have hm8b:m8≤1000:=by have:=hm8.out;omega
        go_wp2_with (at_builtin;refine stop_ ?_)
        refine on_ ?_
        refine wpList_append_1 rfl (.tmp 55) (.tmp 58) _ rfl 228 _ infoF rfl underlying370 w.heap.size (G A8 m8 c8) m8 _ rfl (hown8.alloc _) (wr.heap.size + 1) _ 1 1 [fv p4] rfl
         (reads_new _ _ _ _ 1 _ _ (by rfl) (by rfl) (by rfl) _ (by rfl)) (by intro u hu;rw[List.mem_singleton.1 hu];rfl) (m8 + 1) rfl (by omega) (by simp;omega) ?_
        intro A9 c9 w9 hown9 hb9 hg9 _
        have hB9:Below w.heap.size w w9:=(hb8.alloc (by omega) _).trans hb9
        have hs9:w.heap.size < w9.heap.size:=by have:=hb9.size;simp at this;omega
        have hrows9:=(hrows8.below (w':=wr.alloc (cL #[fv p4] 228)) ((bR _ _).alloc (nR _) _)).grown (hown8.alloc _) (by decide) hg9
        have hownt9:=(hownt8.alloc (cL #[fv p4] 228)).kept hg9 (own_own_ne (hownt8.alloc (cL #[fv p4] 228)) (hown8.alloc _) (by decide))
        rw[←fvs_snoc ps p4 k j T HPL.out] at hown9
        clear hown8 hrows8 hownt8 hb8 hb9 hg9
        go_wp2_with fail
        go_roundw
        case rel=>exact⟨j + 1,A9,c9,m8 + 1,by omega,by go_num,rfl,by show _=_;have:=hm8.out;omega,hown9,hrows9,hownt9,hB9,hs9⟩
        case measure=>simp[intOf];omega
       ·have hjj:j=wt:=by omega
        have hfin:Hid (wr.ownsRow w.heap.size 228 1 (G A8 m8 c8) m8 (fvs (ps++[p4]) (turnsOf 0 ((l.take (k + 1)).map (bkOf n))))∧RowsIn wr w.heap.size ((l.take (k + 1)).map (bkOf n)) (ps++[p4]) (((l.take (k + 1)).map (bkOf n)).map Bk.off)):=by
         rw[hend.out,hend2.out,HT.out,←hjj]
         exact⟨hown8,hrows8⟩
        clear hown8 hrows8
        go_wp2_with fail
        go_roundw
        case rel=>exact⟨k + 1,ps++[p4],A8,c8,m8,by omega,by go_num,rfl,hfin.out.1,hfin.out.2,hownt8,hb8,hs8,by have:=hm8.out;omega⟩
        case measure=>simp[intOf];omega
     ·have hkk':k=na:=by omega
      have hfin:Hid (wr.ownsRow w.heap.size 228 1 (G A7 m7 c7) m7 (fvs ps (takes (l.map (bkOf n))))∧RowsIn wr w.heap.size (l.map (bkOf n)) ps ((l.map (bkOf n)).map Bk.off)):=by
       have h1:=hown7
       have h2:=hrows
       rw[List.take_of_length_le (by omega)] at h1 h2
       exact⟨h1,h2⟩
      clear hown7 hrows
      go_wp2_with fail
      clear hkk'
      obtain⟨hown7,hrows⟩:=hfin.out
      clear hfin
      have hGood:=HG.out.2
      have hT7:m7=(takes (l.map (bkOf n))).length:=by have:=hown7.1;rw[fvs_length] at this;omega
      have hTpos:=takes_pos hGood
      have HF:Hid (tableF l n=(run (l.map (bkOf n)) n n).2):=hyes.out
      have hskip:∀b∈l.map (bkOf n),b.skip < 4294967296:=by
       intro b hb
       obtain⟨y,_,rfl⟩:=List.mem_map.1 hb
       show rowSkip y.id n < 4294967296
       have:mixN 2 (idB y.id) % (n - 1) < n - 1:=Nat.mod_lt _ (by omega)
       unfold rowSkip
       omega
      generalize l.map (bkOf n)=bs at *
      have HT7:=jH hT7
      have hm70:0 < m7:=by omega
      have hm7b:m7≤1000:=by omega
      clear hT7 hTpos hyes
      go_loopg [64] n (fun gk i wq=>∃q:Nat,q + gk=n∧i=X Y q∧RowsIn wq w.heap.size bs ps (run bs n q).1∧wq.ownsRow w.heap.size 3 1 (G (some ⟨w.heap.size,0,none⟩) n n) n (iv (run bs n q).2)∧
        wq.ownsRow w.heap.size 228 1 (G A7 m7 c7) m7 (fvs ps (takes bs))∧Below w.heap.size w wq)
      case atStart=>exact⟨0,by omega,rfl,hrows,hownt,hown7,hbr'⟩
      case round=>
       obtain⟨q,hq,rfl,hrq,htq,h7q,hbq⟩:=hrel
       clear hrows hownt hown7 hbr' hgr
       by_cases hqn:q < n
       ·have hrq1:q % m7 < m7:=Nat.mod_lt _ hm70
        have hmodq:((q:Int) % (m7:Int))=((q % m7:Nat):Int):=(Int.natCast_emod q m7).symm
        have hTq:q % m7 < (takes bs).length:=by have:=HT7.out;omega
        have hinv:=run_inv hGood q (by omega)
        have hbl:(takes bs)[q % m7] < bs.length:=takes_lt (List.getElem_mem hTq)
        obtain⟨_,at_,J,hat,hatn,hwalk,hturn⟩:=turn_inv hGood hinv hqn hbl
        have hrun:Hid (run bs n (q + 1)=turn bs n (run bs n q) (takes bs)[q % m7]):=by
         show _=_
         rw[run,←HT7.out,List.getElem?_eq_getElem hTq]
         rfl
        have hpl:(takes bs)[q % m7] < ps.length:=by rw[hrq.plen];exact hbl
        obtain⟨g7,rfl,hg7,_⟩:=own_head h7q hm70
        have hcell:wr.cell? ⟨g7,q % m7,none⟩=some (fv ps[(takes bs)[q % m7]]):=by
         rw[h7q.cellAt (q % m7) (by omega)]
         unfold fvs
         rw[List.getElem?_map,List.getElem?_eq_getElem hTq]
         simp[hpl]
        have hblk:=hrq.blk _ _ _ _ (List.getElem?_eq_getElem hbl) (List.getElem?_eq_getElem hpl) hat
        have hnt:w.heap.size∉ps:=fun hm=>by
         obtain⟨cs,hc⟩:=hrq.at_ hm
         exact own_blk_ne htq hc (by decide) rfl
        have hget:=List.getElem?_eq_getElem hbl
        have hgetp:=List.getElem?_eq_getElem hpl
        have hskl:(bs[(takes bs)[q % m7]]).skip < 4294967296:=hskip _ (List.getElem_mem hbl)
        rw[hturn] at hrun
        have HRUN:=hrun
        generalize (takes bs)[q % m7]=bq at *
        generalize bs[bq]=bk at *
        generalize ps[bq]=p at *
        generalize findF (run bs n q).2 bk.skip n n at_=v at *
        have c1:=next_any p w.heap.size n n w.heap.size bk.id at_ bk.skip J v (run bs n q).2 wr hblk htq h251 hatn hskl hwalk
        have C1:=jH c1
        have HX:Hid (RowsIn wr w.heap.size bs ps (run bs n q).1∧wr.ownsRow w.heap.size 228 1 (G (some ⟨g7,0,none⟩) m7 c7) m7 (fvs ps (takes bs))∧Blk wr p 375 #[X Y bk.id,X Y at_,X Y bk.skip]∧wr.ownsRow w.heap.size 3 1 (G (some ⟨w.heap.size,0,none⟩) n n) n (iv (run bs n q).2)∧bs[bq]? =some bk∧ps[bq]? =some p):=⟨hrq,h7q,hblk,htq,hget,hgetp⟩
        clear hrq h7q hblk htq hwalk hturn hinv hat hget hgetp c1 hrun hpl hbl hTq
        have hq7:q % m7 < m7:=hrq1
        generalize q % m7=s7 at *
        unfold fv at hcell
        go_wp2_with fail
        refine C1.out.mono ?_
        rintro e w6 ⟨rfl,hblk6,ht6,h2⟩
        obtain⟨hrq,h7q,hblk,htq,hget,hgetp⟩:=HX.out
        have hplo:=(hrq.lo p (List.mem_of_getElem? hgetp)).1
        have hrows6:=hrq.two hget hgetp h2 hnt hblk6
        have h76:=h2.own h7q (own_blk_ne h7q hblk (by decide)) (by
         rcases own_own_ne h7q htq (by decide) with h|h
         ·cases h
         ·exact h)
        have hb6:Below w.heap.size w w6:=hbq.trans (h2.below hplo (nR _))
        clear hrq h7q hblk htq hget hgetp hblk6 C1 HX h2
        go_wp2_with fail
        go_roundg (gk - 1)
        case measure=>omega
        case rel=>
         refine⟨q + 1,by omega,by go_num,?_,?_,h76,hb6⟩
         ·rw[HRUN.out];exact hrows6
         ·rw[HRUN.out];exact ht6
       ·have hqq:q=n:=by omega
        have hfin2:Hid (wr.ownsRow w.heap.size 3 1 (G (some ⟨w.heap.size,0,none⟩) n n) n (iv (tableF l n))):=by
         rw[HF.out]
         have:=htq
         rwa [hqq] at this
        clear htq hrq h7q
        go_wp2_with fail
        go_ret
        exact⟨_,_,rfl,hfin2.out,hbq⟩
end
section
open Go.RowKit Go.Maps
theorem reads_news (w:World)(e:TypeId)(fr:Nat×Nat)(C:Array Value)(n size B g:Nat)(hn:C.size=n * size)(hB:B=w.heap.size + 1)(hg:g=w.heap.size)(xs:List Value)(hx:C.toList=xs):
  Reads (w.alloc (.cells C e fr)) B size (some ⟨g,0,none⟩) n xs:=by
 subst hB hg hx
 refine⟨by simpa using hn,fun _=>⟨_,rfl,by show w.heap.size < w.heap.size + 1;omega,?_⟩⟩
 intro j u hu
 have h1:=(reads_new w e fr C C.size (w.heap.size + 1) w.heap.size rfl rfl rfl C.toList rfl)
 have h0:0 < C.size:=by
  have:=(List.getElem?_eq_some_iff.1 hu).1
  simp at this
  omega
 obtain⟨ad,ha,_,hc⟩:=h1.2 h0
 injection ha with ha
 subst ha
 exact hc j u hu
end
section
open Go.RowKit
theorem infoChg:(Pg.info? 104).map (fun i=>(i.zero,i.size,i.bytes))=some (some (aG #[X Y 0,.string ⟨#[]⟩,.string ⟨#[]⟩,PT none]),4,48):=by kernel_rfl
theorem chv_one (l:List Chg):∀u∈chv l,u.oneCell'=true:=by
 intro u hu
 unfold chv at hu
 rw[List.mem_flatMap] at hu
 obtain⟨b,_,hb⟩:=hu
 simp[Chg.cells] at hb
 rcases hb with rfl|rfl|rfl|rfl<;>rfl
theorem chv_append (a b:List Chg):chv (a++b)=chv a++chv b:=by unfold chv;rw[List.flatMap_append]
theorem step_append_chg {w:World}{ops:Array Oper}{o:Oper}{a:Act}{K:Act→World→Prop}{Q:Exit→Act→World→Prop}{E:Prop}(hw:Region.wanted o (yielded ops a.tmps)=true)(s x:Operand)
  (ho:o.op=.call {callee:=.builtin .append,args:=#[s,x],argTypes:=#[100,100]})
  (base:Nat)(v:Value)(n:Nat)(l:List Chg)(hs:a.eval s=v)(hown:w.ownsRow base 104 4 v n (chv l))
  (B:Nat)(A:Option Addr)(m c:Nat)(news:List Chg)(hx:a.eval x=G A m c)(hr:Reads w B 4 A m (chv news))
  (k:Nat)(hk:n + m=k)(hbytes:k≤1099511627776)(hbase:base≤w.heap.size)
  (h:∀A' c' w',w'.ownsRow base 104 4 (G A' k c') k (chv (l++news))→w.grownBy w' v.ownBlock→K (a.put o.dst (G A' k c')) w'):
  if Region.wanted o (yielded ops a.tmps)=true then Oper.wp Pg o a w K Q else E:=by
 subst hk
 obtain⟨i0,hi0,hz0,hz1,hz2⟩:=info_parts infoChg
 rw[if_pos hw]
 refine wp_append_any w s x 100 ho base 104 i0 _ 4 48 underlying100 hi0 hz0 hz1 hz2 rfl (by omega) v n (chv l) hs hown B A m c (chv news) hx hr (chv_one _) (by unfold maxLen;omega) (by omega) hbase ?_
 intro v' w' h1 h2 h3
 obtain⟨A',c',rfl⟩:=own_slice h1
 rw[←chv_append] at h1
 exact h A' c' w' h1 h2
def changeP (D:PDisk)(c:Chg):PDisk:={D with now:=doP c D.now,chg:=D.chg++[c]}
theorem doP_mem {c:Chg}{m:List (ByteArray×Nat)}{p:ByteArray×Nat}(h:p∈doP c m):(∃q∈m,q.2=p.2)∨c.f=some p.2:=by
 unfold doP at h
 split at h
 ·cases hf:c.f with
  |none=>rw[hf] at h;exact .inl ⟨p,h,rfl⟩
  |some f=>
   rw[hf] at h
   rcases mput_mem h with h|rfl
   ·exact .inl ⟨p,h,rfl⟩
   ·exact .inr rfl
 ·split at h
  ·cases hf:mget m c.name with
   |none=>rw[hf] at h;exact .inl ⟨p,h,rfl⟩
   |some f=>
    rw[hf] at h
    rcases mput_mem (mdel_sub h) with h|rfl
    ·exact .inl ⟨p,h,rfl⟩
    ·exact .inl ⟨_,mget_some hf,rfl⟩
  ·exact .inl ⟨p,mdel_sub h,rfl⟩
theorem DiskAt.changed {w w':World}{base d mn ms:Nat}{D:PDisk}(h:DiskAt w base d mn ms D)(c:Chg)(hcf:∀f,c.f=some f→f∈mkeys D.fs)(cv:Value)
  (hb:Blk w' d 102 #[X Y D.quota,.map (some mn),.map (some ms),cv,X Y D.ops,X Y D.fail])
  (hc:w'.ownsRow base 104 4 cv (D.chg.length + 1) (chv (D.chg++[c])))(hm:MapIs w' Value.string okS encP mn (doP c D.now))(hf:Fr [102,104] [mn] base w w'):DiskAt w' base d mn ms (changeP D c):=
 {lod:=h.lod,lon:=h.lon,los:=h.los,hi:=nT h.hi hf.size,ne:=h.ne,blk:=⟨cv,hb,by unfold changeP;dsimp only;rw[List.length_append];exact hc⟩,now:=hm,sure:=hf.mapIs h.sure (by have:=h.ne;simp;omega),files:=h.files.fr hf (by decide) (by decide),ids:=h.ids,
  nowIn:=fun p hp=>(doP_mem hp).elim (fun⟨q,hq,e⟩=>e▸h.nowIn q hq) (fun e=>hcf _ e),sureIn:=h.sureIn,chgIn:=fun c' hc' f hf'=>by
   rcases List.mem_append.1 hc' with h1|h1
   ·exact h.chgIn c' h1 f hf'
   ·rw[List.mem_singleton.1 h1] at hf';exact hcf f hf',quotaB:=h.quotaB,opsB:=h.opsB,failB:=h.failB}
theorem change_any (base d mn ms:Nat)(D:PDisk)(c:Chg)(w:World)(h:DiskAt w base d mn ms D)(hc:ChgOk c D.now)(hcf:∀f,c.f=some f→f∈mkeys D.fs)(hnl:D.chg.length≤1000000):
  Calls Pg 314 #[PT (some ⟨d,0,none⟩),aG #[X Y c.kind,.string c.name,.string c.tt,ptrV c.f]] w fun e w'=>e=rT (tU #[])∧DiskAt w' base d mn ms (changeP D c)∧Fr [102,104] [mn] base w w':=by
 obtain⟨cv,hb,hco⟩:=h.blk
 obtain⟨CA,CC,rfl⟩:=own_slice hco
 have hal:=(bR w.heap.size w).alloc (nR _) (cL #[X Y c.kind,.string c.name,.string c.tt,ptrV c.f] 104)
 have hq:=Blk.new w 104 #[X Y c.kind,.string c.name,.string c.tt,ptrV c.f]
 have hD1:=h.made hal
 have hb1:=hb.below hal hb.lt
 have CD:=jH (fun W (hm:MapIs W Value.string okS encP mn D.now)=>do_any c mn base D.now W hm hc h.lon)
 have HC:=jH (aI hcf hc)
 obtain⟨kz,hkz⟩:∃z:Int,(c.kind:Int)=z:=⟨_,rfl⟩
 rw[hkz] at hal hq hD1 hb1 CD⊢
 obtain⟨fp,hfp⟩:∃v,c.f.map (fun g=>(⟨g,0,none⟩:Addr))=v:=⟨_,rfl⟩
 unfold ptrV at hal hq hD1 hb1 CD⊢
 rw[hfp] at hal hq hD1 hb1 CD⊢
 have HK:=jH (aI hkz hfp)
 have hco1:=own_below hco hal
 have H:=jH (aI h (aI hq (aI hD1 (aI hb1 hal))))
 have HO:=jH hco1
 clear hco1
 clear h hb hco hq hD1 hb1 hkz hfp hc hcf hal
 go_enter func314,ntmps314
 go_wp2_with fail
 obtain⟨q,hqe⟩:∃q,q=w.heap.size:=⟨_,rfl⟩
 rw[←hqe] at H⊢
 have HQ:=jH hqe
 clear hqe
 generalize w.alloc (cL #[X Y kz,.string c.name,.string c.tt,.pointer fp] 104)=w1 at *
 have d0:w1.drew.cell? ⟨q,0,none⟩=some (X Y kz):=by have:=H.out.2.1.cell 0;simpa using this
 have d1:w1.drew.cell? ⟨q,1,none⟩=some (.string c.name):=by have:=H.out.2.1.cell 1;simpa using this
 have d2:w1.drew.cell? ⟨q,2,none⟩=some (.string c.tt):=by have:=H.out.2.1.cell 2;simpa using this
 have d3:w1.drew.cell? ⟨q,3,none⟩=some (.pointer fp):=by have:=H.out.2.1.cell 3;simpa using this
 have d4:w1.drew.cell? ⟨d,1,none⟩=some (.map (some mn)):=by have:=H.out.2.2.2.1.cell 1;simpa using this
 go_region_held3 (fun wS=>wS.cell? ⟨q,0,none⟩=some (X Y kz)∧wS.cell? ⟨q,1,none⟩=some (.string c.name)∧wS.cell? ⟨q,2,none⟩=some (.string c.tt)∧wS.cell? ⟨q,3,none⟩=some (.pointer fp)∧wS.cell? ⟨d,1,none⟩=some (.map (some mn))) (first|with_reducible exact⟨d0,d1,d2,d3,d4⟩|with_reducible exact⟨e0,e1,e2,e3,e4⟩|fail)
  (first|(go_at_call 35;(with_reducible refine(CD.out _ H.out.2.2.1.drew.now).mono ?_);rintro e w2 ⟨rfl,hm2,hf2⟩;have hq2:=hf2.blk _ _ _ H.out.2.1.drew (by simp);have hb2:=hf2.blk _ _ _ H.out.2.2.2.1.drew (by simp);have e0:=hq2.cell 0;have e1:=hq2.cell 1;have e2:=hq2.cell 2;have e3:=hq2.cell 3;have e4:=hb2.cell 1;simp only[ga,gz,gN] at e0 e1 e2 e3 e4))
 go_wp2_with fail
 have hco2:=hf2.own (show w1.drew.ownsRow base 104 4 (G CA D.chg.length CC) D.chg.length (chv D.chg) from HO.out) (by simp)
 have hs2:base≤w2.heap.size:=nT H.out.2.2.1.hi hf2.size
 have g3:=hb2.cell 3
 have fz:=hb2.frozen 3
 simp only[ga,gz,gN] at g3
 have hdlt:=hb2.lt
 have hqlt:=hq2.lt
 have hne:104≠102:=by decide
 have HX:=jH (aI hq2 (aI hb2 (aI hf2 hm2)))
 clear d0 d1 d2 d3 d4 e4 hf2 hm2 hq2 CD
 have hrd:Hid (∀W:World,Reads (W.alloc (cL #[X Y kz,.string c.name,.string c.tt,.pointer fp] 104)) (W.heap.size + 1) 4 (some ⟨W.heap.size,0,none⟩) 1 (chv [c])):=fun W=>by
  have e:chv [c]=[X Y kz,.string c.name,.string c.tt,.pointer fp]:=by rw[←HK.out.1,←HK.out.2];rfl
  rw[e]
  exact reads_news _ _ _ _ 1 4 _ _ (by rfl) (by rfl) (by rfl) _ (by rfl)
 go_region_law (refine step_append_chg rfl (.tmp 14) (.tmp 16) rfl base (G CA D.chg.length CC) D.chg.length D.chg (by simp[Act.eval,Act.put]) (hco2.alloc _) (w2.heap.size + 1) (some ⟨w2.heap.size,0,none⟩) 1 1 [c] (by simp[Act.eval,Act.put]) (hrd.out w2) (D.chg.length + 1) rfl (by omega) (by simp;omega) ?_;intro A3 c3 w3 hown3 hg3;have hbk3:Blk w3 d 102 #[X Y D.quota,.map (some mn),.map (some ms),G CA D.chg.length CC,X Y D.ops,X Y D.fail]:=Blk.grown ((hb2.alloc _).drew) hg3 (fun e=>own_blk_ne hco2 hb2 hne e.symm);have hc3:=hbk3.cell 3;have hf3:=hbk3.frozen 3;simp only[ga,gz,gN] at hc3)
 all_goals
  go_wp2_with fail
  go_end0
  obtain⟨h,hq0,hD1,hb1,hal⟩:=H.out
  obtain⟨hq2,hb2,hf2,hm2⟩:=HX.out
  have hk3:=hbk3.set_ 3 (G A3 (D.chg.length + 1) c3)
  have fr1:Fr [102,104] [mn] base w w1.drew:=(Fr.of_below _ _ (HQ.out▸hal) h.hi).drew
  have fr2:=fr1.trans (hf2.mono (by simp) (by simp))
  have fr3:=(fr2.trans (Fr.of_below _ _ ((bR w2.heap.size w2).alloc (nR _) (cL #[X Y kz,.string c.name,.string c.tt,.pointer fp] 104)) hs2)).drew
  have fr4:=fr3.grown ((hco2.alloc _).drew) hg3 (by decide) (nR _) (by simp;omega)
  have fr5:=fr4.set_ hbk3 (by decide) h.lod 3 (G A3 (D.chg.length + 1) c3)
  have hm5:MapIs (w3.setCell ⟨d,3,none⟩ (G A3 (D.chg.length + 1) c3)) Value.string okS encP mn (doP c D.now):=by
   have m3:=(hm2.alloc (cL #[X Y kz,.string c.name,.string c.tt,.pointer fp] 104)).drew
   have fr6:Fr [102,104] [] base _ _:=((Fr.refl _ _ _ _).grown ((hco2.alloc _).drew) hg3 (by decide) (nR _) (by simp;omega)).set_ hbk3 (by decide) h.lod 3 (G A3 (D.chg.length + 1) c3)
   exact fr6.mapIs m3 (by simp)
  exact⟨rfl,h.changed c HC.out.1 _ hk3 (own_set_far hown3 hbk3 (by decide) 3 _) hm5 fr5,fr5⟩
def PDisk.op (D:PDisk):PDisk:={D with ops:=D.ops + 1}
theorem beginP_ok {D:PDisk}(h:D.fail=0):beginP D=(0,D.op):=by unfold beginP PDisk.op;rw[if_neg (by omega)]
theorem findP_ok {D:PDisk}(h:D.fail=0){name:ByteArray}{f:Nat}(hm:mget D.now name=some f):findP D name=(some f,0,D.op):=by
 unfold findP
 rw[beginP_ok h]
 show (if (0:Int)=0 then _ else _)=_
 rw[if_pos rfl]
 show (match mget D.now name with|some f=>_|none=>_)=_
 rw[hm]
theorem own_grown_far {w w':World}{base n size:Nat}{e:TypeId}{v:Value}{xs:List Value}{row:Option Nat}(h:w.ownsRow base e size v n xs)(hg:w.grownBy w' row)(hne:v.ownBlock=none∨v.ownBlock≠row):w'.ownsRow base e size v n xs:=by
 refine⟨h.1,?_⟩
 rcases h.2 with hn|⟨g,cap,cur,rfl,hb,hh,rest⟩
 ·exact .inl hn
 ·refine .inr ⟨g,cap,cur,rfl,hb,?_,rest⟩
  have:(Value.slice (some ⟨g,0,none⟩) n cap).ownBlock=some g:=rfl
  rw[this] at hne
  rw[hg.block g (Array.getElem?_eq_some_iff.1 hh).1 (hne.resolve_left (by simp))]
  exact hh
theorem append_old (base base2 d mn ms:Nat)(D:PDisk)(name:ByteArray)(A:Option Addr)(n c:Nat)(l:List Nat)(w:World)(h:DiskAt w base d mn ms D)(hops:D.ops≤900000000000)(hfail:D.fail=0)(hname:namedP name=true)(hnow:D.now.length≤100000)
  (f:Nat)(p:PFile)(hm:mget D.now name=some f)(hp:mget D.fs f=some p)(hsrc:w.ownsRow base2 5 1 (G A n c) n (bv l))(hlb:AllB l)(hroom:roomP D (some f) n=true):
  Calls Pg 276 #[PT (some ⟨d,0,none⟩),.string name,G A n c] w fun e w'=>e=rT (X Y 0)∧DiskAt w' base d mn ms {D.op with fs:=mput D.fs f ⟨p.b++l,p.sure⟩}∧Fr [102,111,5] [] base w w':=by
 have CB:=jH (begin_any base d mn ms D w h hops)
 rw[beginP_ok hfail] at CB
 dsimp only at CB
 have CN:=jH (fun w=>named_any name w)
 rw[hname] at CN
 have hok:okS name:=by have:=of_decide_eq_true hname;unfold okS;omega
 have hroom2:sizeP D≤D.quota∧n + sizeP D≤D.quota∧n + haveP D (some f)≤1048576:=by unfold roomP at hroom;simp only[Option.isSome_some,Bool.true_or,Bool.and_true,decide_eq_true_eq] at hroom;exact hroom
 have hqb:=h.quotaB
 have CR:=jH (fun W (hW:DiskAt W base d mn ms D.op)=>room_some base d mn ms D.op W hW hnow f n (by exact h.nowIn _ (mget_some hm)) (by omega))
 rw[show roomP D.op (some f) n=true from hroom] at CR
 have HS:=jH hsrc
 have HP:=jH (aI hm (aI hp (aI hlb hroom2)))
 have hN:=jH (aI hok h)
 clear h hsrc hm hp hlb hroom hroom2 hnow hname hok
 go_enter func276,ntmps276
 go_wp2_with fail
 refine CB.out.mono ?_
 rintro e w1 ⟨rfl,hD1,hf1⟩
 go_wp2_with fail
 refine(CN.out _).mono ?_
 rintro e w2 ⟨rfl,rfl⟩
 obtain⟨cv,hb,hc⟩:=hD1.blk
 obtain⟨-,c1⟩:=hb.c2
 have hlk:=hD1.now.lookup (P:=Pg) encS (t:=97) underlying97 (z:=PT none) (by kernel_rfl) name hN.out.1 false
 rw[show mget D.op.now name=some f from HP.out.1] at hlk
 simp only[Bool.false_eq_true,if_false,encP] at hlk
 have H1:=jH (aI hD1 hf1)
 clear hb hc hD1 hf1
 go_wp2_with fail
 refine(CR.out _ H1.out.1).mono ?_
 rintro e w3 ⟨rfl,hbl⟩
 clear hlk
 have hD3:=H1.out.1.made hbl
 have hf3:=H1.out.2.made hbl H1.out.1.hi
 have hs3:=hf3.own HS.out (by decide)
 obtain⟨R,hR,hd⟩:=hD3.files
 obtain⟨a1,a2,a3,a4,a5,a6⟩:=hR f p HP.out.2.1
 obtain⟨A0,c0,eR⟩:=own_slice a3
 have a2':=a2
 have a3':=a3
 rw[eR] at a2' a3'
 have g0:=a2'.c1
 have fz:=a2'.frozen 0
 have hn3:n + p.b.length≤1048576:=by have:=HP.out.2.2.2.2.2;have e:haveP D (some f)=p.b.length:=by {show flen D.fs f=_;unfold flen;rw[HP.out.2.1]};rw[e] at this;exact this
 have HD:=jH (aI hD3 (aI hf3 (aI hs3 (aI a2 (aI a3 (aI hR hd))))))
 have HE:=jH (aI eR (aI a1 (aI a4 (aI a5 a6))))
 have HO:=jH (aI a2' a3')
 have hflt:=a2.lt
 have hbs:=hD3.hi
 clear hD3 hf3 hs3 a2 a3 hR hd eR a1 a4 a5 a6 a2' a3' c1
 go_wp2_with (at_builtin;refine stop_ ?_)
 refine on_ ?_
 refine wpList_append_b rfl (.tmp 42) (.tmp 43) _ rfl 5 infoB underlying23 base (G A0 p.b.length c0) p.b.length p.b rfl HO.out.2 w3.heap.size A n c l rfl (Reads.of_own HD.out.2.2.1) (p.b.length + n) rfl (by omega) hbs ?_
 intro A3 c3 w4 hown4 hbl4 hg4 hblk4
 have hb4:=HO.out.1.grown hg4 (fun e=>own_blk_ne HO.out.2 HO.out.1 (by decide) e.symm)
 have hflt4:=hb4.lt
 have fz4:=hb4.frozen 0
 have g4:=hb4.c1
 clear g0 fz hflt
 go_wp2_with fail
 go_ret
 obtain⟨hD3,hf3,hs3,a2,a3,hR,hd⟩:=HD.out
 obtain⟨eR,a1,a4,a5,a6⟩:=HE.out
 have hk4:=hb4.set_ 0 (G A3 (p.b.length + n) c3)
 have fr0:Fr [111,5] [] base w3 w4:=(Fr.refl [111,5] [] base w3).grown HO.out.2 hg4 (by decide) (nR _) hbs
 have fr4:=fr0.set_ hb4 (by decide) a1 0 (G A3 (p.b.length + n) c3)
 have hl:l.length=n:=by have:=HS.out.1;simp[bv] at this;omega
 have hfa:FilesAt (w4.setCell ⟨f,0,none⟩ (G A3 (p.b.length + n) c3)) base (mput D.fs f ⟨p.b++l,p.sure⟩):=by
  refine files_put f (G A3 (p.b.length + n) c3) _ ?_ hd a1 hk4 (by have:=own_set_far hown4 hb4 (by decide) 0 (G A3 (p.b.length + n) c3);rw[show (p.b++l).length=p.b.length + n by simp[hl]];exact this) (by simp;omega) (by simp;omega) (fun x hx=>(List.mem_append.1 hx).elim (a6 x) (HP.out.2.2.1 x)) ?_
  ·intro g q hq hne
   obtain⟨b1,b2,b3,b4,b5,b6⟩:=hR g q hq
   have hdis:=hd g f q p hq HP.out.2.1 hne
   have hob:(R g).ownBlock=none∨(R g).ownBlock≠(Value.slice A0 p.b.length c0).ownBlock:=by rw[←eR];exact hdis
   refine⟨b1,?_,?_,b4,b5,b6⟩
   ·exact(b2.grown hg4 (fun e=>own_blk_ne HO.out.2 b2 (by decide) e.symm)).far hne _
   ·exact own_set_far (own_grown_far b3 hg4 hob) hb4 (by decide) 0 _
  ·intro g q hq hne
   have hdis:=hd g f q p hq HP.out.2.1 hne
   rw[eR] at hdis
   rcases hdis with e|e
   ·exact .inl e
   ·cases hv:(R g).ownBlock with
    |none=>exact .inl rfl
    |some x=>
     right
     rcases hblk4 with e4|e4
     ·rw[e4,←hv];exact e
     ·rw[e4]
      obtain⟨b1,b2,b3,b4,b5,b6⟩:=hR g q hq
      have:=(b3.lt x hv).2
      simp;omega
 exact⟨rfl,DiskAt.refile (D:=D.op) f _ hD3 fr4 hfa,(hf3.mono (by decide) (by simp)).trans (fr4.mono (by decide) (by simp))⟩
end
end Go.Proofs.YtgjnoccflmjheaaGreatDoor
