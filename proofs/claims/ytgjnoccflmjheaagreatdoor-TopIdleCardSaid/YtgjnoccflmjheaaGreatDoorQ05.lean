import Derived.Test.YtgjnoccflmjheaaGreatDoorQ04
namespace Go.Proofs.YtgjnoccflmjheaaGreatDoor
set_option linter.unusedVariables false
set_option linter.unusedSimpArgs false
set_option maxHeartbeats 8000000
set_option maxRecDepth 100000
open Value renaming int→X,slice→G,pointer→PT,bool→bL,agg→aG,tuple→tU
open Obj renaming cells→cL
open Ending renaming returned→rT
open Go.Proofs.Tryz
open Go.Proofs.Tryz renaming prog→Pg
open RowKit.Below renaming refl→bR
open IntKind renaming i64→Y,u32→Z
open List renaming getElem?_toArray→ga,getElem?_cons_zero→gz,getElem?_cons_succ→gN
open Lib renaming hid→jH
open Nat renaming le_refl→nR,le_trans→nT,le_succ→nS
open And renaming intro→aI
section
open Go.RowKit Go.Maps
theorem run_eql_tu (a c:Tu)(W:World):(binOp .eql 39 (.agg a.vals) (.agg c.vals)).run Pg W=.ok (bL (decide (a=c))) W:=by
 obtain⟨a1,a2,a3,a4,a5⟩:=a
 obtain⟨b1,b2,b3,b4,b5⟩:=c
 unfold Tu.vals
 dsimp only
 have e:decide ((⟨a1,a2,a3,a4,a5⟩:Tu)=⟨b1,b2,b3,b4,b5⟩)=(decide ((a1:Int)=b1)&&decide ((a2:Int)=b2)&&decide (a3=b3)&&decide (a4=b4)&&decide (a5=b5)):=by
  rw[Bool.eq_iff_iff]
  simp
  omega
 rw[e]
 by_cases h1:(a1:Int)=b1
 ·by_cases h2:(a2:Int)=b2
  ·by_cases h3:a3=b3
   ·by_cases h4:a4=b4
    ·by_cases h5:a5=b5
     ·simp[go_sem,h1,h2,h3,h4,h5,underlying39]
     ·simp[go_sem,h1,h2,h3,h4,h5,underlying39]
    ·simp[go_sem,h1,h2,h3,h4,underlying39]
   ·simp[go_sem,h1,h2,h3,underlying39]
  ·simp[go_sem,h1,h2,underlying39]
 ·simp[go_sem,h1,underlying39]
theorem idle_no1 (z:Int)(a c:Tu)(ha0:TuOk a)(hc0:TuOk c)(A:Option Addr)(n cap:Nat)(l:List Int)(w:World)(hr:Reads w w.heap.size 1 A n (iv l))(HA:∀W,Below w.heap.size w W→Calls Pg 5 #[] W fun e w'=>e=rT (bL true)∧Below W.heap.size W w')(hma:mayTu a=false):Calls Pg 4 #[X Y z,.agg a.vals,.agg c.vals,G A n cap] w fun e w'=>e=rT (bL true)∧Below w.heap.size w w':=by
 obtain⟨a1,a2,a3,a4,a5⟩:=a
 obtain⟨c1,c2,c3,c4,c5⟩:=c
 have hq:=run_eql_tu ⟨a1,a2,a3,a4,a5⟩ ⟨c1,c2,c3,c4,c5⟩
 have CA:=jH (maytuple_any ⟨a1,a2,a3,a4,a5⟩)
 have CC:=jH (maytuple_any ⟨c1,c2,c3,c4,c5⟩)
 unfold Tu.vals at *
 dsimp only at *
 have k1:=(Blk.new w 39 #[X Z a1,X Z a2,X Y a3,X Y a4,X Y a5]).alloc (cL #[X Z c1,X Z c2,X Y c3,X Y c4,X Y c5] 39)
 have k2:=Blk.new (w.alloc (cL #[X Z a1,X Z a2,X Y a3,X Y a4,X Y a5] 39)) 39 #[X Z c1,X Z c2,X Y c3,X Y c4,X Y c5]
 have hb2:Below w.heap.size w ((w.alloc (cL #[X Z a1,X Z a2,X Y a3,X Y a4,X Y a5] 39)).alloc (cL #[X Z c1,X Z c2,X Y c3,X Y c4,X Y c5] 39)):=((bR w.heap.size w).alloc (nR _) _).alloc (by simp) _
 rw[show (w.alloc (cL #[X Z a1,X Z a2,X Y a3,X Y a4,X Y a5] 39)).heap.size=w.heap.size + 1 by simp] at k2
 have hsz:((w.alloc (cL #[X Z a1,X Z a2,X Y a3,X Y a4,X Y a5] 39)).alloc (cL #[X Z c1,X Z c2,X Y c3,X Y c4,X Y c5] 39)).heap.size=w.heap.size + 2:=by simp
 have H2:=jH (aI k1 (aI k2 (aI hb2 hsz)))
 obtain⟨x0,x1,x2,x3,x4⟩:=k1.c5
 clear k1 k2 hb2 hsz
 go_enter func4,ntmps4
 go_wp2_with fail
 generalize (w.alloc (cL #[X Z a1,X Z a2,X Y a3,X Y a4,X Y a5] 39)).alloc (cL #[X Z c1,X Z c2,X Y c3,X Y c4,X Y c5] 39)=w2 at *
 refine(CA.out w2).mono ?_
 rintro e w3 ⟨rfl,hb3⟩
 rw[hma]
 have H3:Hid (Blk w3 w.heap.size 39 #[X Z a1,X Z a2,X Y a3,X Y a4,X Y a5]∧Blk w3 (w.heap.size + 1) 39 #[X Z c1,X Z c2,X Y c3,X Y c4,X Y c5]∧Below w.heap.size w w3∧w.heap.size + 2≤w3.heap.size):=by
  obtain⟨g1,g2,g3,g4⟩:=H2.out
  have:=hb3.size
  exact⟨g1.below hb3 g1.lt,g2.below hb3 g2.lt,g3.trans (hb3.mono g3.size),by omega⟩
 clear hb3 H2 CA x0 x1 x2 x3 x4
 go_wp2_with fail
 refine(HA w3 H3.out.2.2.1).mono ?_
 rintro e w9 ⟨rfl,hb9⟩
 have HF:Hid (Below w.heap.size w w9):=H3.out.2.2.1.trans (hb9.mono H3.out.2.2.1.size)
 clear hb9 H3
 go_wp2_with fail
 go_ret
 exact⟨rfl,HF.out⟩
theorem idle_no2 (z:Int)(a c:Tu)(ha0:TuOk a)(hc0:TuOk c)(A:Option Addr)(n cap:Nat)(l:List Int)(w:World)(hr:Reads w w.heap.size 1 A n (iv l))(HA:∀W,Below w.heap.size w W→Calls Pg 5 #[] W fun e w'=>e=rT (bL true)∧Below W.heap.size W w')(hma:mayTu a=true)(hmc:mayTu c=false):Calls Pg 4 #[X Y z,.agg a.vals,.agg c.vals,G A n cap] w fun e w'=>e=rT (bL true)∧Below w.heap.size w w':=by
 obtain⟨a1,a2,a3,a4,a5⟩:=a
 obtain⟨c1,c2,c3,c4,c5⟩:=c
 have hq:=run_eql_tu ⟨a1,a2,a3,a4,a5⟩ ⟨c1,c2,c3,c4,c5⟩
 have CA:=jH (maytuple_any ⟨a1,a2,a3,a4,a5⟩)
 have CC:=jH (maytuple_any ⟨c1,c2,c3,c4,c5⟩)
 unfold Tu.vals at *
 dsimp only at *
 have k1:=(Blk.new w 39 #[X Z a1,X Z a2,X Y a3,X Y a4,X Y a5]).alloc (cL #[X Z c1,X Z c2,X Y c3,X Y c4,X Y c5] 39)
 have k2:=Blk.new (w.alloc (cL #[X Z a1,X Z a2,X Y a3,X Y a4,X Y a5] 39)) 39 #[X Z c1,X Z c2,X Y c3,X Y c4,X Y c5]
 have hb2:Below w.heap.size w ((w.alloc (cL #[X Z a1,X Z a2,X Y a3,X Y a4,X Y a5] 39)).alloc (cL #[X Z c1,X Z c2,X Y c3,X Y c4,X Y c5] 39)):=((bR w.heap.size w).alloc (nR _) _).alloc (by simp) _
 rw[show (w.alloc (cL #[X Z a1,X Z a2,X Y a3,X Y a4,X Y a5] 39)).heap.size=w.heap.size + 1 by simp] at k2
 have hsz:((w.alloc (cL #[X Z a1,X Z a2,X Y a3,X Y a4,X Y a5] 39)).alloc (cL #[X Z c1,X Z c2,X Y c3,X Y c4,X Y c5] 39)).heap.size=w.heap.size + 2:=by simp
 have H2:=jH (aI k1 (aI k2 (aI hb2 hsz)))
 obtain⟨x0,x1,x2,x3,x4⟩:=k1.c5
 clear k1 k2 hb2 hsz
 go_enter func4,ntmps4
 go_wp2_with fail
 generalize (w.alloc (cL #[X Z a1,X Z a2,X Y a3,X Y a4,X Y a5] 39)).alloc (cL #[X Z c1,X Z c2,X Y c3,X Y c4,X Y c5] 39)=w2 at *
 refine(CA.out w2).mono ?_
 rintro e w3 ⟨rfl,hb3⟩
 rw[hma]
 have H3:Hid (Blk w3 w.heap.size 39 #[X Z a1,X Z a2,X Y a3,X Y a4,X Y a5]∧Blk w3 (w.heap.size + 1) 39 #[X Z c1,X Z c2,X Y c3,X Y c4,X Y c5]∧Below w.heap.size w w3∧w.heap.size + 2≤w3.heap.size):=by
  obtain⟨g1,g2,g3,g4⟩:=H2.out
  have:=hb3.size
  exact⟨g1.below hb3 g1.lt,g2.below hb3 g2.lt,g3.trans (hb3.mono g3.size),by omega⟩
 clear hb3 H2 CA x0 x1 x2 x3 x4
 obtain⟨y0,y1,y2,y3,y4⟩:=H3.out.2.1.c5
 go_wp2_with fail
 refine(CC.out w3).mono ?_
 rintro e w4 ⟨rfl,hb4⟩
 rw[hmc]
 have H4:Hid (Blk w4 w.heap.size 39 #[X Z a1,X Z a2,X Y a3,X Y a4,X Y a5]∧Blk w4 (w.heap.size + 1) 39 #[X Z c1,X Z c2,X Y c3,X Y c4,X Y c5]∧Below w.heap.size w w4∧w.heap.size + 2≤w4.heap.size):=by
  obtain⟨g1,g2,g3,g4⟩:=H3.out
  have:=hb4.size
  exact⟨g1.below hb4 g1.lt,g2.below hb4 g2.lt,g3.trans (hb4.mono g3.size),by omega⟩
 clear hb4 H3 CC y0 y1 y2 y3 y4
 go_wp2_with fail
 refine(HA w4 H4.out.2.2.1).mono ?_
 rintro e w9 ⟨rfl,hb9⟩
 have HF:Hid (Below w.heap.size w w9):=H4.out.2.2.1.trans (hb9.mono H4.out.2.2.1.size)
 clear hb9 H4
 go_wp2_with fail
 go_ret
 exact⟨rfl,HF.out⟩
theorem idle_no3 (z:Int)(a c:Tu)(ha0:TuOk a)(hc0:TuOk c)(A:Option Addr)(n cap:Nat)(l:List Int)(w:World)(hr:Reads w w.heap.size 1 A n (iv l))(HA:∀W,Below w.heap.size w W→Calls Pg 5 #[] W fun e w'=>e=rT (bL true)∧Below W.heap.size W w')(hma:mayTu a=true)(hmc:mayTu c=true)(he:a=c):Calls Pg 4 #[X Y z,.agg a.vals,.agg c.vals,G A n cap] w fun e w'=>e=rT (bL true)∧Below w.heap.size w w':=by
 have he':decide (a=c)=true:=by simp[he]
 obtain⟨a1,a2,a3,a4,a5⟩:=a
 obtain⟨c1,c2,c3,c4,c5⟩:=c
 have hq:=run_eql_tu ⟨a1,a2,a3,a4,a5⟩ ⟨c1,c2,c3,c4,c5⟩
 have CA:=jH (maytuple_any ⟨a1,a2,a3,a4,a5⟩)
 have CC:=jH (maytuple_any ⟨c1,c2,c3,c4,c5⟩)
 unfold Tu.vals at *
 dsimp only at *
 have k1:=(Blk.new w 39 #[X Z a1,X Z a2,X Y a3,X Y a4,X Y a5]).alloc (cL #[X Z c1,X Z c2,X Y c3,X Y c4,X Y c5] 39)
 have k2:=Blk.new (w.alloc (cL #[X Z a1,X Z a2,X Y a3,X Y a4,X Y a5] 39)) 39 #[X Z c1,X Z c2,X Y c3,X Y c4,X Y c5]
 have hb2:Below w.heap.size w ((w.alloc (cL #[X Z a1,X Z a2,X Y a3,X Y a4,X Y a5] 39)).alloc (cL #[X Z c1,X Z c2,X Y c3,X Y c4,X Y c5] 39)):=((bR w.heap.size w).alloc (nR _) _).alloc (by simp) _
 rw[show (w.alloc (cL #[X Z a1,X Z a2,X Y a3,X Y a4,X Y a5] 39)).heap.size=w.heap.size + 1 by simp] at k2
 have hsz:((w.alloc (cL #[X Z a1,X Z a2,X Y a3,X Y a4,X Y a5] 39)).alloc (cL #[X Z c1,X Z c2,X Y c3,X Y c4,X Y c5] 39)).heap.size=w.heap.size + 2:=by simp
 have hq':=fun W=>(hq W).trans (by rw[he'])
 clear hq he he'
 have H2:=jH (aI k1 (aI k2 (aI hb2 hsz)))
 obtain⟨x0,x1,x2,x3,x4⟩:=k1.c5
 clear k1 k2 hb2 hsz
 go_enter func4,ntmps4
 go_wp2_with fail
 generalize (w.alloc (cL #[X Z a1,X Z a2,X Y a3,X Y a4,X Y a5] 39)).alloc (cL #[X Z c1,X Z c2,X Y c3,X Y c4,X Y c5] 39)=w2 at *
 refine(CA.out w2).mono ?_
 rintro e w3 ⟨rfl,hb3⟩
 rw[hma]
 have H3:Hid (Blk w3 w.heap.size 39 #[X Z a1,X Z a2,X Y a3,X Y a4,X Y a5]∧Blk w3 (w.heap.size + 1) 39 #[X Z c1,X Z c2,X Y c3,X Y c4,X Y c5]∧Below w.heap.size w w3∧w.heap.size + 2≤w3.heap.size):=by
  obtain⟨g1,g2,g3,g4⟩:=H2.out
  have:=hb3.size
  exact⟨g1.below hb3 g1.lt,g2.below hb3 g2.lt,g3.trans (hb3.mono g3.size),by omega⟩
 clear hb3 H2 CA x0 x1 x2 x3 x4
 obtain⟨y0,y1,y2,y3,y4⟩:=H3.out.2.1.c5
 go_wp2_with fail
 refine(CC.out w3).mono ?_
 rintro e w4 ⟨rfl,hb4⟩
 rw[hmc]
 have H4:Hid (Blk w4 w.heap.size 39 #[X Z a1,X Z a2,X Y a3,X Y a4,X Y a5]∧Blk w4 (w.heap.size + 1) 39 #[X Z c1,X Z c2,X Y c3,X Y c4,X Y c5]∧Below w.heap.size w w4∧w.heap.size + 2≤w4.heap.size):=by
  obtain⟨g1,g2,g3,g4⟩:=H3.out
  have:=hb4.size
  exact⟨g1.below hb4 g1.lt,g2.below hb4 g2.lt,g3.trans (hb4.mono g3.size),by omega⟩
 clear hb4 H3 CC y0 y1 y2 y3 y4
 obtain⟨x0,x1,x2,x3,x4⟩:=H4.out.1.c5
 obtain⟨y0,y1,y2,y3,y4⟩:=H4.out.2.1.c5
 go_wp2_with fail
 refine(HA w4 H4.out.2.2.1).mono ?_
 rintro e w9 ⟨rfl,hb9⟩
 have HF:Hid (Below w.heap.size w w9):=H4.out.2.2.1.trans (hb9.mono H4.out.2.2.1.size)
 clear hb9 H4
 go_wp2_with fail
 go_ret
 exact⟨rfl,HF.out⟩
theorem idle_no4 (z:Int)(a c:Tu)(ha0:TuOk a)(hc0:TuOk c)(A:Option Addr)(n cap:Nat)(l:List Int)(w:World)(hr:Reads w w.heap.size 1 A n (iv l))(HA:∀W,Below w.heap.size w W→Calls Pg 5 #[] W fun e w'=>e=rT (bL true)∧Below W.heap.size W w')(hma:mayTu a=true)(hmc:mayTu c=true)(he:a≠c)(hn:20 < n):Calls Pg 4 #[X Y z,.agg a.vals,.agg c.vals,G A n cap] w fun e w'=>e=rT (bL true)∧Below w.heap.size w w':=by
 have he':decide (a=c)=false:=by simp[he]
 have hd:decide ((20:Int) < (n:Int))=true:=decide_eq_true (by omega)
 obtain⟨a1,a2,a3,a4,a5⟩:=a
 obtain⟨c1,c2,c3,c4,c5⟩:=c
 have hq:=run_eql_tu ⟨a1,a2,a3,a4,a5⟩ ⟨c1,c2,c3,c4,c5⟩
 have CA:=jH (maytuple_any ⟨a1,a2,a3,a4,a5⟩)
 have CC:=jH (maytuple_any ⟨c1,c2,c3,c4,c5⟩)
 unfold Tu.vals at *
 dsimp only at *
 have k1:=(Blk.new w 39 #[X Z a1,X Z a2,X Y a3,X Y a4,X Y a5]).alloc (cL #[X Z c1,X Z c2,X Y c3,X Y c4,X Y c5] 39)
 have k2:=Blk.new (w.alloc (cL #[X Z a1,X Z a2,X Y a3,X Y a4,X Y a5] 39)) 39 #[X Z c1,X Z c2,X Y c3,X Y c4,X Y c5]
 have hb2:Below w.heap.size w ((w.alloc (cL #[X Z a1,X Z a2,X Y a3,X Y a4,X Y a5] 39)).alloc (cL #[X Z c1,X Z c2,X Y c3,X Y c4,X Y c5] 39)):=((bR w.heap.size w).alloc (nR _) _).alloc (by simp) _
 rw[show (w.alloc (cL #[X Z a1,X Z a2,X Y a3,X Y a4,X Y a5] 39)).heap.size=w.heap.size + 1 by simp] at k2
 have hsz:((w.alloc (cL #[X Z a1,X Z a2,X Y a3,X Y a4,X Y a5] 39)).alloc (cL #[X Z c1,X Z c2,X Y c3,X Y c4,X Y c5] 39)).heap.size=w.heap.size + 2:=by simp
 have hq':=fun W=>(hq W).trans (by rw[he'])
 clear hq he he'
 have H2:=jH (aI k1 (aI k2 (aI hb2 hsz)))
 obtain⟨x0,x1,x2,x3,x4⟩:=k1.c5
 clear k1 k2 hb2 hsz
 go_enter func4,ntmps4
 go_wp2_with fail
 generalize (w.alloc (cL #[X Z a1,X Z a2,X Y a3,X Y a4,X Y a5] 39)).alloc (cL #[X Z c1,X Z c2,X Y c3,X Y c4,X Y c5] 39)=w2 at *
 refine(CA.out w2).mono ?_
 rintro e w3 ⟨rfl,hb3⟩
 rw[hma]
 have H3:Hid (Blk w3 w.heap.size 39 #[X Z a1,X Z a2,X Y a3,X Y a4,X Y a5]∧Blk w3 (w.heap.size + 1) 39 #[X Z c1,X Z c2,X Y c3,X Y c4,X Y c5]∧Below w.heap.size w w3∧w.heap.size + 2≤w3.heap.size):=by
  obtain⟨g1,g2,g3,g4⟩:=H2.out
  have:=hb3.size
  exact⟨g1.below hb3 g1.lt,g2.below hb3 g2.lt,g3.trans (hb3.mono g3.size),by omega⟩
 clear hb3 H2 CA x0 x1 x2 x3 x4
 obtain⟨y0,y1,y2,y3,y4⟩:=H3.out.2.1.c5
 go_wp2_with fail
 refine(CC.out w3).mono ?_
 rintro e w4 ⟨rfl,hb4⟩
 rw[hmc]
 have H4:Hid (Blk w4 w.heap.size 39 #[X Z a1,X Z a2,X Y a3,X Y a4,X Y a5]∧Blk w4 (w.heap.size + 1) 39 #[X Z c1,X Z c2,X Y c3,X Y c4,X Y c5]∧Below w.heap.size w w4∧w.heap.size + 2≤w4.heap.size):=by
  obtain⟨g1,g2,g3,g4⟩:=H3.out
  have:=hb4.size
  exact⟨g1.below hb4 g1.lt,g2.below hb4 g2.lt,g3.trans (hb4.mono g3.size),by omega⟩
 clear hb4 H3 CC y0 y1 y2 y3 y4
 obtain⟨x0,x1,x2,x3,x4⟩:=H4.out.1.c5
 obtain⟨y0,y1,y2,y3,y4⟩:=H4.out.2.1.c5
 go_wp2_with fail
 refine(HA w4 H4.out.2.2.1).mono ?_
 rintro e w9 ⟨rfl,hb9⟩
 have HF:Hid (Below w.heap.size w w9):=H4.out.2.2.1.trans (hb9.mono H4.out.2.2.1.size)
 clear hb9 H4
 go_wp2_with fail
 go_ret
 exact⟨rfl,HF.out⟩
def bl2:List Be:=[⟨1,1,1⟩,⟨2,2,1⟩]
theorem bl2_ok:BesOk bl2:=fun b hb=>by
 simp only[bl2,List.mem_cons,List.not_mem_nil,or_false] at hb
 rcases hb with rfl|rfl<;>simp
theorem bl2_may:MayBs bl2.length bl2:=by
 refine⟨by decide,fun j hj=>?_⟩
 have:j=0∨j=1:=by simp[bl2] at hj;omega
 rcases this with rfl|rfl<;>simp[okAt,bl2]
theorem idle_in {a c:Tu}{ba bc T T':Nat}{fs:List Fl}(hac:a≠c)(h:fs.Perm (((a,(⟨a,ba,1,T⟩:Fl))::(if T' < 51 then [(c,(⟨c,bc,1,0⟩:Fl))] else [])).map (·.2))):fs.any (fun f=>decide (f.k=c))=decide ((T':Int) < 51):=by
 rw[h.any_eq]
 by_cases h1:T' < 51
 ·have:decide ((T':Int) < 51)=true:=decide_eq_true (by omega)
  rw[this]
  simp[h1]
 ·have:decide ((T':Int) < 51)=false:=decide_eq_false (by omega)
  rw[this]
  simp[h1,hac]
structure IdS (w wr:World)(base:Nat)(p:BP)(z:Int)(a c:Tu)(ba bc T j qx nx cx:Nat)(Ax:Option Addr):Prop where
 bal:∃ops L fms il made,BalAt wr base p (primeAt z) 2 51 316 32000 1 T ops 0 L bl2 fms (fmI a c ba bc T) il made∧WS il∧L.length≤150∧(T < 51→L.length≤121)∧ops≤100 + j∧0≤made∧made≤100 + (j:Int)∧fms.length≤2
 ta:Blk wr w.heap.size 39 a.vals
 tc:Blk wr (w.heap.size + 1) 39 c.vals
 out:Blk wr qx 28 #[X Y 2,X Y 0,X Y ba,G Ax nx cx]
 low:Below w.heap.size w wr
 bs:w.heap.size + 2≤base
 ox:base≤qx
 hi:base≤wr.heap.size
theorem idle_yes (z:Int)(a c:Tu)(ha0:TuOk a)(hc0:TuOk c)(A:Option Addr)(n cap:Nat)(l:List Int)(w:World)(hr:Reads w w.heap.size 1 A n (iv l))(HA:∀W,Below w.heap.size w W→Calls Pg 5 #[] W fun e w'=>e=rT (bL true)∧Below W.heap.size W w')(hma:mayTu a=true)(hmc:mayTu c=true)(he:a≠c)(hn:n≤20):Calls Pg 4 #[X Y z,.agg a.vals,.agg c.vals,G A n cap] w fun e w'=>e=rT (bL true)∧Below w.heap.size w w':=by
 have he':decide (a=c)=false:=by simp[he]
 have hd:decide ((20:Int) < (n:Int))=false:=decide_eq_false (by omega)
 have hac:=he
 obtain⟨a1,a2,a3,a4,a5⟩:=a
 obtain⟨c1,c2,c3,c4,c5⟩:=c
 have hq:=run_eql_tu ⟨a1,a2,a3,a4,a5⟩ ⟨c1,c2,c3,c4,c5⟩
 have CA:=jH (maytuple_any ⟨a1,a2,a3,a4,a5⟩)
 have CC:=jH (maytuple_any ⟨c1,c2,c3,c4,c5⟩)
 unfold Tu.vals at *
 dsimp only at *
 have k1:=(Blk.new w 39 #[X Z a1,X Z a2,X Y a3,X Y a4,X Y a5]).alloc (cL #[X Z c1,X Z c2,X Y c3,X Y c4,X Y c5] 39)
 have k2:=Blk.new (w.alloc (cL #[X Z a1,X Z a2,X Y a3,X Y a4,X Y a5] 39)) 39 #[X Z c1,X Z c2,X Y c3,X Y c4,X Y c5]
 have hb2:Below w.heap.size w ((w.alloc (cL #[X Z a1,X Z a2,X Y a3,X Y a4,X Y a5] 39)).alloc (cL #[X Z c1,X Z c2,X Y c3,X Y c4,X Y c5] 39)):=((bR w.heap.size w).alloc (nR _) _).alloc (by simp) _
 rw[show (w.alloc (cL #[X Z a1,X Z a2,X Y a3,X Y a4,X Y a5] 39)).heap.size=w.heap.size + 1 by simp] at k2
 have hsz:((w.alloc (cL #[X Z a1,X Z a2,X Y a3,X Y a4,X Y a5] 39)).alloc (cL #[X Z c1,X Z c2,X Y c3,X Y c4,X Y c5] 39)).heap.size=w.heap.size + 2:=by simp
 have hq':=fun W=>(hq W).trans (by rw[he'])
 clear hq he he'
 have HT:=jH (aI ha0 (aI hc0 (aI hma (aI hmc (aI hac (aI hr HA))))))
 clear ha0 hc0 hac hr HA
 have H2:=jH (aI k1 (aI k2 (aI hb2 hsz)))
 obtain⟨x0,x1,x2,x3,x4⟩:=k1.c5
 clear k1 k2 hb2 hsz
 go_enter func4,ntmps4
 go_wp2_with fail
 generalize (w.alloc (cL #[X Z a1,X Z a2,X Y a3,X Y a4,X Y a5] 39)).alloc (cL #[X Z c1,X Z c2,X Y c3,X Y c4,X Y c5] 39)=w2 at *
 refine(CA.out w2).mono ?_
 rintro e w3 ⟨rfl,hb3⟩
 rw[hma]
 have H3:Hid (Blk w3 w.heap.size 39 #[X Z a1,X Z a2,X Y a3,X Y a4,X Y a5]∧Blk w3 (w.heap.size + 1) 39 #[X Z c1,X Z c2,X Y c3,X Y c4,X Y c5]∧Below w.heap.size w w3∧w.heap.size + 2≤w3.heap.size):=by
  obtain⟨g1,g2,g3,g4⟩:=H2.out
  have:=hb3.size
  exact⟨g1.below hb3 g1.lt,g2.below hb3 g2.lt,g3.trans (hb3.mono g3.size),by omega⟩
 clear hb3 H2 CA x0 x1 x2 x3 x4
 obtain⟨y0,y1,y2,y3,y4⟩:=H3.out.2.1.c5
 go_wp2_with fail
 refine(CC.out w3).mono ?_
 rintro e w4 ⟨rfl,hb4⟩
 rw[hmc]
 have H4:Hid (Blk w4 w.heap.size 39 #[X Z a1,X Z a2,X Y a3,X Y a4,X Y a5]∧Blk w4 (w.heap.size + 1) 39 #[X Z c1,X Z c2,X Y c3,X Y c4,X Y c5]∧Below w.heap.size w w4∧w.heap.size + 2≤w4.heap.size):=by
  obtain⟨g1,g2,g3,g4⟩:=H3.out
  have:=hb4.size
  exact⟨g1.below hb4 g1.lt,g2.below hb4 g2.lt,g3.trans (hb4.mono g3.size),by omega⟩
 clear hb4 H3 CC y0 y1 y2 y3 y4
 obtain⟨x0,x1,x2,x3,x4⟩:=H4.out.1.c5
 obtain⟨y0,y1,y2,y3,y4⟩:=H4.out.2.1.c5
 go_wp2_with fail
 refine(made_ok z w4).mono ?_
 rintro e w5 ⟨⟨base,p,il0,rfl,hbase,hbal⟩,hb5⟩
 have H5:Hid (BalAt w5 base p (primeAt z) 2 51 316 32000 0 0 6 0 [] [] [] [] il0 1∧Blk w5 w.heap.size 39 #[X Z a1,X Z a2,X Y a3,X Y a4,X Y a5]∧Blk w5 (w.heap.size + 1) 39 #[X Z c1,X Z c2,X Y c3,X Y c4,X Y c5]∧Below w.heap.size w w5∧w.heap.size + 2≤base):=by
  obtain⟨g1,g2,g3,g4⟩:=H4.out
  exact⟨hbal,g1.below hb5 g1.lt,g2.below hb5 g2.lt,g3.trans (hb5.mono g3.size),by omega⟩
 clear hbase hbal hb5 H4 x0 x1 x2 x3 x4 y0 y1 y2 y3 y4 hq' hd
 go_wp2_with fail
 have h6:=H5.out.1.made ((bR w5.heap.size w5).alloc (nR _) (cL #[X Y 1,X Z 1,X Y 1,X Y 2,X Z 2,X Y 1] 34))
 have r6:Reads (w5.alloc (cL #[X Y 1,X Z 1,X Y 1,X Y 2,X Z 2,X Y 1] 34)) (w5.heap.size + 1) 3 (some ⟨w5.heap.size,0,none⟩) 2 (bks [⟨1,1,1⟩,⟨2,2,1⟩]):=reads_news _ _ _ _ 2 3 _ _ (by rfl) rfl rfl _ (by rfl)
 have CG:=top_gen h6 (some ⟨w5.heap.size,0,none⟩) 2 2 bl2 (by omega) bl2_ok bl2_may (by omega) (by omega) (.inl rfl) (by decide) (by decide) (fun W hW=>gsort2 (some ⟨w5.heap.size,0,none⟩) 2 (w5.heap.size + 1) ⟨1,1,1⟩ ⟨2,2,1⟩ (by decide) W (r6.below (hW.mono (by simp))) (nT (by simp) hW.size) (by omega) (fun e=>by cases e))
 have hl6:([]++frameB 3 3 (genB (0 + 1) bl2)).length=35:=by rw[List.nil_append,frameB_length,genB_length];rfl
 obtain⟨L6,hL6⟩:∃L6,L6=[]++frameB 3 3 (genB (0 + 1) bl2):=⟨_,rfl⟩
 rw[←hL6] at CG hl6
 have H6:(fun Vv:World=>Hid (Blk Vv w.heap.size 39 #[X Z a1,X Z a2,X Y a3,X Y a4,X Y a5]∧Blk Vv (w.heap.size + 1) 39 #[X Z c1,X Z c2,X Y c3,X Y c4,X Y c5]∧Below w.heap.size w Vv∧w.heap.size + 2≤base∧L6.length=35)) (w5.alloc (cL #[X Y 1,X Z 1,X Y 1,X Y 2,X Z 2,X Y 1] 34)):=by
  obtain⟨g1,g2,g3,g4,g5⟩:=H5.out
  exact⟨g2.alloc _,g3.alloc _,g4.alloc g4.size _,g5,hl6⟩
 clear hl6 hL6 r6 h6 H5
 refine CG.mono ?_
 rintro e w6 ⟨rfl,hbal,hf⟩
 have H7:Hid (BalAt w6 base p (primeAt z) 2 51 316 32000 (0 + 1) 0 (6 + 1) 0 L6 bl2 [] [] il0 (1 + 1)∧Blk w6 w.heap.size 39 #[X Z a1,X Z a2,X Y a3,X Y a4,X Y a5]∧Blk w6 (w.heap.size + 1) 39 #[X Z c1,X Z c2,X Y c3,X Y c4,X Y c5]∧Below w.heap.size w w6∧w.heap.size + 2≤base∧L6.length=35):=by
  obtain⟨g1,g2,g3,g4,g5⟩:=H6.out
  exact⟨hbal,g1.below hf.below (by omega),g2.below hf.below (by omega),g3.trans (hf.below.mono (by omega)),g4,g5⟩
 clear CG hbal hf H6
 obtain⟨x0,x1,x2,x3,x4⟩:=H7.out.2.1.c5
 go_wp2_with fail
 refine(tpacket_ok (⟨a1,a2,a3,a4,a5⟩:Tu) HT.out.1 w6).mono ?_
 rintro e w7 ⟨A7,N7,c7,rfl,hN7,hown7,hb7⟩
 have hr7:Reads w7 w7.heap.size 1 A7 N7 (bv (mkB (⟨a1,a2,a3,a4,a5⟩:Tu) 9)):=Reads.of_own hown7
 obtain⟨ba,hba,hfa,CN⟩:=top_new (H7.out.1.made hb7) (⟨a1,a2,a3,a4,a5⟩:Tu) 9 HT.out.1 HT.out.2.2.1 (by omega) (by omega) A7 N7 c7 w7.heap.size hr7 (nR _) (own_capp hown7).1 rfl (by decide) (by decide) (by omega) (by omega) (by decide) (by omega) (.inr (by have:=H7.out.2.2.2.2.2;omega)) (by have:=H7.out.2.2.2.2.2;omega) (by have:=H7.out.2.2.2.2.2;omega)
 have H8:Hid (Blk w7 w.heap.size 39 #[X Z a1,X Z a2,X Y a3,X Y a4,X Y a5]∧Blk w7 (w.heap.size + 1) 39 #[X Z c1,X Z c2,X Y c3,X Y c4,X Y c5]∧Below w.heap.size w w7∧w.heap.size + 2≤base∧L6.length=35∧(∃b,b∈bl2∧findBe bl2 (ba:Int)=(b,true)∧b.id=(ba:Int))∧FlOk ⟨(⟨a1,a2,a3,a4,a5⟩:Tu),ba,0 + 1,0⟩):=by
  obtain⟨g0,g1,g2,g3,g4,g5⟩:=H7.out
  exact⟨g1.below hb7 g1.lt,g2.below hb7 g2.lt,g3.trans (hb7.mono g3.size),g4,g5,hba,hfa⟩
 clear hba hfa hb7 hown7 hN7 hr7 H7 x0 x1 x2 x3 x4
 go_wp2_with fail
 refine CN.mono ?_
 rintro e w8 ⟨⟨A8,n8,c8,rfl⟩,⟨il8,hqs,hbal⟩,hf⟩
 have hln:(L6++frameB 1 3 (putB ⟨(⟨a1,a2,a3,a4,a5⟩:Tu),ba,0 + 1,0⟩)).length=78:=by rw[List.length_append,frameB_length,putB_length];have:=H8.out.2.2.2.2.1;omega
 obtain⟨L8,hL8⟩:∃L8,L8=L6++frameB 1 3 (putB ⟨(⟨a1,a2,a3,a4,a5⟩:Tu),ba,0 + 1,0⟩):=⟨_,rfl⟩
 rw[←hL8] at hbal hln
 have hbO:Below w8.heap.size w8 (w8.alloc (cL #[X Y 2,X Y 0,X Y ba,G A8 n8 c8] 28)):=(bR _ _).alloc (nR _) _
 have H9:(fun Vv:World=>Hid (BalAt Vv base p (primeAt z) 2 51 316 32000 (0 + 1) 0 (6 + 1 + 1) 0 L8 bl2 (mput [] (⟨a1,a2,a3,a4,a5⟩:Tu) ⟨(⟨a1,a2,a3,a4,a5⟩:Tu),ba,0 + 1,0⟩) (mput [] (⟨a1,a2,a3,a4,a5⟩:Tu) ⟨(⟨a1,a2,a3,a4,a5⟩:Tu),ba,0 + 1,0⟩) il8 (1 + 1)∧Blk Vv w.heap.size 39 #[X Z a1,X Z a2,X Y a3,X Y a4,X Y a5]∧Blk Vv (w.heap.size + 1) 39 #[X Z c1,X Z c2,X Y c3,X Y c4,X Y c5]∧Below w.heap.size w Vv∧w.heap.size + 2≤base∧L8.length=78∧Blk Vv w8.heap.size 28 #[X Y 2,X Y 0,X Y ba,G A8 n8 c8]∧base≤w8.heap.size∧(∃b,b∈bl2∧findBe bl2 (ba:Int)=(b,true)∧b.id=(ba:Int))∧FlOk ⟨(⟨a1,a2,a3,a4,a5⟩:Tu),ba,0 + 1,0⟩)) (w8.alloc (cL #[X Y 2,X Y 0,X Y ba,G A8 n8 c8] 28)):=by
  obtain⟨g1,g2,g3,g4,g5,g6,g7⟩:=H8.out
  have hlow:=g3.trans (hf.below.mono (by omega))
  exact⟨hbal.made hbO,(g1.below hf.below (by omega)).alloc _,(g2.below hf.below (by omega)).alloc _,hlow.alloc hlow.size _,g4,hln,Blk.new _ _ _,hbal.hi,g6,g7⟩
 clear hln hL8 hbal hqs hf hbO H8 CN
 obtain⟨y0,y1,y2,y3,y4⟩:=H9.out.2.2.1.c5
 go_wp2_with fail
 obtain⟨qx,hqx⟩:∃qx,qx=w8.heap.size:=⟨_,rfl⟩
 rw[←hqx] at H9⊢
 clear hqx
 generalize w8.alloc (cL #[X Y 2,X Y 0,X Y ba,G A8 n8 c8] 28)=w9 at *
 refine(tpacket_ok (⟨c1,c2,c3,c4,c5⟩:Tu) HT.out.2.1 w9).mono ?_
 rintro e wa ⟨Aa,Na,ca,rfl,hNa,howna,hbb⟩
 have hra:Reads wa wa.heap.size 1 Aa Na (bv (mkB (⟨c1,c2,c3,c4,c5⟩:Tu) 9)):=Reads.of_own howna
 have hgc:mget (mput [] (⟨a1,a2,a3,a4,a5⟩:Tu) (⟨(⟨a1,a2,a3,a4,a5⟩:Tu),ba,0 + 1,0⟩:Fl)) (⟨c1,c2,c3,c4,c5⟩:Tu)=none:=by
  show mget [((⟨a1,a2,a3,a4,a5⟩:Tu),(⟨(⟨a1,a2,a3,a4,a5⟩:Tu),ba,0 + 1,0⟩:Fl))] (⟨c1,c2,c3,c4,c5⟩:Tu)=none
  rw[mget_cons,if_neg HT.out.2.2.2.2.1]
  rfl
 obtain⟨bc,hbc,hfc,CN⟩:=top_new (H9.out.1.made hbb) (⟨c1,c2,c3,c4,c5⟩:Tu) 9 HT.out.2.1 HT.out.2.2.2.1 (by omega) (by omega) Aa Na ca wa.heap.size hra (nR _) (own_capp howna).1 hgc (show 1 < 2 by omega) (by decide) (by omega) (by omega) (show 1 < 256 by omega) (by omega) (.inr (by have:=H9.out.2.2.2.2.2.1;omega)) (by have:=H9.out.2.2.2.2.2.1;omega) (by have:=H9.out.2.2.2.2.2.1;omega)
 have Ha:Hid (Blk wa w.heap.size 39 #[X Z a1,X Z a2,X Y a3,X Y a4,X Y a5]∧Blk wa (w.heap.size + 1) 39 #[X Z c1,X Z c2,X Y c3,X Y c4,X Y c5]∧Below w.heap.size w wa∧w.heap.size + 2≤base∧L8.length=78∧Blk wa qx 28 #[X Y 2,X Y 0,X Y ba,G A8 n8 c8]∧base≤qx∧(∃b,b∈bl2∧findBe bl2 (ba:Int)=(b,true)∧b.id=(ba:Int))∧FlOk ⟨(⟨a1,a2,a3,a4,a5⟩:Tu),ba,0 + 1,0⟩):=by
  obtain⟨g0,g1,g2,g3,g4,g5,g6,g7,g8,g9⟩:=H9.out
  exact⟨g1.below hbb g1.lt,g2.below hbb g2.lt,g3.trans (hbb.mono g3.size),g4,g5,g6.below hbb g6.lt,g7,g8,g9⟩
 clear hbc hfc hbb howna hNa hra hgc H9 y0 y1 y2 y3 y4
 go_wp2_with fail
 refine CN.mono ?_
 rintro e wb ⟨⟨Ab,nb_,cb,rfl⟩,⟨ilb,hqs,hbal⟩,hf⟩
 have hln:(L8++frameB 1 3 (putB ⟨(⟨c1,c2,c3,c4,c5⟩:Tu),bc,0 + 1,0⟩)).length=121:=by rw[List.length_append,frameB_length,putB_length];have:=Ha.out.2.2.2.2.1;omega
 have HS:Hid (IdS w wb base p z (⟨a1,a2,a3,a4,a5⟩:Tu) (⟨c1,c2,c3,c4,c5⟩:Tu) ba bc 0 0 qx n8 c8 A8∧(∃b,b∈bl2∧findBe bl2 (ba:Int)=(b,true)∧b.id=(ba:Int))):=by
  obtain⟨g1,g2,g3,g4,g5,g6,g7,g8,g9⟩:=Ha.out
  have hbal2:BalAt wb base p (primeAt z) 2 51 316 32000 1 0 (6 + 1 + 1 + 1) 0 (L8++frameB 1 3 (putB ⟨(⟨c1,c2,c3,c4,c5⟩:Tu),bc,0 + 1,0⟩)) bl2 (mput (mput [] (⟨a1,a2,a3,a4,a5⟩:Tu) ⟨(⟨a1,a2,a3,a4,a5⟩:Tu),ba,0 + 1,0⟩) (⟨c1,c2,c3,c4,c5⟩:Tu) ⟨(⟨c1,c2,c3,c4,c5⟩:Tu),bc,0 + 1,0⟩) (fmI (⟨a1,a2,a3,a4,a5⟩:Tu) (⟨c1,c2,c3,c4,c5⟩:Tu) ba bc 0) ilb (1 + 1):=by
   rw[←fmI_start HT.out.2.2.2.2.1]
   exact hbal
  have hil:ilb.length≤2:=by
   have h1:=hbal2.fl.link.length_eq
   have h2:=fmI_len (a:=(⟨a1,a2,a3,a4,a5⟩:Tu)) (c:=(⟨c1,c2,c3,c4,c5⟩:Tu)) (ba:=ba) (bc:=bc) 0
   simp at h1
   omega
  refine⟨⟨⟨_,_,_,ilb,_,hbal2,ws_qset hqs hil,by omega,fun _=>by omega,by omega,by omega,by omega,nT (mput_length_le _ _ _) (by show 1 + 1≤2;omega)⟩,g1.below hf.below (by omega),g2.below hf.below (by omega),hf.blk _ _ _ g6 (by decide),g3.trans (hf.below.mono (by omega)),g4,g7,hbal.hi⟩,g8⟩
 clear hln hbal hqs hf Ha CN
 go_wp2_with fail
 go_loopg [12,64] n (fun gk si i wr=>∃(j T:Nat),si=X Y T∧i=X Y j∧Hid (j + gk=n)∧T≤49 * j∧Hid (IdS w wr base p z (⟨a1,a2,a3,a4,a5⟩:Tu) (⟨c1,c2,c3,c4,c5⟩:Tu) ba bc T j qx n8 c8 A8))
 case atStart=>exact⟨0,0,rfl,rfl,(by show _=_;omega),by omega,HS.out.1⟩
 case round=>
  obtain⟨j,T,rfl,rfl,hgk,hT,hI⟩:=hrel
  by_cases hlt:j < n
  ·obtain⟨ad,u0,hAe,_,hu,hcx⟩:=(HT.out.2.2.2.2.2.1.below hI.out.low).at_ hlt
   subst hAe
   obtain⟨x,rfl⟩:∃x:Int,u0=X Y x:=by
    unfold iv at hu
    rw[List.getElem?_map] at hu
    cases hj:l[j]? with
    |none=>rw[hj] at hu;cases hu
    |some y=>rw[hj] at hu;exact⟨y,by injection hu with hu;exact hu.symm⟩
   clear hu
   have e0:=u64_wrap x
   obtain⟨kk,hkk⟩:∃kk,kk=u64n x % 50:=⟨_,rfl⟩
   have hk:kk≤49:=by have:u64n x % 50 < 50:=Nat.mod_lt _ (by omega);omega
   have e1:((u64n x:Nat):Int).tmod 50=(kk:Int):=by rw[Int.tmod_eq_emod_of_nonneg (by omega)];omega
   have e2:IntKind.u64.wrap (kk:Int)=(kk:Int):=by rw[IntKind.wrap_u64];omega
   have e3:IntKind.i64.wrap (kk:Int)=(kk:Int):=by rw[IntWalk.i64_in _ (by omega)]
   clear hkk
   generalize u64n x=u at *
   obtain⟨T1,hT1⟩:∃T1,T1=T + kk:=⟨_,rfl⟩
   have e4:IntKind.i64.wrap ((T:Int) + (kk:Int))=(T1:Int):=by rw[IntWalk.i64_in _ (by omega)];omega
   obtain⟨ops,L,fms,il,made,hbal,hws,hL1,hL2,hops,hm0,hm1,hfms⟩:=hI.out.bal
   have hdue:=idle_due HT.out.2.2.2.2.1 hbal.fl hws hk (by omega)
   have CT:=jH (top_tick hbal kk (by omega) (by omega) (by omega) ⟨hm0,by omega⟩ hdue.1 (by omega) (.inr (by omega)) (by omega) (by omega))
   have HD:=jH (aI hdue.2 (aI hI.out (aI hL1 (aI hL2 (aI hops (aI hm0 (aI hm1 hfms)))))))
   have HK:=jH (aI hT (aI hk hT1))
   have hT2:T≤980:=by omega
   clear hbal hws hL1 hL2 hops hm0 hm1 hfms hdue hI hT hT1
   go_wp2_with fail
   refine CT.out.mono ?_
   rintro e w1 ⟨rfl,⟨fs,l',hd,hf1,hget,hb1⟩,hfr⟩
   obtain⟨hdel,hcase⟩:=HD.out.1 fs l' hd hget
   have hbO:Below w1.heap.size w1 (w1.alloc (cL #[X Y 0,X Y 0,X Y 0,G none 0 0] 28)):=(bR _ _).alloc (nR _) _
   have H1:(fun Vv:World=>Hid ((∃ops L fms made,BalAt Vv base p (primeAt z) 2 51 316 32000 1 T1 ops 0 L bl2 fms (((⟨a1,a2,a3,a4,a5⟩:Tu),(⟨(⟨a1,a2,a3,a4,a5⟩:Tu),ba,1,T⟩:Fl))::(if T1 < 51 then [((⟨c1,c2,c3,c4,c5⟩:Tu),(⟨(⟨c1,c2,c3,c4,c5⟩:Tu),bc,1,0⟩:Fl))] else [])) l' made∧L.length≤150∧(T1 < 51→L.length≤121)∧ops≤101 + j∧0≤made∧made≤101 + (j:Int)∧fms.length≤2)∧Blk Vv w.heap.size 39 #[X Z a1,X Z a2,X Y a3,X Y a4,X Y a5]∧Blk Vv (w.heap.size + 1) 39 #[X Z c1,X Z c2,X Y c3,X Y c4,X Y c5]∧Blk Vv qx 28 #[X Y 2,X Y 0,X Y ba,G A8 n8 c8]∧Below w.heap.size w Vv∧w.heap.size + 2≤base∧base≤qx∧base≤Vv.heap.size)) (w1.alloc (cL #[X Y 0,X Y 0,X Y 0,G none 0 0] 28)):=by
    obtain⟨g0,g1,g2,g3,g4,g5,g6,g7⟩:=HD.out
    obtain⟨q1,q2,q3⟩:=HK.out
    have hb1':=hb1
    rw[hdel] at hb1'
    rw[←q3] at hb1'
    have hlen1:fs.length≤1:=hf1
    have hlow:=g1.low.trans (hfr.below.mono (by have:=g1.bs;omega))
    refine⟨⟨_,_,_,_,hb1'.made hbO,?_,?_,by omega,by omega,by omega,?_⟩,(g1.ta.below hfr.below (by have:=g1.bs;omega)).alloc _,(g1.tc.below hfr.below (by have:=g1.bs;omega)).alloc _,(hfr.blk _ _ _ g1.out (by decide)).alloc _,hlow.alloc hlow.size _,g1.bs,g1.ox,by have:=hb1'.hi;simp;omega⟩
    ·rcases hcase with⟨h1,h2,rfl⟩|rfl
     ·have:=g3 h1
      simp[frameB_length,tupB_length]
      omega
     ·simp
      exact g2
    ·intro h51
     rcases hcase with⟨h1,h2,rfl⟩|rfl
     ·omega
     ·simp
      exact g3 (by omega)
    ·rcases hcase with⟨h1,h2,rfl⟩|rfl
     ·exact nT (List.length_filter_le _ _) g7
     ·exact g7
   clear hd hget hb1 hfr hdel hcase hbO hf1 HD CT
   unfold out0
   go_wp2_with fail
   generalize (w1.alloc (cL #[X Y 0,X Y 0,X Y 0,G none 0 0] 28))=w2 at *
   have CS:Hid (Calls Pg 9 #[PT (some ⟨p.bp,0,none⟩)] w2 fun e w'=>∃(A':Option Addr) (c':Nat) (v:Value) (fs:List Fl),e=rT (aG #[X Y 1,G A' bl2.length c',G none 0 0,v])∧fs.Perm ((((⟨a1,a2,a3,a4,a5⟩:Tu),(⟨(⟨a1,a2,a3,a4,a5⟩:Tu),ba,1,T⟩:Fl))::(if T1 < 51 then [((⟨c1,c2,c3,c4,c5⟩:Tu),(⟨(⟨c1,c2,c3,c4,c5⟩:Tu),bc,1,0⟩:Fl))] else [])).map (·.2))∧w'.ownsRow w2.heap.size 47 8 v fs.length (flvs fs)∧Below w2.heap.size w2 w'):=by
    obtain⟨ops,L,fms,made,hbal,-⟩:=H1.out.1
    refine(bal_state hbal).mono ?_
    rintro e w' ⟨A',c',v,fs,rfl,_,h1,h2,h3⟩
    exact⟨A',c',v,fs,rfl,h1,h2,h3⟩
   refine CS.out.mono ?_
   rintro e w3' ⟨A3,c3',v,fs2,rfl,hperm,hown,hb3⟩
   obtain⟨A4,n4,rfl⟩:=own_slice hown
   have hin:=idle_in HT.out.2.2.2.2.1 hperm
   have hl2:fs2.length≤2:=by
    have:=hperm.length_eq
    rw[this]
    by_cases h51:T1 < 51<;>simp[h51]
   have H3:Hid (((∃ops L fms made,BalAt w3' base p (primeAt z) 2 51 316 32000 1 T1 ops 0 L bl2 fms (((⟨a1,a2,a3,a4,a5⟩:Tu),(⟨(⟨a1,a2,a3,a4,a5⟩:Tu),ba,1,T⟩:Fl))::(if T1 < 51 then [((⟨c1,c2,c3,c4,c5⟩:Tu),(⟨(⟨c1,c2,c3,c4,c5⟩:Tu),bc,1,0⟩:Fl))] else [])) l' made∧L.length≤150∧(T1 < 51→L.length≤121)∧ops≤101 + j∧0≤made∧made≤101 + (j:Int)∧fms.length≤2)∧Blk w3' w.heap.size 39 #[X Z a1,X Z a2,X Y a3,X Y a4,X Y a5]∧Blk w3' (w.heap.size + 1) 39 #[X Z c1,X Z c2,X Y c3,X Y c4,X Y c5]∧Blk w3' qx 28 #[X Y 2,X Y 0,X Y ba,G A8 n8 c8]∧Below w.heap.size w w3'∧w.heap.size + 2≤base∧base≤qx∧base≤w3'.heap.size)∧w3'.ownsRow w2.heap.size 47 8 (G A4 fs2.length n4) fs2.length (flvs fs2)):=by
    obtain⟨⟨ops,L,fms,made,hbal,g0⟩,g1,g2,g3,g4,g5,g6,g7⟩:=H1.out
    exact⟨⟨⟨ops,L,fms,made,hbal.made hb3,g0⟩,g1.below hb3 g1.lt,g2.below hb3 g2.lt,g3.below hb3 g3.lt,g4.trans (hb3.mono g4.size),g5,g6,nT g7 hb3.size⟩,hown⟩
   have HI:=jH hin
   have hfd:∀W,(Instr.field 44 (aG #[X Y 1,G A3 bl2.length c3',G none 0 0,G A4 fs2.length n4]) 3).run Pg W=.ok (G A4 fs2.length n4) W:=fun _=>by kernel_rfl
   clear hown hb3 hperm hin CS H1
   go_wp2_with fail
   obtain⟨g9,hg9⟩:∃g9,g9=gk:=⟨_,rfl⟩
   have HG9:=jH hg9
   clear hg9
   go_loopg [17,88] fs2.length (fun gk b i wr=>∃(m:Nat),b=bL ((fs2.take m).any (fun f=>decide (f.k=(⟨c1,c2,c3,c4,c5⟩:Tu))))∧i=X Y m∧Hid (m + gk=fs2.length)∧Hid (Below w3'.heap.size w3' wr))
   case atStart=>exact⟨0,by simp,rfl,(by show _=_;omega),bR _ _⟩
   case round=>
    obtain⟨m,rfl,rfl,hgk2,hbr⟩:=hrel
    by_cases hlt2:m < fs2.length
    ·obtain⟨f,hfj⟩:∃f,fs2[m]? =some f:=⟨_,List.getElem?_eq_getElem hlt2⟩
     obtain⟨b4,hA4,hc4⟩:=own_fl (f:=f) (j:=m) (own_below H3.out.2 hbr.out) hfj
     subst hA4
     have r0:=hc4 0 _ rfl
     have r1:=hc4 1 _ rfl
     have r2:=hc4 2 _ rfl
     have r3:=hc4 3 _ rfl
     have r4:=hc4 4 _ rfl
     have r5:=hc4 5 _ rfl
     have r6:=hc4 6 _ rfl
     have r7:=hc4 7 _ rfl
     simp only[Nat.add_zero] at r0
     have htk:(fs2.take (m + 1)).any (fun f=>decide (f.k=(⟨c1,c2,c3,c4,c5⟩:Tu)))=((fs2.take m).any (fun f=>decide (f.k=(⟨c1,c2,c3,c4,c5⟩:Tu)))||decide (f.k=(⟨c1,c2,c3,c4,c5⟩:Tu))):=by
      rw[List.take_add_one,hfj]
      simp
     have HTK:=jH htk
     have hq:=run_eql_tu f.k (⟨c1,c2,c3,c4,c5⟩:Tu)
     obtain⟨y0,y1,y2,y3,y4⟩:=((H3.out.1.2.2.1.below hbr.out H3.out.1.2.2.1.lt).alloc (cL #[X Z f.k.src,X Z f.k.dst,X Y f.k.proto,X Y f.k.sport,X Y f.k.dport,X Y f.be,X Y f.gen,X Y f.seen] 47)).c5
     unfold Tu.vals at hq
     dsimp only at hq
     generalize decide (f.k=(⟨c1,c2,c3,c4,c5⟩:Tu))=eb at *
     generalize (fs2.take m).any (fun f=>decide (f.k=(⟨c1,c2,c3,c4,c5⟩:Tu)))=bb at *
     have HB2:=jH (hbr.out.alloc hbr.out.size (cL #[X Z f.k.src,X Z f.k.dst,X Y f.k.proto,X Y f.k.sport,X Y f.k.dport,X Y f.be,X Y f.gen,X Y f.seen] 47))
     clear hc4 hfj htk hbr
     cases bb with
     |true=>
      go_wp2_with fail
      go_roundg (gk - 1)
      case measure=>have:=hgk2.out;omega
      case rel=>exact⟨m + 1,by rw[HTK.out];rfl,by go_num,(by show _=_;have:=hgk2.out;omega),HB2⟩
     |false=>
      go_wp2_with fail
      go_roundg (gk - 1)
      case measure=>have:=hgk2.out;omega
      case rel=>exact⟨m + 1,by rw[HTK.out];rfl,by go_num,(by show _=_;have:=hgk2.out;omega),HB2⟩
    ·have hm:m=fs2.length:=by have:=hgk2.out;omega
     have hall:(fs2.take m).any (fun f=>decide (f.k=(⟨c1,c2,c3,c4,c5⟩:Tu)))=decide ((T1:Int) < 51):=by
      rw[hm,List.take_of_length_le (nR _)]
      exact HI.out
     rw[hall]
     have HX:Hid ((∃ops L fms made,BalAt wr base p (primeAt z) 2 51 316 32000 1 T1 ops 0 L bl2 fms (((⟨a1,a2,a3,a4,a5⟩:Tu),(⟨(⟨a1,a2,a3,a4,a5⟩:Tu),ba,1,T⟩:Fl))::(if T1 < 51 then [((⟨c1,c2,c3,c4,c5⟩:Tu),(⟨(⟨c1,c2,c3,c4,c5⟩:Tu),bc,1,0⟩:Fl))] else [])) l' made∧L.length≤150∧(T1 < 51→L.length≤121)∧ops≤101 + j∧0≤made∧made≤101 + (j:Int)∧fms.length≤2)∧Blk wr w.heap.size 39 #[X Z a1,X Z a2,X Y a3,X Y a4,X Y a5]∧Blk wr (w.heap.size + 1) 39 #[X Z c1,X Z c2,X Y c3,X Y c4,X Y c5]∧Blk wr qx 28 #[X Y 2,X Y 0,X Y ba,G A8 n8 c8]∧Below w.heap.size w wr∧w.heap.size + 2≤base∧base≤qx∧base≤wr.heap.size):=by
      obtain⟨⟨⟨ops,L,fms,made,hbal,g0⟩,g1,g2,g3,g4,g5,g6,g7⟩,-⟩:=H3.out
      have hb3:=hbr.out
      exact⟨⟨ops,L,fms,made,hbal.made hb3,g0⟩,g1.below hb3 g1.lt,g2.below hb3 g2.lt,g3.below hb3 g3.lt,g4.trans (hb3.mono g4.size),g5,g6,nT g7 hb3.size⟩
     clear hbr H3 hall
     obtain⟨bq,hbq⟩:∃bq,bq=decide ((T1:Int) < 51):=⟨_,rfl⟩
     obtain⟨x0,x1,x2,x3,x4⟩:=HX.out.2.1.c5
     go_wp2_with fail
     refine(tpacket_ok (⟨a1,a2,a3,a4,a5⟩:Tu) HT.out.1 wr).mono ?_
     rintro e w7' ⟨A7',N7',c7',rfl,hN7,hown7,hb7⟩
     have hr7:Reads w7' w7'.heap.size 1 A7' N7' (bv (mkB (⟨a1,a2,a3,a4,a5⟩:Tu) 9)):=Reads.of_own hown7
     obtain⟨hj1,hk1,hT1'⟩:=HK.out
     obtain⟨⟨ops,L,fms,made,hbal,hL1,hL2,hops,hm0,hm1,hfms⟩,g1,g2,g3,g4,g5,g6,g7⟩:=HX.out
     obtain⟨bb,hbm,hbf,hbi⟩:=HS.out.2
     have CN:=jH (top_known (hbal.made hb7) (⟨a1,a2,a3,a4,a5⟩:Tu) (⟨(⟨a1,a2,a3,a4,a5⟩:Tu),ba,1,T⟩:Fl) 9 HT.out.1 HT.out.2.2.1 (by omega) (by omega) A7' N7' c7' w7'.heap.size hr7 (nR _) (own_capp hown7).1 (by rw[mget_cons,if_pos rfl]) rfl bb hbm hbf hbi (by show T≤T1;omega) (by omega))
     have Ha:=jH (aI (g1.below hb7 g1.lt) (aI (g2.below hb7 g2.lt) (aI (g3.below hb7 g3.lt) (aI (g4.trans (hb7.mono g4.size)) (aI g5 (aI g6 (aI hL1 (aI hL2 (aI hops (aI hm0 (aI hm1 hfms)))))))))))
     clear hbal hL1 hL2 hops hm0 hm1 hfms g1 g2 g3 g4 g5 g6 g7 hbm hbf hbi hj1 hk1 hT1' hb7 hown7 hN7 hr7 HX x0 x1 x2 x3 x4
     go_wp2_with fail
     refine CN.out.mono ?_
     rintro e w8' ⟨⟨A8',n8',c8',rfl⟩,⟨il8',hqs,hbal⟩,hf⟩
     have hbO:Below w8'.heap.size w8' (w8'.alloc (cL #[X Y 2,X Y 0,X Y ba,G A8' n8' c8'] 28)):=(bR _ _).alloc (nR _) _
     have HJ:Hid (IdS w (w8'.alloc (cL #[X Y 2,X Y 0,X Y ba,G A8' n8' c8'] 28)) base p z (⟨a1,a2,a3,a4,a5⟩:Tu) (⟨c1,c2,c3,c4,c5⟩:Tu) ba bc T1 (j + 1) qx n8 c8 A8):=by
      obtain⟨hj1,hk1,hT1'⟩:=HK.out
      obtain⟨g1,g2,g3,g4,g5,g6,hL1,hL2,hops,hm0,hm1,hfms⟩:=Ha.out
      have hbal2:BalAt w8' base p (primeAt z) 2 51 316 32000 1 T1 ops 0 L bl2 fms (fmI (⟨a1,a2,a3,a4,a5⟩:Tu) (⟨c1,c2,c3,c4,c5⟩:Tu) ba bc T1) il8' made:=by
       rw[←fmI_put (T:=T) (T':=T1) HT.out.2.2.2.2.1 (by omega) _ rfl]
       exact hbal
      have hil:il8'.length≤2:=by
       have h1:=hbal2.fl.link.length_eq
       have h2:=fmI_len (a:=(⟨a1,a2,a3,a4,a5⟩:Tu)) (c:=(⟨c1,c2,c3,c4,c5⟩:Tu)) (ba:=ba) (bc:=bc) T1
       simp at h1
       omega
      have hlow:=g4.trans (hf.below.mono (by omega))
      exact⟨⟨ops,L,fms,il8',made,hbal2.made hbO,ws_qset hqs hil,hL1,hL2,by omega,hm0,by omega,hfms⟩,(g1.below hf.below (by omega)).alloc _,(g2.below hf.below (by omega)).alloc _,(hf.blk _ _ _ g3 (by decide)).alloc _,hlow.alloc hlow.size _,g5,g6,by have:=hbal.hi;simp;omega⟩
     obtain⟨o0,-,o2⟩:=HJ.out.out.c3
     clear hbal hqs hf hbO CN Ha
     go_wp2_with fail
     go_roundg (g9 - 1)
     case measure=>have h1:=hgk.out;have h2:=HG9.out;omega
     case rel=>exact⟨j + 1,T1,rfl,by go_num,(by show _=_;have h1:=hgk.out;have h2:=HG9.out;omega),(by have:=HK.out;omega),HJ⟩
  ·have hj:j=n:=by have:=hgk.out;omega
   have HZ:Hid (Below w.heap.size w wr):=hI.out.low
   clear hI hj
   go_wp2_with fail
   refine(HT.out.2.2.2.2.2.2 wr HZ.out).mono ?_
   rintro e w9' ⟨rfl,hb9⟩
   have HF:Hid (Below w.heap.size w w9'):=HZ.out.trans (hb9.mono HZ.out.size)
   clear hb9 HZ
   go_wp2_with fail
   go_ret
   exact⟨rfl,HF.out⟩
theorem idle_any (z:Int)(a c:Tu)(ha0:TuOk a)(hc0:TuOk c)(A:Option Addr)(n cap:Nat)(l:List Int)(w:World)(hr:Reads w w.heap.size 1 A n (iv l))(HA:∀W,Below w.heap.size w W→Calls Pg 5 #[] W fun e w'=>e=rT (bL true)∧Below W.heap.size W w'):Calls Pg 4 #[X Y z,.agg a.vals,.agg c.vals,G A n cap] w fun e w'=>e=rT (bL true)∧Below w.heap.size w w':=by
 cases hma:mayTu a with
 |false=>exact idle_no1 z a c ha0 hc0 A n cap l w hr HA hma
 |true=>
  cases hmc:mayTu c with
  |false=>exact idle_no2 z a c ha0 hc0 A n cap l w hr HA hma hmc
  |true=>
   by_cases he:a=c
   ·exact idle_no3 z a c ha0 hc0 A n cap l w hr HA hma hmc he
   ·by_cases hn:n≤20
    ·exact idle_yes z a c ha0 hc0 A n cap l w hr HA hma hmc he hn
    ·exact idle_no4 z a c ha0 hc0 A n cap l w hr HA hma hmc he (by omega)
end
section
open Go.Joins Go.ChangeShapes Go.WideShapes Go.RowKit Go.Deep
theorem open_agg5 {H:Type}{enc:TypeId×Value→H}{P:Program}{w:World}{base:Nat}{spare:Nat→Bool}{held:Bool}{r:Reach}{b0:Nat}{t:TypeId}{f0 f1 f2 f3 f4:Field}{v:Value}{d:DataW H}{p:List MemPlace}(hs:P.underlying t=some (.struct #[f0,f1,f2,f3,f4]))(hone:oneCellFields P #[f0,f1,f2,f3,f4]=true)(hC:P.cellsOf t=5)
  (hv:Value.okWide P w r b0 t v)(h:DataW.Trod enc P w base spare held t v d p):
  ∃(v0 v1 v2 v3 v4:Value) (y0 y1 y2 y3 y4:DataW H×List MemPlace) (n:Nat),v=aG #[v0,v1,v2,v3,v4]∧DataW.trod enc P w base spare held n f0.type [v0]=some y0∧DataW.trod enc P w base spare held n f1.type [v1]=some y1∧DataW.trod enc P w base spare held n f2.type [v2]=some y2∧DataW.trod enc P w base spare held n f3.type [v3]=some y3∧DataW.trod enc P w base spare held n f4.type [v4]=some y4:=by
 obtain⟨cs,rfl,hsz⟩:=okWide_struct hs hv
 obtain⟨l⟩:=cs
 match l,hsz.trans hC with
 |[c0,c1,c2,c3,c4],_=>
  obtain⟨fuel,hf⟩:=h
  obtain⟨xs,n,_,hx,_,hlen,hg⟩:=DataW.trod_struct hs hf
  obtain⟨o0,k0⟩:=hone_of hone 0 f0 rfl
  obtain⟨o1,k1⟩:=hone_of hone 1 f1 rfl
  obtain⟨o2,k2⟩:=hone_of hone 2 f2 rfl
  obtain⟨o3,k3⟩:=hone_of hone 3 f3 rfl
  obtain⟨o4,k4⟩:=hone_of hone 4 f4 rfl
  match xs,hlen with
  |[y0,y1,y2,y3,y4],_=>
   exact⟨c0,c1,c2,c3,c4,y0,y1,y2,y3,y4,n,rfl,by simpa [Value.cells,o0,k0,o1,k1,o2,k2,o3,k3,o4,k4] using hg 0 f0 rfl,by simpa [Value.cells,o0,k0,o1,k1,o2,k2,o3,k3,o4,k4] using hg 1 f1 rfl,by simpa [Value.cells,o0,k0,o1,k1,o2,k2,o3,k3,o4,k4] using hg 2 f2 rfl,by simpa [Value.cells,o0,k0,o1,k1,o2,k2,o3,k3,o4,k4] using hg 3 f3 rfl,by simpa [Value.cells,o0,k0,o1,k1,o2,k2,o3,k3,o4,k4] using hg 4 f4 rfl⟩
theorem open_tu {H:Type}{enc:TypeId×Value→H}{W:World}{r:Reach}{b0:Nat}{v:Value}{d:DataW H}{p:List MemPlace}(hv:Value.okWide Pg W r b0 39 v)(h:DataW.Trod enc Pg W 0 (fun _=>true) true 39 v d p):
  ∃g:Tu,v=.agg g.vals∧TuOk g:=by
 obtain⟨v0,v1,v2,v3,v4,y0,y1,y2,y3,y4,n,rfl,t0,t1,t2,t3,t4⟩:=open_agg5 underlying39 (by kernel_rfl) (by kernel_rfl) hv h
 obtain⟨z0,e0,_,w0⟩:=DataW.trod_int underlying32 t0
 obtain⟨z1,e1,_,w1⟩:=DataW.trod_int underlying32 t1
 obtain⟨z2,e2,_,w2⟩:=DataW.trod_int underlying3 t2
 obtain⟨z3,e3,_,w3⟩:=DataW.trod_int underlying3 t3
 obtain⟨z4,e4,_,w4⟩:=DataW.trod_int underlying3 t4
 simp only[List.cons.injEq,and_true] at e0 e1 e2 e3 e4
 subst e0 e1 e2 e3 e4
 obtain⟨q0,rfl,u0⟩:=nat_u32 w0
 obtain⟨q1,rfl,u1⟩:=nat_u32 w1
 exact⟨⟨q0,q1,z2,z3,z4⟩,rfl,⟨u0,u1,wf_i64 w2,wf_i64 w3,wf_i64 w4⟩⟩
end
section
open Go.ChangeShapes Go.WideShapes Go.ChangeAt Go.RowKit
def IntsOk (t:List Int):Prop:=∀x∈t,-9223372036854775808≤x∧x≤9223372036854775807
structure IntsIn (w:World)(a:Option Addr)(n c:Nat)(l:List Int):Prop where
 ok:IntsOk l
 le:n≤c
 reach:c * 8≤140737488351232
 reads:Reads w w.heap.size 1 a n (iv l)
theorem open_ints_in {H:Type}{enc:TypeId×Value→H}{P:Program}{W:World}{t e:TypeId}{d:DataW H}{ps:List MemPlace}{a:Option Addr}{n c j:Nat}{ts:List TypeId}{ds:List (DataW H)}
  (U:P.underlying t=some (.slice e))(Ue:P.underlying e=some (.int .i64))(hc:P.cellsOf e=1)(hb:P.bytesOf e=8)
  (hz:(DataW.weightsEach P ts ds).all (·≤reachBytes)=true)(ht:ts[j]? =some t)(hd:ds[j]? =some d)
  (h:DataW.Trod enc P W 0 (fun _=>true) true t (G a n c) d ps):∃l:List Int,IntsIn W a n c l:=by
 have hlt:=trod_lt' h
 obtain⟨fuel,hf⟩:=h
 rcases open_ints U Ue hc hf with⟨hcs,_⟩|⟨x,l,c',zs,hcs,_,hl,hm,hzl,hx,hcell,hwz⟩
 ·simp[Value.cells] at hcs
  obtain⟨rfl,rfl,rfl⟩:=hcs
  exact⟨[],(by intro x hx;cases hx),nR _,by decide,Reads.none_⟩
 ·simp[Value.cells] at hcs
  obtain⟨rfl,rfl,rfl⟩:=hcs
  simp only[if_true] at hzl
  have hreach:c * 8≤reachBytes:=by
   simp only[Prod.mk.injEq] at hx
   obtain⟨rfl,_⟩:=hx
   have:=sized_slice hz ht hd U
   rw[hb] at this
   simp[lits] at this
   omega
  refine⟨zs.take n,?_,hl,hreach,?_⟩
  ·intro y hy
   exact wf_i64 (hwz y (List.mem_of_mem_take hy))
  ·refine⟨by simp[iv];omega,fun hn=>⟨x,rfl,?_,fun k u hu=>?_⟩⟩
   ·have hc0:=hcell 0 (by omega)
    rw[Addr.add_zero'] at hc0
    exact World.block_lt_of_cell? W x hc0
   ·have hk:k < n:=by
     have:=(List.getElem?_eq_some_iff.1 hu).1
     simp[iv] at this
     omega
    rw[hcell k (by omega)]
    simp[iv,hk,show k < zs.length by omega] at hu
    rw[←hu]
    simp[List.getD,show k < zs.length by omega]
end
end Go.Proofs.YtgjnoccflmjheaaGreatDoor
