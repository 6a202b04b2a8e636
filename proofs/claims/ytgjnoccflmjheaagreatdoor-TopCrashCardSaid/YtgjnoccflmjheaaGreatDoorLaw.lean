/- Rows.TopCrashCardSaid: whatever the arguments, goittop.TopCrash returns true, and nothing that was there has turned. Condition: the seven library variables that the row lists read as the program's text lays them (the card's tie is the given one). -/
import Derived.Test.YtgjnoccflmjheaaGreatDoorR05
import Derived.Test.YtgjnoccflmjheaaGreatDoorRows
import Derived.Test.YtgjnoccflmjheaaGreatDoorCards
import Derived.Test.YtgjnoccflmjheaaGreatDoorTie
import Derived.WalkKit
import Derived.ProofKit
import Derived.OpenShut
import Derived.ShutString
import Derived.ChangeOld
import Derived.Below
import Derived.SizedLaws
import Derived.Lay
import Derived.SevenTiedAt
import Derived.Stop.Joined
import Derived.Deep.DeepHandedRow
import Derived.Shelf.Vars
namespace Go.Proofs.YtgjnoccflmjheaaGreatDoor.topCrash
open Go.ChangeShapes Go.WideShapes Go.ChangeAt Go.RowKit
set_option linter.unusedVariables false
theorem own:ownKnob Tryz.prog.godebug=none:=by kernel_rfl
theorem laidOut:laidOutB Tryz.prog=true:=by kernel_rfl
theorem maxLen {W:World}(h:W.ShapedOpen Tryz.prog):ML W:=
 cell_of_shapedOpen_int (g:=0) (t:=3) (zero:=#[.int .i64 0]) (k:=.i64) h (of_decide_eq_true (by kernel_rfl)) (by kernel_rfl) rfl (by kernel_rfl) (by kernel_rfl) Tryz.underlying3
set_option maxRecDepth 100000 in
theorem contract (H:Type)(enc:TypeId×Value→H)(W:World)(aa:Nat)(args:Array Value)(ds gs:List (DataW H))(before:List MemPlace)
  (hval:∀(j:Nat) t v,Tryz.f3.params[j]? =some t→args[j]? =some v→Value.okWide Tryz.prog W .any aa t v)
  (hW:DataW.Whole enc Tryz.prog Tryz.f3.params.toList Rows.topCrashSpec.vars false W args.toList ds gs before)
  (hsz:(DataW.weightsEach Tryz.prog (Tryz.f3.params.toList++Rows.topCrashSpec.plain.varTypes Tryz.prog) (ds++gs)).all (·≤reachBytes)=true)(hm:ML W):
  Calls Tryz.prog 3 args W fun e W'=>∃v,e=.returned v∧Rows.topCrashSpec.post enc Tryz.prog Tryz.f3 false true false false W args v W':=by
 have hW':=hW
 obtain⟨p,q,hA0,hV,rfl,hfz,hnd⟩:=hW
 have hA:DataW.TrodAll enc Tryz.prog W 0 (fun _=>true) true Tryz.f3.params.toList args.toList ds p:=hA0
 rw[Tryz.params3] at hA hval hsz
 obtain⟨v0,vs0,d0,ds0,p0,q0,hargs,rfl,rfl,h0,r0⟩:=trodAll_cons hA
 obtain⟨v1,vs1,d1,ds1,p1,q1,rfl,rfl,rfl,h1,r1⟩:=trodAll_cons r0
 obtain⟨v2,vs2,d2,ds2,p2,q2,rfl,rfl,rfl,h2,r2⟩:=trodAll_cons r1
 obtain⟨v3,vs3,d3,ds3,p3,q3,rfl,rfl,rfl,h3,r3⟩:=trodAll_cons r2
 obtain⟨v4,vs4,d4,ds4,p4,q4,rfl,rfl,rfl,h4,r4⟩:=trodAll_cons r3
 obtain⟨rfl,rfl,rfl⟩:=trodAll_nil r4
 obtain rfl:args=#[v0,v1,v2,v3,v4]:=by cases args;simp_all
 obtain⟨rfl,rfl⟩:=trodVars_none hV
 have k0:=h0
 have lt0:=jq h0
 obtain⟨a0,rfl,rfl,rfl,u0⟩:=open_int Tryz.underlying3 (hval 0 3 v0 rfl rfl) h0
 have k1:=h1
 have lt1:=jq h1
 obtain⟨a1,rfl,rfl,rfl,u1⟩:=open_int Tryz.underlying3 (hval 1 3 v1 rfl rfl) h1
 have k2:=h2
 have lt2:=jq h2
 obtain⟨a2,n2,c2,rfl⟩:=okWide_slice Tryz.underlying22 (hval 2 22 v2 rfl rfl)
 obtain⟨l2,w2⟩:=rF hsz (j:=2) rfl rfl h2
 have k3:=h3
 have lt3:=jq h3
 obtain⟨a3,n3,c3,rfl⟩:=okWide_slice Tryz.underlying22 (hval 3 22 v3 rfl rfl)
 obtain⟨l3,w3⟩:=rF hsz (j:=3) rfl rfl h3
 have k4:=h4
 have lt4:=jq h4
 obtain⟨a4,n4,c4,rfl⟩:=okWide_slice Tryz.underlying23 (hval 4 23 v4 rfl rfl)
 obtain⟨l4,w4⟩:=yJ Tryz.underlying23 Tryz.underlying5 (by kernel_rfl) (by kernel_rfl) hsz (j:=4) rfl rfl h4
 clear hA0
 refine(Dr a0 a1 a2 n2 c2 l2 a3 n3 c3 l3 a4 n4 c4 l4 W w2 w3 w4 (fun V hV=>EN V (hm.below hV hm.lt))).mono fun e W' ⟨he,bel⟩=>?_
 subst he
 exact⟨_,rfl,_,_,_,[],_,[],hW',trodAll_mk1 (shut_bool Tryz.underlying4 _),(trodAll_cons_mk (Below.trod laidOut (by kernel_rfl) (of_decide_eq_true (by kernel_rfl)) k0 bel lt0) (trodAll_cons_mk (Below.trod laidOut (by kernel_rfl) (of_decide_eq_true (by kernel_rfl)) k1 bel lt1) (trodAll_cons_mk (Below.trod laidOut (by kernel_rfl) (of_decide_eq_true (by kernel_rfl)) k2 bel lt2) (trodAll_cons_mk (Below.trod laidOut (by kernel_rfl) (of_decide_eq_true (by kernel_rfl)) k3 bel lt3) (trodAll_cons_mk (Below.trod laidOut (by kernel_rfl) (of_decide_eq_true (by kernel_rfl)) k4 bel lt4) trodAll_mk0))))),rfl,bel.frame _,fun h=>by cases h⟩
noncomputable def laidWorld (os:Os):World:=World.laidAll Tryz.prog os Rows.topCrashRow.laid
set_option maxRecDepth 100000 in
theorem laid_met (os:Os):laidMetH Tryz.prog Rows.topCrashRow.laid ((laidWorld os).forCall (fun _ _=>0) ⟨#[],#[.int .i64 0,.int .i64 0,.slice none 0 0,.slice none 0 0,.slice none 0 0],[]⟩).memory:=by
 rw[MakeChecks.laidMetH_plain _ _ _ (by kernel_rfl)]
 exact laidMet_laidAll _ (by kernel_rfl) (by kernel_rfl)
set_option maxRecDepth 100000 in
theorem reads (os:Os){H:Type}(enc:TypeId×Value→H):∃places,DataW.whole enc Tryz.prog ((laidWorld os).forCall (fun _ _=>0) ⟨#[],#[.int .i64 0,.int .i64 0,.slice none 0 0,.slice none 0 0,.slice none 0 0],[]⟩).memory Tryz.f3.params.toList Rows.topCrashSpec.vars false (#[.int .i64 0,.int .i64 0,.slice none 0 0,.slice none 0 0,.slice none 0 0]:Array Value).toList 8=some ([.lit (.int .i64 0),.lit (.int .i64 0),.nil,.nil,.nil],[],places):=
 ⟨[],by kernel_rfl⟩
set_option maxRecDepth 100000 in
theorem shaped (os:Os):((laidWorld os).forCall (fun _ _=>0) ⟨#[],#[.int .i64 0,.int .i64 0,.slice none 0 0,.slice none 0 0,.slice none 0 0],[]⟩).Shaped Tryz.prog:=World.shaped_of_ZipB (by kernel_rfl) (by kernel_rfl)
set_option maxRecDepth 100000 in
theorem okArgs (os:Os):Input.okWideB Tryz.checked.prog ((laidWorld os).forCall (fun _ _=>0) ⟨#[],#[.int .i64 0,.int .i64 0,.slice none 0 0,.slice none 0 0,.slice none 0 0],[]⟩) 3 ⟨#[],#[.int .i64 0,.int .i64 0,.slice none 0 0,.slice none 0 0,.slice none 0 0],[]⟩=true:=by kernel_rfl
set_option maxRecDepth 100000 in
theorem sized (os:Os){H:Type}(enc:TypeId×Value→H):(OpenSpec.ofChange Rows.topCrashSpec).bare.sizedB enc Tryz.prog Tryz.f3 false ((laidWorld os).forCall (fun _ _=>0) ⟨#[],#[.int .i64 0,.int .i64 0,.slice none 0 0,.slice none 0 0,.slice none 0 0],[]⟩).memory #[.int .i64 0,.int .i64 0,.slice none 0 0,.slice none 0 0,.slice none 0 0] 8=true:=by kernel_rfl
set_option maxRecDepth 100000 in
theorem lifted (os:Os)(started:os.Started)(H:Type)(enc:TypeId×Value→H)(F:Stop.Interp):
  ReturnsInHanded {} Tryz.checked os 3 .any ((OpenSpec.ofChange Rows.topCrashSpec).preRow enc Tryz.prog Tryz.f3 Rows.topCrashRow.domain false Rows.topCrashRow.laid) (((OpenSpec.ofChange Rows.topCrashSpec).at F).post enc Tryz.prog Tryz.f3 false true false false):=by
 obtain⟨places,hx⟩:=reads os enc
 refine returnsInHanded_of_row (C:=Tryz.checked) (s:=OpenSpec.ofChange Rows.topCrashSpec) own started (by kernel_rfl) Tryz.func3
  ⟨laidWorld os,fun _ _=>0,⟨#[],#[.int .i64 0,.int .i64 0,.slice none 0 0,.slice none 0 0,.slice none 0 0],[]⟩,World.laidAll_os _ _ _,shaped os,(Input.okWide_of_okWideB (base:=0) (okArgs os)).1,(Input.okWide_of_okWideB (okArgs os)).2,
   OpenSpec.preRow_of_cond 8 hx (by kernel_rfl) (fun k hk=>by cases hk) (sized os enc) (laid_met os),by
    simp only[Assume.holds]
    exact⟨by simp,by simp,fun _=>Modest.zero,by simp,by simp⟩⟩ ?_
 intro W aa args ds gs before hval hW _ _ hsz _ hsh _
 exact contract H enc W aa args ds gs before hval hW hsz (maxLen hsh)
theorem and_t {a b:Bool}(ha:a=true)(hb:b=true):(a&&b)=true:=by rw[ha,hb];rfl
set_option maxRecDepth 100000
theorem c0:(Rows.topCrashRow.wf (OpenSpec.ofChange (OpenSpec.ofChange Rows.topCrashSpec).bare))=true:=by kernel_rfl
theorem c1:(laidOutB Tryz.pinned.checked.prog)=true:=by kernel_rfl
theorem c2:(mapsRowed Tryz.pinned.checked.prog)=true:=by kernel_rfl
theorem c3:(Tryz.f3.params.all (Tryz.pinned.checked.prog.readableRec ·))=true:=by kernel_rfl
theorem c4:(namedTie Tryz.pinned.checked.prog Rows.topCrashRow.named (OpenSpec.ofChange Rows.topCrashSpec).bare.vars)=true:=by kernel_rfl
theorem c5:((Rows.topCrashRow.stops==[]))=true:=by kernel_rfl
theorem c6:((Tryz.pinned.checked.prog.stops==[]))=true:=by kernel_rfl
theorem c7:((Rows.topCrashRow.knobs==[]))=true:=by kernel_rfl
theorem c8:((Tryz.pinned.checked.prog.stopKnobs==[]))=true:=by kernel_rfl
theorem c9:((Rows.topCrashRow.inPlace==Tryz.pinned.checked.prog.inPlace 3))=true:=by kernel_rfl
theorem c10:((Rows.topCrashRow.unfollowed==Tryz.pinned.checked.prog.unfollowed 3))=true:=by kernel_rfl
theorem c11:((Rows.topCrashRow.recurses==Tryz.pinned.checked.prog.recurses 3))=true:=by kernel_rfl
theorem c12:((Rows.topCrashRow.named==Tryz.pinned.checked.prog.varsNamed 3))=true:=by kernel_rfl
theorem c13:((Rows.topCrashRow.maps==(Tryz.f3.params.toList++(OpenSpec.ofChange Rows.topCrashSpec).bare.plain.varTypes Tryz.pinned.checked.prog).any (Tryz.pinned.checked.prog.mapsRec ·)))=true:=by kernel_rfl
theorem c14:((Rows.topCrashRow.ifaces==(Tryz.f3.params.toList++(OpenSpec.ofChange Rows.topCrashSpec).bare.plain.varTypes Tryz.pinned.checked.prog).any (Tryz.pinned.checked.prog.ifacesRec ·)))=true:=by kernel_rfl
theorem c15:((Rows.topCrashRow.mapsOut==Tryz.pinned.checked.prog.mapsAmong Tryz.f3.resultTypes.toList))=true:=by kernel_rfl
theorem c16:((Rows.topCrashRow.loops==(Tryz.f3.params.toList++(OpenSpec.ofChange Rows.topCrashSpec).bare.plain.varTypes Tryz.pinned.checked.prog).any (Tryz.pinned.checked.prog.loopsFrom ·)))=true:=by kernel_rfl
theorem c17:((Rows.topCrashRow.wideKeys==(Tryz.f3.params.toList++(OpenSpec.ofChange Rows.topCrashSpec).bare.plain.varTypes Tryz.pinned.checked.prog++Tryz.f3.resultTypes.toList).any (Tryz.pinned.checked.prog.wideKeysFrom ·)))=true:=by kernel_rfl
theorem c18:((OpenSpec.ofChange Rows.topCrashSpec).bare.vars.all (Tryz.pinned.checked.prog.varReadable ·))=true:=by kernel_rfl
theorem c19:(Tryz.f3.resultTypes.all (fun t=>Tryz.pinned.checked.prog.readableRec t&&decide (t < Tryz.pinned.checked.prog.types.size)))=true:=by kernel_rfl
theorem c20:((Rows.topCrashRow.ifacesOut==Tryz.f3.resultTypes.toList.any (Tryz.pinned.checked.prog.ifacesRec ·)))=true:=by kernel_rfl
theorem c21:((Rows.topCrashRow.loopsOut==Tryz.f3.resultTypes.toList.any (Tryz.pinned.checked.prog.loopsFrom ·)))=true:=by kernel_rfl
theorem c22:((Rows.topCrashRow.plainKeys==Tryz.pinned.checked.prog.plainKeys))=true:=by kernel_rfl
theorem c23:(Rows.topCrashRow.shortTexts.isNone)=true:=by kernel_rfl
theorem c24:(Tryz.pinned.checked.prog.stopsHeard)=true:=by kernel_rfl
theorem c25:(Tryz.pinned.checked.prog.mayEnter)=true:=by kernel_rfl
theorem c26:((Rows.topCrashRow.lifted==Tryz.pinned.checked.prog.liftsFinal))=true:=by kernel_rfl
theorem c27:((Tryz.pinned.checked.prog.make==some Rows.topCrashRow.make))=true:=by kernel_rfl
theorem c28:((Rows.topCrashRow.kinds==(if Rows.topCrashRow.domain.isEmpty then [] else Tryz.f3.params.toList.map fun t=>match Tryz.pinned.checked.prog.underlying t with|some (.int k)=>some k|_=>none)))=true:=by kernel_rfl
theorem c29:((Rows.topCrashRow.pinned==Rows.topCrashRow.pinnedBy))=true:=by kernel_rfl
theorem c30:((Rows.topCrashRow.veiled==(Tryz.f3.params.toList++(OpenSpec.ofChange Rows.topCrashSpec).bare.plain.varTypes Tryz.pinned.checked.prog++Tryz.f3.resultTypes.toList).any (Tryz.pinned.checked.prog.veiledRec ·)))=true:=by kernel_rfl
theorem c31:(Rows.topCrashRow.veiledFits Tryz.pinned.checked.prog Tryz.f3.params.toList (Tryz.f3.params.toList++(OpenSpec.ofChange Rows.topCrashSpec).bare.plain.varTypes Tryz.pinned.checked.prog++Tryz.f3.resultTypes.toList))=true:=by kernel_rfl
theorem facts:joinedFacts Tryz.pinned.checked.prog 3 Tryz.f3 (OpenSpec.ofChange Rows.topCrashSpec).bare Rows.topCrashRow=true:=by
 unfold joinedFacts
 exact and_t (and_t (and_t (and_t (and_t (and_t (and_t (and_t (and_t (and_t (and_t (and_t (and_t (and_t (and_t (and_t (and_t (and_t (and_t (and_t (and_t (and_t (and_t (and_t (and_t (and_t (and_t (and_t (and_t (and_t (and_t c0 c1) c2) c3) c4) c5) c6) c7) c8) c9) c10) c11) c12) c13) c14) c15) c16) c17) c18) c19) c20) c21) c22) c23) c24) c25) c26) c27) c28) c29) c30) c31
theorem said:Rows.TopCrashSaid:=
 OpenClaim.holds_of_cond 3 Tryz.f3 rfl rfl rfl rfl rfl rfl rfl ⟨rfl,rfl,rfl,rfl,rfl⟩ rfl rfl rfl rfl rfl (by kernel_rfl) Tryz.func3 facts
  (of_decide_eq_true (by kernel_rfl)) (by unfold Func.isWrapper;first|(rw[if_pos (by decide +kernel)];kernel_rfl)|(rw[if_neg (by decide +kernel)];exact⟨rfl,rfl⟩))
  (fun os started H enc _ F=>by rw[OpenClaim.pre_eq_preRow];exact lifted os started H enc F)
theorem plain (i:FuncId)(fn:Func)(hf:Tryz.pinned.checked.prog.funcNamed "goit/goittop.TopCrash"=some i)(hfn:Tryz.pinned.checked.prog.funcs[i]? =some fn):
  true=Tryz.pinned.checked.prog.looks []∧∀(j:Nat) t,fn.params[j]? =some t→Tryz.pinned.checked.prog.wantsStandIn t=false:=by
 obtain rfl:i=3:=Option.some.inj ((show Tryz.prog.funcNamed "goit/goittop.TopCrash"=some 3 by kernel_rfl).symm.trans hf) |>.symm
 obtain rfl:fn=Tryz.f3:=(Option.some.inj (Tryz.func3.symm.trans hfn)).symm
 refine⟨by kernel_rfl,fun j t ht=>?_⟩
 rw[Tryz.params3] at ht
 have hm:t∈[3,3,22,22,23]:=by simpa using Array.mem_of_getElem? ht
 have hall:([3,3,22,22,23].all fun u=>!Tryz.prog.wantsStandIn u)=true:=by kernel_rfl
 exact(show Tryz.prog.wantsStandIn t=false by simpa using List.all_eq_true.1 hall t hm)
theorem goes_none:(Tryz.prog.funcs.toList.all fun fn=>!fn.goes)=true:=by kernel_rfl
theorem goes_no:false=Rows.topCrashRow.goesBy Tryz.pinned.checked.prog:=by
 have h:∀i:Nat,((Tryz.pinned.checked.prog.funcs[i]?).any Func.goes)=false:=fun i=>by
  cases e:Tryz.pinned.checked.prog.funcs[i]? with
  |none=>rfl
  |some fn=>
   have:=List.all_eq_true.1 goes_none fn (Array.mem_toList_iff.2 (Array.mem_of_getElem? e))
   simpa using this
 have h2:Tryz.pinned.checked.prog.funcs.any Func.goes=false:=by
  rw[←Array.any_toList,List.any_eq_false]
  intro fn hfn
  have:=List.all_eq_true.1 goes_none fn hfn
  simpa using this
 have hg:∀f:FuncId,Tryz.pinned.checked.prog.goes f=false:=fun f=>by
  unfold Program.goes
  rw[h2,Bool.and_false,Bool.or_false,List.any_eq_false]
  intro g _
  rw[h g]
  simp
 unfold OpenClaim.goesBy Program.goesAt Program.goesFrom
 rw[show Rows.topCrashRow.start=.entering from rfl]
 cases e:Tryz.pinned.checked.prog.funcNamed Rows.topCrashRow.func with
 |none=>rfl
 |some f=>rw[Option.any_some,hg f];rfl
theorem proved:Rows.TopCrashCardSaid:=
 Claim7.holds_tied_plain_at .later [] _ _ _ _ said (fun _ h=>by cases h) (by kernel_rfl) (fun _ h=>by cases h) topCrash_row_tie rfl ⟨rfl,rfl⟩ (by kernel_rfl) rfl plain goes_no
#print axioms proved
end Go.Proofs.YtgjnoccflmjheaaGreatDoor.topCrash
