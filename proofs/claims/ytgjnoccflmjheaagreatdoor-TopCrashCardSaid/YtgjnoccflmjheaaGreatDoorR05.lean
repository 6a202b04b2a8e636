import Derived.Shelf.Strings.OnBuilder
import Derived.Shelf.Strconv.Atoi
import Derived.Shelf.Strconv.Itoa4
import Derived.Shelf.LaysM
import Derived.Shelf.Strings.Cut
import Derived.Shelf.Strings.Split
import Derived.Test.YtgjnoccflmjheaaGreatDoorR04
namespace Go.Proofs.YtgjnoccflmjheaaGreatDoor
set_option linter.unusedVariables false
set_option linter.unusedSimpArgs false
set_option maxHeartbeats 8000000
set_option maxRecDepth 100000
open Value renaming int→X,slice→G,pointer→PT,bool→bL,agg→aG,tuple→tU
open Obj renaming cells→cL
open Ending renaming returned→rT
open Go.Proofs.Tryz
open Go.Proofs.Tryz renaming prog→Pg
open RowKit.Below renaming refl→bR
open IntKind renaming i64→Y,u32→Z
open List renaming getElem?_toArray→ga,getElem?_cons_zero→gz,getElem?_cons_succ→gN
open Lib renaming hid→jH
open Nat renaming le_refl→nR,le_trans→nT,le_succ→nS
open And renaming intro→aI
section
open Go.Shelf
def qQ:Go.Shelf.Ren:=⟨fun|156=>66|165=>148|166=>149|169=>150|240=>255|241=>256|276=>379|277=>380|n=>n,fun|31=>82|9=>9|3=>3|4=>4|0=>0|20=>20|72=>241|76=>244|70=>239|37=>23|75=>243|127=>340|164=>441|5=>5|80=>155|n=>n,fun|n=>n⟩
theorem wN:Go.Proofs.Lays.n156 Pg qQ:={
 mixed:=by kernel_rfl
 f156:=func66.trans (congrArg some (by kernel_rfl))
 f165:=func148.trans (congrArg some (by kernel_rfl))
 f166:=func149.trans (congrArg some (by kernel_rfl))
 f169:=func150.trans (congrArg some (by kernel_rfl))
 f240:=func255.trans (congrArg some (by kernel_rfl))
 f241:=func256.trans (congrArg some (by kernel_rfl))
 f276:=func379.trans (congrArg some (by kernel_rfl))
 f277:=func380.trans (congrArg some (by kernel_rfl))
 t0:=underlying0
 a0:=Tryz.isAgg0
 z0:=Tryz.sizeOf0
 v0:=Tryz.zeroValue0
 t3:=underlying3
 a3:=Tryz.isAgg3
 z3:=Tryz.sizeOf3
 v3:=Tryz.zeroValue3
 t4:=underlying4
 a4:=Tryz.isAgg4
 z4:=Tryz.sizeOf4
 v4:=Tryz.zeroValue4
 t9:=underlying9
 a9:=Tryz.isAgg9
 z9:=Tryz.sizeOf9
 v9:=Tryz.zeroValue9
 t20:=underlying20
 a20:=Tryz.isAgg20
 z20:=Tryz.sizeOf20
 v20:=Tryz.zeroValue20
 t31:=underlying82
 a31:=Tryz.isAgg82
 z31:=Tryz.sizeOf82
 v31:=Tryz.zeroValue82
 t37:=underlying23
 a37:=Tryz.isAgg23
 z37:=Tryz.sizeOf23
 v37:=Tryz.zeroValue23
 t70:=underlying239
 a70:=Tryz.isAgg239
 z70:=Tryz.sizeOf239
 v70:=Tryz.zeroValue239
 t72:=underlying241
 a72:=Tryz.isAgg241
 z72:=Tryz.sizeOf241
 v72:=Tryz.zeroValue241
 t75:=underlying243
 a75:=Tryz.isAgg243
 z75:=Tryz.sizeOf243
 v75:=Tryz.zeroValue243
 t76:=underlying244
 a76:=Tryz.isAgg244
 z76:=Tryz.sizeOf244
 v76:=Tryz.zeroValue244
 t127:=underlying340
 a127:=Tryz.isAgg340
 z127:=Tryz.sizeOf340
 v127:=Tryz.zeroValue340
 t164:=underlying441
 a164:=Tryz.isAgg441
 z164:=Tryz.sizeOf441
 v164:=Tryz.zeroValue441}
theorem wT:Builder.Extra Pg qQ:={
 sizeBuilder:=by kernel_rfl
 liesBuilder:=by kernel_rfl
 t5:=underlying5
 a5:=Tryz.isAgg5
 z5:=Tryz.sizeOf5
 v5:=Tryz.zeroValue5
 infoByte:=by kernel_rfl
 cellsByte:=by kernel_rfl
 sizeByte:=by kernel_rfl
 neB5:=by decide}
open Go.RowKit in
theorem nj (bk o c:Nat)(xs:List ByteArray)(sep:ByteArray)(w:World)(hcells:∀(j:Nat) x,xs[j]? =some x→w.cell? ⟨bk,o + j,none⟩=some (.string x))(hbk:bk < w.heap.size)(hN:xs.length≤140737488355328)(hcap:xs.length≤c)(ax:(Lib.join (xs.map (·.data.toList)) sep.data.toList).length≤140737488355328):
  Calls Pg 66 #[G (some ⟨bk,o,none⟩) xs.length c,.string sep] w fun e w'=>e=rT (.string ⟨(Lib.join (xs.map (·.data.toList)) sep.data.toList).toArray⟩)∧Below w.heap.size w w':=Any.strings_Join wN wT bk o c xs sep w hcells hbk hN hcap ax
def wJ:Go.Shelf.Ren:=⟨fun|172=>165|244=>269|245=>270|247=>389|279=>390|280=>391|281=>392|282=>393|287=>437|316=>438|171=>61|205=>439|321=>448|322=>449|243=>142|246=>151|283=>257|284=>258|285=>259|286=>260|129=>302|317=>381|318=>382|319=>383|320=>384|337=>434|338=>435|n=>n,fun|9=>9|3=>3|75=>243|76=>244|4=>4|5=>5|167=>447|37=>23|0=>0|85=>448|2=>2|168=>450|53=>53|175=>489|46=>224|210=>492|127=>340|145=>507|143=>505|21=>21|171=>341|173=>344|212=>444|51=>32|20=>20|213=>445|232=>502|233=>503|80=>155|n=>n,fun|15=>4|16=>5|17=>1|18=>6|19=>7|n=>n⟩
theorem wK:Go.Proofs.Lays.n172 Pg wJ:={
 mixed:=by kernel_rfl
 f129:=func302.trans (congrArg some (by kernel_rfl))
 f171:=func61.trans (congrArg some (by kernel_rfl))
 f172:=func165.trans (congrArg some (by kernel_rfl))
 f205:=func439.trans (congrArg some (by kernel_rfl))
 f243:=func142.trans (congrArg some (by kernel_rfl))
 f244:=func269.trans (congrArg some (by kernel_rfl))
 f245:=func270.trans (congrArg some (by kernel_rfl))
 f246:=func151.trans (congrArg some (by kernel_rfl))
 f247:=func389.trans (congrArg some (by kernel_rfl))
 f279:=func390.trans (congrArg some (by kernel_rfl))
 f280:=func391.trans (congrArg some (by kernel_rfl))
 f281:=func392.trans (congrArg some (by kernel_rfl))
 f282:=func393.trans (congrArg some (by kernel_rfl))
 f283:=func257.trans (congrArg some (by kernel_rfl))
 f284:=func258.trans (congrArg some (by kernel_rfl))
 f285:=func259.trans (congrArg some (by kernel_rfl))
 f286:=func260.trans (congrArg some (by kernel_rfl))
 f287:=func437.trans (congrArg some (by kernel_rfl))
 f316:=func438.trans (congrArg some (by kernel_rfl))
 f317:=func381.trans (congrArg some (by kernel_rfl))
 f318:=func382.trans (congrArg some (by kernel_rfl))
 f319:=func383.trans (congrArg some (by kernel_rfl))
 f320:=func384.trans (congrArg some (by kernel_rfl))
 f321:=func448.trans (congrArg some (by kernel_rfl))
 f322:=func449.trans (congrArg some (by kernel_rfl))
 f337:=func434.trans (congrArg some (by kernel_rfl))
 f338:=func435.trans (congrArg some (by kernel_rfl))
 t0:=underlying0
 a0:=Tryz.isAgg0
 z0:=Tryz.sizeOf0
 v0:=Tryz.zeroValue0
 t2:=underlying2
 a2:=Tryz.isAgg2
 z2:=Tryz.sizeOf2
 v2:=Tryz.zeroValue2
 t3:=underlying3
 a3:=Tryz.isAgg3
 z3:=Tryz.sizeOf3
 v3:=Tryz.zeroValue3
 t4:=underlying4
 a4:=Tryz.isAgg4
 z4:=Tryz.sizeOf4
 v4:=Tryz.zeroValue4
 t5:=underlying5
 a5:=Tryz.isAgg5
 z5:=Tryz.sizeOf5
 v5:=Tryz.zeroValue5
 t9:=underlying9
 a9:=Tryz.isAgg9
 z9:=Tryz.sizeOf9
 v9:=Tryz.zeroValue9
 t20:=underlying20
 a20:=Tryz.isAgg20
 z20:=Tryz.sizeOf20
 v20:=Tryz.zeroValue20
 t21:=underlying21
 a21:=Tryz.isAgg21
 z21:=Tryz.sizeOf21
 v21:=Tryz.zeroValue21
 t37:=underlying23
 a37:=Tryz.isAgg23
 z37:=Tryz.sizeOf23
 v37:=Tryz.zeroValue23
 t46:=underlying224
 a46:=Tryz.isAgg224
 z46:=Tryz.sizeOf224
 v46:=Tryz.zeroValue224
 t51:=underlying32
 a51:=Tryz.isAgg32
 z51:=Tryz.sizeOf32
 v51:=Tryz.zeroValue32
 t53:=underlying53
 a53:=Tryz.isAgg53
 z53:=Tryz.sizeOf53
 v53:=Tryz.zeroValue53
 t75:=underlying243
 a75:=Tryz.isAgg243
 z75:=Tryz.sizeOf243
 v75:=Tryz.zeroValue243
 t76:=underlying244
 a76:=Tryz.isAgg244
 z76:=Tryz.sizeOf244
 v76:=Tryz.zeroValue244
 t85:=underlying448
 a85:=Tryz.isAgg448
 z85:=Tryz.sizeOf448
 v85:=Tryz.zeroValue448
 t127:=underlying340
 a127:=Tryz.isAgg340
 z127:=Tryz.sizeOf340
 v127:=Tryz.zeroValue340
 t143:=underlying505
 a143:=Tryz.isAgg505
 z143:=Tryz.sizeOf505
 v143:=Tryz.zeroValue505
 t145:=underlying507
 a145:=Tryz.isAgg507
 z145:=Tryz.sizeOf507
 v145:=Tryz.zeroValue507
 t167:=underlying447
 a167:=Tryz.isAgg447
 z167:=Tryz.sizeOf447
 v167:=Tryz.zeroValue447
 t168:=underlying450
 a168:=Tryz.isAgg450
 z168:=Tryz.sizeOf450
 v168:=Tryz.zeroValue450
 t171:=underlying341
 a171:=Tryz.isAgg341
 z171:=Tryz.sizeOf341
 v171:=Tryz.zeroValue341
 t173:=underlying344
 a173:=Tryz.isAgg344
 z173:=Tryz.sizeOf344
 v173:=Tryz.zeroValue344
 t175:=underlying489
 a175:=Tryz.isAgg489
 z175:=Tryz.sizeOf489
 v175:=Tryz.zeroValue489
 t210:=underlying492
 a210:=Tryz.isAgg492
 z210:=Tryz.sizeOf492
 v210:=Tryz.zeroValue492
 t212:=underlying444
 a212:=Tryz.isAgg444
 z212:=Tryz.sizeOf444
 v212:=Tryz.zeroValue444
 t213:=underlying445
 a213:=Tryz.isAgg445
 z213:=Tryz.sizeOf445
 t232:=underlying502
 a232:=Tryz.isAgg502
 z232:=Tryz.sizeOf502
 v232:=Tryz.zeroValue502
 t233:=underlying503
 a233:=Tryz.isAgg503
 z233:=Tryz.sizeOf503
 v233:=Tryz.zeroValue503
 g15:=by kernel_rfl
 g16:=by kernel_rfl
 g17:=by kernel_rfl
 g18:=by kernel_rfl
 g19:=by kernel_rfl}
open Go.RowKit in
theorem wE (s:ByteArray)(n:Int)(hl:s.size≤18)(h:Lib.atoi s.data.toList=some n)(w:World):
  Calls Pg 165 #[.string s] w fun e w'=>e=rT (tU #[X Y n,.nilIface])∧∃t,w'=Lib.bytesWorld w 5 t:=Any.strconv_Atoi wK s n hl h w
def wL:Go.Shelf.Ren:=⟨fun|171=>61|243=>142|246=>151|283=>257|284=>258|285=>259|286=>260|129=>302|317=>381|318=>382|319=>383|320=>384|337=>434|338=>435|n=>n,fun|3=>3|9=>9|2=>2|4=>4|171=>341|0=>0|53=>53|37=>23|5=>5|173=>344|212=>444|51=>32|20=>20|213=>445|46=>224|232=>502|233=>503|n=>n,fun|17=>1|18=>6|19=>7|n=>n⟩
theorem wM:Go.Proofs.Lays.n171 Pg wL:={
 mixed:=by kernel_rfl
 f129:=func302.trans (congrArg some (by kernel_rfl))
 f171:=func61.trans (congrArg some (by kernel_rfl))
 f243:=func142.trans (congrArg some (by kernel_rfl))
 f246:=func151.trans (congrArg some (by kernel_rfl))
 f283:=func257.trans (congrArg some (by kernel_rfl))
 f284:=func258.trans (congrArg some (by kernel_rfl))
 f285:=func259.trans (congrArg some (by kernel_rfl))
 f286:=func260.trans (congrArg some (by kernel_rfl))
 f317:=func381.trans (congrArg some (by kernel_rfl))
 f318:=func382.trans (congrArg some (by kernel_rfl))
 f319:=func383.trans (congrArg some (by kernel_rfl))
 f320:=func384.trans (congrArg some (by kernel_rfl))
 f337:=func434.trans (congrArg some (by kernel_rfl))
 f338:=func435.trans (congrArg some (by kernel_rfl))
 t0:=underlying0
 a0:=Tryz.isAgg0
 z0:=Tryz.sizeOf0
 v0:=Tryz.zeroValue0
 t2:=underlying2
 a2:=Tryz.isAgg2
 z2:=Tryz.sizeOf2
 v2:=Tryz.zeroValue2
 t3:=underlying3
 a3:=Tryz.isAgg3
 z3:=Tryz.sizeOf3
 v3:=Tryz.zeroValue3
 t4:=underlying4
 a4:=Tryz.isAgg4
 z4:=Tryz.sizeOf4
 v4:=Tryz.zeroValue4
 t5:=underlying5
 a5:=Tryz.isAgg5
 z5:=Tryz.sizeOf5
 v5:=Tryz.zeroValue5
 t9:=underlying9
 a9:=Tryz.isAgg9
 z9:=Tryz.sizeOf9
 v9:=Tryz.zeroValue9
 t20:=underlying20
 a20:=Tryz.isAgg20
 z20:=Tryz.sizeOf20
 v20:=Tryz.zeroValue20
 t37:=underlying23
 a37:=Tryz.isAgg23
 z37:=Tryz.sizeOf23
 v37:=Tryz.zeroValue23
 t46:=underlying224
 a46:=Tryz.isAgg224
 z46:=Tryz.sizeOf224
 v46:=Tryz.zeroValue224
 t51:=underlying32
 a51:=Tryz.isAgg32
 z51:=Tryz.sizeOf32
 v51:=Tryz.zeroValue32
 t53:=underlying53
 a53:=Tryz.isAgg53
 z53:=Tryz.sizeOf53
 v53:=Tryz.zeroValue53
 t171:=underlying341
 a171:=Tryz.isAgg341
 z171:=Tryz.sizeOf341
 v171:=Tryz.zeroValue341
 t173:=underlying344
 a173:=Tryz.isAgg344
 z173:=Tryz.sizeOf344
 v173:=Tryz.zeroValue344
 t212:=underlying444
 a212:=Tryz.isAgg444
 z212:=Tryz.sizeOf444
 v212:=Tryz.zeroValue444
 t213:=underlying445
 a213:=Tryz.isAgg445
 z213:=Tryz.sizeOf445
 t232:=underlying502
 a232:=Tryz.isAgg502
 z232:=Tryz.sizeOf502
 v232:=Tryz.zeroValue502
 t233:=underlying503
 a233:=Tryz.isAgg503
 z233:=Tryz.sizeOf503
 v233:=Tryz.zeroValue503
 g17:=by kernel_rfl
 g18:=by kernel_rfl
 g19:=by kernel_rfl}
open Go.RowKit Go.Sort Go.Lib in
theorem wC (i:Nat)(hi:i < 100)(w:World):
  Calls Pg 61 #[X Y i] w fun e w'=>e=rT (.string ⟨(Lib.decDigits i).toArray⟩)∧w'=w:=Any.strconv_Itoa_small wM i hi w
def wH:Go.Shelf.Ren:=⟨fun|173=>69|246=>151|283=>257|284=>258|285=>259|286=>260|129=>302|317=>381|318=>382|319=>383|320=>384|337=>434|338=>435|n=>n,fun|2=>2|3=>3|9=>9|4=>4|171=>341|0=>0|53=>53|37=>23|5=>5|173=>344|212=>444|51=>32|20=>20|213=>445|46=>224|232=>502|233=>503|n=>n,fun|17=>1|18=>6|19=>7|n=>n⟩
theorem wI:Go.Proofs.Lays.n173 Pg wH:={
 mixed:=by kernel_rfl
 f129:=func302.trans (congrArg some (by kernel_rfl))
 f173:=func69.trans (congrArg some (by kernel_rfl))
 f246:=func151.trans (congrArg some (by kernel_rfl))
 f283:=func257.trans (congrArg some (by kernel_rfl))
 f284:=func258.trans (congrArg some (by kernel_rfl))
 f285:=func259.trans (congrArg some (by kernel_rfl))
 f286:=func260.trans (congrArg some (by kernel_rfl))
 f317:=func381.trans (congrArg some (by kernel_rfl))
 f318:=func382.trans (congrArg some (by kernel_rfl))
 f319:=func383.trans (congrArg some (by kernel_rfl))
 f320:=func384.trans (congrArg some (by kernel_rfl))
 f337:=func434.trans (congrArg some (by kernel_rfl))
 f338:=func435.trans (congrArg some (by kernel_rfl))
 t0:=underlying0
 a0:=Tryz.isAgg0
 z0:=Tryz.sizeOf0
 v0:=Tryz.zeroValue0
 t2:=underlying2
 a2:=Tryz.isAgg2
 z2:=Tryz.sizeOf2
 v2:=Tryz.zeroValue2
 t3:=underlying3
 a3:=Tryz.isAgg3
 z3:=Tryz.sizeOf3
 v3:=Tryz.zeroValue3
 t4:=underlying4
 a4:=Tryz.isAgg4
 z4:=Tryz.sizeOf4
 v4:=Tryz.zeroValue4
 t5:=underlying5
 a5:=Tryz.isAgg5
 z5:=Tryz.sizeOf5
 v5:=Tryz.zeroValue5
 t9:=underlying9
 a9:=Tryz.isAgg9
 z9:=Tryz.sizeOf9
 v9:=Tryz.zeroValue9
 t20:=underlying20
 a20:=Tryz.isAgg20
 z20:=Tryz.sizeOf20
 v20:=Tryz.zeroValue20
 t37:=underlying23
 a37:=Tryz.isAgg23
 z37:=Tryz.sizeOf23
 v37:=Tryz.zeroValue23
 t46:=underlying224
 a46:=Tryz.isAgg224
 z46:=Tryz.sizeOf224
 v46:=Tryz.zeroValue224
 t51:=underlying32
 a51:=Tryz.isAgg32
 z51:=Tryz.sizeOf32
 v51:=Tryz.zeroValue32
 t53:=underlying53
 a53:=Tryz.isAgg53
 z53:=Tryz.sizeOf53
 v53:=Tryz.zeroValue53
 t171:=underlying341
 a171:=Tryz.isAgg341
 z171:=Tryz.sizeOf341
 v171:=Tryz.zeroValue341
 t173:=underlying344
 a173:=Tryz.isAgg344
 z173:=Tryz.sizeOf344
 v173:=Tryz.zeroValue344
 t212:=underlying444
 a212:=Tryz.isAgg444
 z212:=Tryz.sizeOf444
 v212:=Tryz.zeroValue444
 t213:=underlying445
 a213:=Tryz.isAgg445
 z213:=Tryz.sizeOf445
 t232:=underlying502
 a232:=Tryz.isAgg502
 z232:=Tryz.sizeOf502
 v232:=Tryz.zeroValue502
 t233:=underlying503
 a233:=Tryz.isAgg503
 z233:=Tryz.sizeOf503
 v233:=Tryz.zeroValue503
 g17:=by kernel_rfl
 g18:=by kernel_rfl
 g19:=by kernel_rfl}
open Go.RowKit Go.Sort Go.Lib in
theorem wD (i:Nat)(hi:i < 100)(w:World):
  Calls Pg 69 #[X Y i,X Y 10] w fun e w'=>e=rT (.string ⟨(Lib.decDigits i).toArray⟩)∧w'=w:=Any.strconv_FormatInt_10_small wI i hi w
def wQ:Go.Shelf.Ren:=⟨fun|145=>267|220=>387|219=>253|217=>375|225=>376|224=>377|267=>378|266=>432|314=>433|n=>n,fun|9=>9|4=>4|59=>351|3=>3|5=>5|46=>224|146=>487|51=>32|n=>n,fun|1=>0|n=>n⟩
theorem wR:Go.Proofs.Lays.n145 Pg wQ:={
 mixed:=by kernel_rfl
 f145:=func267.trans (congrArg some (by kernel_rfl))
 f217:=func375.trans (congrArg some (by kernel_rfl))
 f219:=func253.trans (congrArg some (by kernel_rfl))
 f220:=func387.trans (congrArg some (by kernel_rfl))
 f224:=func377.trans (congrArg some (by kernel_rfl))
 f225:=func376.trans (congrArg some (by kernel_rfl))
 f266:=func432.trans (congrArg some (by kernel_rfl))
 f267:=func378.trans (congrArg some (by kernel_rfl))
 f314:=func433.trans (congrArg some (by kernel_rfl))
 t3:=underlying3
 a3:=Tryz.isAgg3
 z3:=Tryz.sizeOf3
 v3:=Tryz.zeroValue3
 t4:=underlying4
 a4:=Tryz.isAgg4
 z4:=Tryz.sizeOf4
 v4:=Tryz.zeroValue4
 t5:=underlying5
 a5:=Tryz.isAgg5
 z5:=Tryz.sizeOf5
 v5:=Tryz.zeroValue5
 t9:=underlying9
 a9:=Tryz.isAgg9
 z9:=Tryz.sizeOf9
 v9:=Tryz.zeroValue9
 t46:=underlying224
 a46:=Tryz.isAgg224
 z46:=Tryz.sizeOf224
 v46:=Tryz.zeroValue224
 t51:=underlying32
 a51:=Tryz.isAgg32
 z51:=Tryz.sizeOf32
 v51:=Tryz.zeroValue32
 t59:=underlying351
 a59:=Tryz.isAgg351
 z59:=Tryz.sizeOf351
 v59:=Tryz.zeroValue351
 t146:=underlying487
 a146:=Tryz.isAgg487
 z146:=Tryz.sizeOf487
 v146:=Tryz.zeroValue487
 g1:=by kernel_rfl}
open Go.RowKit Go.Lib in
theorem wB (s sep:ByteArray)(m:Int)(w:World)(hs:s.size < 4294967281)(hm:w.cell? ⟨0,0,none⟩=some (X Y m)):
  Calls Pg 267 #[.string s,.string sep] w fun e w'=>e=rT (tU #[.string ⟨(Lib.cut s.data.toList sep.data.toList).1.toArray⟩,.string ⟨(Lib.cut s.data.toList sep.data.toList).2.1.toArray⟩,bL (Lib.cut s.data.toList sep.data.toList).2.2])∧∃n,w'=w.drewN n:=Any.strings_Cut wR s sep m w hs hm
def wO:Go.Shelf.Ren:=⟨fun|146=>26|221=>62|268=>143|138=>144|143=>145|195=>250|197=>251|218=>252|219=>253|260=>374|217=>375|225=>376|224=>377|267=>378|266=>432|314=>433|n=>n,fun|9=>9|31=>82|3=>3|4=>4|0=>0|105=>337|21=>21|5=>5|46=>224|119=>483|139=>486|138=>485|146=>487|51=>32|n=>n,fun|1=>0|3=>2|4=>3|n=>n⟩
theorem wP:Go.Proofs.Lays.n146 Pg wO:={
 mixed:=by kernel_rfl
 f138:=func144.trans (congrArg some (by kernel_rfl))
 f143:=func145.trans (congrArg some (by kernel_rfl))
 f146:=func26.trans (congrArg some (by kernel_rfl))
 f195:=func250.trans (congrArg some (by kernel_rfl))
 f197:=func251.trans (congrArg some (by kernel_rfl))
 f217:=func375.trans (congrArg some (by kernel_rfl))
 f218:=func252.trans (congrArg some (by kernel_rfl))
 f219:=func253.trans (congrArg some (by kernel_rfl))
 f221:=func62.trans (congrArg some (by kernel_rfl))
 f224:=func377.trans (congrArg some (by kernel_rfl))
 f225:=func376.trans (congrArg some (by kernel_rfl))
 f260:=func374.trans (congrArg some (by kernel_rfl))
 f266:=func432.trans (congrArg some (by kernel_rfl))
 f267:=func378.trans (congrArg some (by kernel_rfl))
 f268:=func143.trans (congrArg some (by kernel_rfl))
 f314:=func433.trans (congrArg some (by kernel_rfl))
 t0:=underlying0
 a0:=Tryz.isAgg0
 z0:=Tryz.sizeOf0
 v0:=Tryz.zeroValue0
 t3:=underlying3
 a3:=Tryz.isAgg3
 z3:=Tryz.sizeOf3
 v3:=Tryz.zeroValue3
 t4:=underlying4
 a4:=Tryz.isAgg4
 z4:=Tryz.sizeOf4
 v4:=Tryz.zeroValue4
 t5:=underlying5
 a5:=Tryz.isAgg5
 z5:=Tryz.sizeOf5
 v5:=Tryz.zeroValue5
 t9:=underlying9
 a9:=Tryz.isAgg9
 z9:=Tryz.sizeOf9
 v9:=Tryz.zeroValue9
 t21:=underlying21
 a21:=Tryz.isAgg21
 z21:=Tryz.sizeOf21
 v21:=Tryz.zeroValue21
 t31:=underlying82
 a31:=Tryz.isAgg82
 z31:=Tryz.sizeOf82
 v31:=Tryz.zeroValue82
 t46:=underlying224
 a46:=Tryz.isAgg224
 z46:=Tryz.sizeOf224
 v46:=Tryz.zeroValue224
 t51:=underlying32
 a51:=Tryz.isAgg32
 z51:=Tryz.sizeOf32
 v51:=Tryz.zeroValue32
 t105:=underlying337
 a105:=Tryz.isAgg337
 z105:=Tryz.sizeOf337
 v105:=Tryz.zeroValue337
 t119:=underlying483
 a119:=Tryz.isAgg483
 z119:=Tryz.sizeOf483
 t138:=underlying485
 a138:=Tryz.isAgg485
 z138:=Tryz.sizeOf485
 v138:=Tryz.zeroValue485
 t139:=underlying486
 a139:=Tryz.isAgg486
 z139:=Tryz.sizeOf486
 v139:=Tryz.zeroValue486
 t146:=underlying487
 a146:=Tryz.isAgg487
 z146:=Tryz.sizeOf487
 v146:=Tryz.zeroValue487
 g1:=by kernel_rfl
 g3:=by kernel_rfl
 g4:=by kernel_rfl}
open Go.RowKit Go.Lib in
theorem wA (s sep:ByteArray)(m:Int)(w:World)(hs:s.size < 4294967281)(hm:w.cell? ⟨0,0,none⟩=some (X Y m))(h1:1≤sep.size):
  Calls Pg 26 #[.string s,.string sep] w fun e w'=>
   e=rT (G (some ⟨w.heap.size,0,none⟩) (Lib.countB s sep + 1) (Lib.countB s sep + 1))∧w'=w.alloc (cL ((Lib.splitB sep 0 (Lib.countB s sep) s).map Value.string).toArray 9):=Any.strings_Split wP (by kernel_rfl) s sep m w hs hm h1
end
section
open Go.RowKit
def jM (i:Nat):List UInt8:=if i < 10 then [UInt8.ofNat (48 + i)] else [UInt8.ofNat (48 + i / 10),UInt8.ofNat (48 + i % 10)]
def cm (i:Nat):ByteArray:=⟨(jM i).toArray⟩
theorem tx {i:Nat}(hi:i < 100):Lib.decDigits i=jM i:=by
 unfold Lib.decDigits jM
 by_cases h:i < 10
 ·simp[h]
 ·rw[dif_neg h,if_neg h]
  unfold Lib.decDigits
  rw[dif_pos (by omega)]
  rfl
theorem EW (i:Nat)(hi:i < 100):Lib.atoi (jM i)=some (i:Int):=by
 have:∀j:Fin 100,Lib.atoi (jM j.val)=some (j.val:Int):=by decide +kernel
 exact this ⟨i,hi⟩
theorem tz (i:Nat):(cm i).size≤2:=by
 unfold cm jM
 show (List.toArray _).size≤2
 split<;>simp
theorem D7 (w:World)(e:TypeId)(s:ByteArray):Below w.heap.size w (Lib.bytesWorld w e s):=by
 have h1:Below w.heap.size w (w.drew.alloc (cL (Lib.bytesCells w e s) e)):=((bR _ w).drew).alloc (nR _) _
 unfold Lib.bytesWorld World.freeze
 split
 ·exact h1
 ·refine⟨h1.os,h1.tape,h1.output,by simp,fun k hk=>?_⟩
  rw[←h1.block k hk]
  simp only[Array.getElem?_modify]
  rw[if_neg (by show ¬w.heap.size=k;omega)]
theorem eT (i:Nat)(hi:i < 100)(w:World):Calls Pg 61 #[X Y i] w fun e w'=>e=rT (.string (cm i))∧w=w':=by
 refine(wC i hi w).mono ?_
 rintro e w' ⟨rfl,rfl⟩
 rw[tx hi]
 exact⟨rfl,rfl⟩
theorem ug (i:Nat)(hi:i < 100)(w:World):Calls Pg 165 #[.string (cm i)] w fun e w'=>e=rT (tU #[X Y i,.nilIface])∧Below w.heap.size w w':=by
 refine(wE (cm i) (i:Int) (by have:=tz i;omega) (EW i hi) w).mono ?_
 rintro e w' ⟨rfl,t,rfl⟩
 exact⟨rfl,D7 w _ t⟩
theorem BV (i:Nat)(hi:i < 100)(w:World):Calls Pg 69 #[X Y i,X Y 10] w fun e w'=>e=rT (.string (cm i))∧w=w':=by
 refine(wD i hi w).mono ?_
 rintro e w' ⟨rfl,rfl⟩
 rw[tx hi]
 exact⟨rfl,rfl⟩
def ML (w:World):Prop:=∃m,w.cell? ⟨0,0,none⟩=some (X Y m)
theorem ML.lt {w:World}(h:ML w):0 < w.heap.size:=by
 obtain⟨m,hm⟩:=h
 exact World.block_lt_of_cell? w _ hm
theorem ML.below {w w':World}{B:Nat}(h:ML w)(hb:Below B w w')(hB:0 < B):ML w':=by
 obtain⟨m,hm⟩:=h
 exact⟨m,(hb.cell hB).trans hm⟩
theorem below_drewN {B:Nat}{a w:World}(h:Below B a w):∀n,Below B a (w.drewN n):=fun n=>⟨h.os,h.tape,h.output,h.size,h.block⟩
theorem kJ (s sep a b:ByteArray)(w:World)(hs:s.size≤4000)(hm:ML w)(h:Lib.cut s.data.toList sep.data.toList=(a.data.toList,b.data.toList,true)):
  Calls Pg 267 #[.string s,.string sep] w fun e w'=>e=rT (tU #[.string a,.string b,bL true])∧Below w.heap.size w w':=by
 obtain⟨m,hm⟩:=hm
 refine(wB s sep m w (by omega) hm).mono ?_
 rintro e w' ⟨rfl,n,rfl⟩
 rw[h]
 exact⟨rfl,below_drewN (bR _ _) n⟩
def cj (l:List ByteArray):List Value:=l.map Value.string
theorem ln (s sep:ByteArray)(l:List ByteArray)(w:World)(hs:s.size≤4000)(h1:1≤sep.size)(hm:ML w)(hc:Lib.countB s sep + 1=l.length)(h:Lib.splitB sep 0 (Lib.countB s sep) s=l):
  Calls Pg 26 #[.string s,.string sep] w fun e w'=>e=rT (G (some ⟨w.heap.size,0,none⟩) l.length l.length)∧w'=w.alloc (cL (cj l).toArray 9):=by
 obtain⟨m,hm⟩:=hm
 refine(wA s sep m w (by omega) hm h1).mono ?_
 rintro e w' ⟨rfl,rfl⟩
 rw[h,hc]
 exact⟨rfl,rfl⟩
theorem jY (i most:Nat)(hi:i < 100)(hm:i≤most)(hmm:most≤65535)(w:World):
  Calls Pg 388 #[.string (cm i),X Y most] w fun e w'=>e=rT (tU #[X Y i,bL true])∧Below w.heap.size w w':=by
 have CA:=jH (ug i hi)
 have CI:=jH (eT i hi)
 have d1:decide (i≤most)=true:=decide_eq_true hm
 have hq:∀W:World,(binOp .eql 243 .nilIface .nilIface).run Pg W=.ok (bL true) W:=fun W=>by kernel_rfl
 generalize cm i=s at *
 go_enter func388,ntmps388
 go_wp2_with fail
 refine(CA.out w).mono ?_
 rintro e w1 ⟨rfl,ae⟩
 have HB:=jH ae
 clear ae CA
 go_wp2_with fail
 refine(CI.out w1).mono ?_
 rintro e w2 ⟨rfl,rfl⟩
 clear CI
 go_wp2_with fail
 go_ret2
 exact⟨rfl,HB.out⟩
theorem sH (i:Nat)(hi:i < 100)(w:World):
  Calls Pg 271 #[.string (cm i)] w fun e w'=>e=rT (tU #[X Y i,bL true])∧Below w.heap.size w w':=by
 have CA:=jH (ug i hi)
 have CI:=jH (eT i hi)
 have hq:∀W:World,(binOp .eql 243 .nilIface .nilIface).run Pg W=.ok (bL true) W:=fun W=>by kernel_rfl
 generalize cm i=s at *
 go_enter func271,ntmps271
 go_wp2_with fail
 refine(CA.out w).mono ?_
 rintro e w1 ⟨rfl,ae⟩
 have HB:=jH ae
 clear ae CA
 go_wp2_with fail
 refine(CI.out w1).mono ?_
 rintro e w2 ⟨rfl,rfl⟩
 clear CI
 go_wp2_with fail
 go_ret2
 exact⟨rfl,HB.out⟩
theorem yF (a b:Nat)(ha:a < 16777216)(hb:b < 256):bits .or .u32 ((a:Int) * 256) (b:Int)=((a * 256 + b:Nat):Int):=by
 have:=u32_or_nat (a * 256) b (by omega) (by omega)
 rw[nat_join 8 (a * 256) b (by omega) (by omega)] at this
 exact this
theorem nE (a b:Nat)(ha:a < 16777216)(hb:b < 256):bits .or .u32 ((a:Int) * 256 % 4294967296) (b:Int)=((a * 256 + b:Nat):Int):=by
 rw[show (a:Int) * 256 % 4294967296=(a:Int) * 256 by omega]
 exact yF a b ha hb
theorem or_zero (b:Nat)(hb:b < 256):bits .or .u32 0 (b:Int)=(b:Int):=by
 have:=u32_or_nat 0 b (by omega) (by omega)
 simpa using this
def jj (n0 n1 n2 n3:Nat):Nat:=((n0 * 256 + n1) * 256 + n2) * 256 + n3
theorem nz (s:ByteArray)(n0 n1 n2 n3:Nat)(h0:n0 < 100)(h1:n1 < 100)(h2:n2 < 100)(h3:n3 < 100)(w:World)(hm:ML w)(hs:s.size≤4000)(hc:Lib.countB s ⟨#[46]⟩ + 1=4)(hsp:Lib.splitB ⟨#[46]⟩ 0 (Lib.countB s ⟨#[46]⟩) s=[cm n0,cm n1,cm n2,cm n3]):
  Calls Pg 272 #[.string s] w fun e w'=>e=rT (tU #[X Z (jj n0 n1 n2 n3:Nat),bL true])∧Below w.heap.size w w':=by
 have CS:=jH (ln s ⟨#[46]⟩ [cm n0,cm n1,cm n2,cm n3] w hs (by decide) hm hc hsp)
 have N0:=jH (jY n0 255 h0 (by omega) (by omega))
 have N1:=jH (jY n1 255 h1 (by omega) (by omega))
 have N2:=jH (jY n2 255 h2 (by omega) (by omega))
 have N3:=jH (jY n3 255 h3 (by omega) (by omega))
 rw[show ((255:Nat):Int)=255 from rfl] at N0 N1 N2 N3
 have hx:=ab.new w 9 (cj [cm n0,cm n1,cm n2,cm n3]).toArray
 have hb:=(bR w.heap.size w).alloc (nR _) (cL (cj [cm n0,cm n1,cm n2,cm n3]).toArray 9)
 have HM:=jH (ML.lt hm)
 clear hm hc hsp hs
 generalize cm n0=s0 at *
 generalize cm n1=s1 at *
 generalize cm n2=s2 at *
 generalize cm n3=s3 at *
 simp only[cj,List.map_cons,List.map_nil,List.length_cons,List.length_nil] at *
 go_enter func272,ntmps272
 go_wp2_with fail
 refine CS.out.mono ?_
 rintro e w1 ⟨rfl,rfl⟩
 obtain⟨q,hq⟩:∃q,q=w.heap.size:=⟨_,rfl⟩
 rw[←hq] at hx hb⊢
 have HQ:=jH hq
 clear hq CS
 generalize w.alloc (.cells [Value.string s0,Value.string s1,Value.string s2,Value.string s3].toArray 9)=w1 at *
 have H0:Hid (ab w1 q 9 [Value.string s0,Value.string s1,Value.string s2,Value.string s3].toArray∧Below q w w1):=⟨hx,hb⟩
 clear hx hb
 have c0:=H0.out.1.c1
 go_wp2_with fail
 refine wp_loop_rounds 5 ?_
 rw[rounds_succ]
 go_wp2_with fail
 refine(N0.out w1).mono ?_
 rintro e w2 ⟨rfl,hb⟩
 have H1:Hid (ab w2 q 9 [Value.string s0,Value.string s1,Value.string s2,Value.string s3].toArray∧Below q w w2):=⟨H0.out.1.below hb H0.out.1.lt,H0.out.2.trans (hb.mono (Nat.le_of_lt H0.out.1.lt))⟩
 clear hb H0 c0 N0
 obtain⟨-,c1⟩:=H1.out.1.c2
 go_wp2_with fail
 rw[rounds_succ]
 go_wp2_with fail
 refine(N1.out w2).mono ?_
 rintro e w3 ⟨rfl,hb⟩
 have H2:Hid (ab w3 q 9 [Value.string s0,Value.string s1,Value.string s2,Value.string s3].toArray∧Below q w w3):=⟨H1.out.1.below hb H1.out.1.lt,H1.out.2.trans (hb.mono (Nat.le_of_lt H1.out.1.lt))⟩
 clear hb H1 c1 N1
 obtain⟨-,-,c2⟩:=H2.out.1.c3
 go_wp2_with fail
 rw[rounds_succ]
 go_wp2_with fail
 refine(N2.out w3).mono ?_
 rintro e w4 ⟨rfl,hb⟩
 have H3:Hid (ab w4 q 9 [Value.string s0,Value.string s1,Value.string s2,Value.string s3].toArray∧Below q w w4):=⟨H2.out.1.below hb H2.out.1.lt,H2.out.2.trans (hb.mono (Nat.le_of_lt H2.out.1.lt))⟩
 clear hb H2 c2 N2
 have c3:=H3.out.1.cell 3
 simp only[ga,gz,gN] at c3
 go_wp2_with fail
 rw[rounds_succ]
 go_wp2_with fail
 refine(N3.out w4).mono ?_
 rintro e w5 ⟨rfl,hb⟩
 have H4:Hid (ab w5 q 9 [Value.string s0,Value.string s1,Value.string s2,Value.string s3].toArray∧Below q w w5):=⟨H3.out.1.below hb H3.out.1.lt,H3.out.2.trans (hb.mono (Nat.le_of_lt H3.out.1.lt))⟩
 clear hb H3 c3 N3
 go_wp2_with fail
 rw[rounds_succ]
 go_wp2_with fail
 go_ret2
 refine⟨?_,HQ.out▸H4.out.2⟩
 rw[or_zero n0 (by omega),nE n0 n1 (by omega) (by omega),nE _ n2 (by omega) (by omega),nE _ n3 (by omega) (by omega)]
 rfl
theorem qo (s a:ByteArray)(ad port:Nat)(hp:port < 100)(w:World)(hm:ML w)(hs:s.size≤4000)(hc:Lib.cut s.data.toList (⟨#[58]⟩:ByteArray).data.toList=(a.data.toList,(cm port).data.toList,true))
  (PA:∀W,ML W→Calls Pg 272 #[.string a] W fun e w'=>e=rT (tU #[X Z ad,bL true])∧Below W.heap.size W w'):
  Calls Pg 268 #[.string s] w fun e w'=>e=rT (tU #[X Z ad,X Y port,bL true])∧Below w.heap.size w w':=by
 have CC:=jH (kJ s ⟨#[58]⟩ a (cm port) w hs hm hc)
 have CN:=jH (jY port 65535 hp (by omega) (by omega))
 rw[show ((65535:Nat):Int)=65535 from rfl] at CN
 have HM:=jH hm
 have HP:=jH PA
 clear hm hc PA
 generalize cm port=ps at *
 go_enter func268,ntmps268
 go_wp2_with fail
 refine CC.out.mono ?_
 rintro e w1 ⟨rfl,ae⟩
 have H1:Hid (Below w.heap.size w w1):=ae
 clear ae CC
 go_wp2_with fail
 refine(HP.out w1 (HM.out.below H1.out HM.out.lt)).mono ?_
 rintro e w2 ⟨rfl,af⟩
 have H2:Hid (Below w.heap.size w w2):=H1.out.trans (af.mono H1.out.size)
 clear af H1 HP
 go_wp2_with fail
 refine(CN.out w2).mono ?_
 rintro e w3 ⟨rfl,al⟩
 have H3:Hid (Below w.heap.size w w3):=H2.out.trans (al.mono H2.out.size)
 clear al H2 CN
 go_wp2_with fail
 go_ret3
 exact⟨rfl,H3.out⟩
theorem vu (s rest frm tt:ByteArray)(src dst sp dp:Nat)(w:World)(hm:ML w)(hs:s.size≤4000)(hr:rest.size≤4000)(bu:cP ⟨src,dst,17,sp,dp⟩=true)
  (hc1:Lib.cut s.data.toList (⟨#[32]⟩:ByteArray).data.toList=((⟨#[117,100,112]⟩:ByteArray).data.toList,rest.data.toList,true))(hc2:Lib.cut rest.data.toList (⟨#[62]⟩:ByteArray).data.toList=(frm.data.toList,tt.data.toList,true))
  (EA:∀W,ML W→Calls Pg 268 #[.string frm] W fun e w'=>e=rT (tU #[X Z src,X Y sp,bL true])∧Below W.heap.size W w')
  (EB:∀W,ML W→Calls Pg 268 #[.string tt] W fun e w'=>e=rT (tU #[X Z dst,X Y dp,bL true])∧Below W.heap.size W w'):
  Calls Pg 164 #[.string s] w fun e w'=>e=rT (tU #[aG #[X Z src,X Z dst,X Y 17,X Y sp,X Y dp],bL true])∧Below w.heap.size w w':=by
 have h0:=ab.new w 39 #[X Z 0,X Z 0,X Y 0,X Y 0,X Y 0]
 have ao:=(bR w.heap.size w).alloc (nR _) (cL #[X Z 0,X Z 0,X Y 0,X Y 0,X Y 0] 39)
 have CM:=jH (fun W=>jV ⟨src,dst,17,sp,dp⟩ W)
 unfold Tu.vals at CM
 dsimp only at CM
 rw[bu] at CM
 have HM:=jH hm
 obtain⟨q,hq⟩:∃q,q=w.heap.size:=⟨_,rfl⟩
 have hq0:0 < q:=by rw[hq];exact hm.lt
 rw[←hq] at h0 ao
 have HX:=jH (aI hc1 (aI hc2 (aI EA (aI EB hr))))
 clear hm hc1 hc2 EA EB hr
 go_enter func164,ntmps164
 go_wp2_with fail
 rw[←hq]
 have HQ:=jH (aI hq hq0)
 clear hq hq0
 generalize w.alloc (cL #[X Z 0,X Z 0,X Y 0,X Y 0,X Y 0] 39)=w1 at *
 have H1:Hid (ab w1 q 39 #[X Z 0,X Z 0,X Y 0,X Y 0,X Y 0]∧Below q w w1∧ML w1):=⟨h0,ao,HM.out.below ao HQ.out.2⟩
 clear h0 ao
 refine(kJ s ⟨#[32]⟩ ⟨#[117,100,112]⟩ rest w1 hs H1.out.2.2 HX.out.1).mono ?_
 rintro e w2 ⟨rfl,hb⟩
 have H2:Hid (ab w2 q 39 #[X Z 0,X Z 0,X Y 0,X Y 0,X Y 0]∧Below q w w2∧ML w2):=⟨H1.out.1.below hb H1.out.1.lt,H1.out.2.1.trans (hb.mono (Nat.le_of_lt H1.out.1.lt)),H1.out.2.2.below hb H1.out.2.2.lt⟩
 clear hb H1
 go_wp2_with fail
 refine(kJ rest ⟨#[62]⟩ frm tt w2 HX.out.2.2.2.2 H2.out.2.2 HX.out.2.1).mono ?_
 rintro e w3 ⟨rfl,hb⟩
 have H3:Hid (ab w3 q 39 #[X Z 0,X Z 0,X Y 0,X Y 0,X Y 0]∧Below q w w3∧ML w3):=⟨H2.out.1.below hb H2.out.1.lt,H2.out.2.1.trans (hb.mono (Nat.le_of_lt H2.out.1.lt)),H2.out.2.2.below hb H2.out.2.2.lt⟩
 clear hb H2
 go_wp2_with fail
 have aq:Below w3.heap.size w3 (w3.alloc (cL #[X Z 0,X Z 0,X Y 17,X Y 0,X Y 0] 39)):=(bR _ _).alloc (nR _) _
 have n4:=ab.new w3 39 #[X Z 0,X Z 0,X Y 17,X Y 0,X Y 0]
 obtain⟨q2,hq2⟩:∃q2,q2=w3.heap.size:=⟨_,rfl⟩
 rw[←hq2] at n4⊢
 have H4:(fun Vv:World=>Hid (ab Vv q 39 #[X Z 0,X Z 0,X Y 0,X Y 0,X Y 0]∧Below q w Vv∧ML Vv∧ab Vv q2 39 #[X Z 0,X Z 0,X Y 17,X Y 0,X Y 0]∧q < q2)) (w3.alloc (cL #[X Z 0,X Z 0,X Y 17,X Y 0,X Y 0] 39)):=⟨H3.out.1.alloc _,H3.out.2.1.trans (aq.mono (Nat.le_of_lt H3.out.1.lt)),H3.out.2.2.below aq H3.out.2.2.lt,n4,by rw[hq2];exact H3.out.1.lt⟩
 clear aq n4 hq2 H3
 generalize w3.alloc (cL #[X Z 0,X Z 0,X Y 17,X Y 0,X Y 0] 39)=w4 at *
 refine(HX.out.2.2.1 w4 H4.out.2.2.1).mono ?_
 rintro e w5 ⟨rfl,hb⟩
 have H5:Hid (ab w5 q 39 #[X Z 0,X Z 0,X Y 0,X Y 0,X Y 0]∧Below q w w5∧ML w5∧ab w5 q2 39 #[X Z 0,X Z 0,X Y 17,X Y 0,X Y 0]∧q < q2):=⟨H4.out.1.below hb H4.out.1.lt,H4.out.2.1.trans (hb.mono (Nat.le_of_lt H4.out.1.lt)),H4.out.2.2.1.below hb H4.out.2.2.1.lt,H4.out.2.2.2.1.below hb H4.out.2.2.2.1.lt,H4.out.2.2.2.2⟩
 clear hb H4
 obtain⟨a0,-,-,a3⟩:=H5.out.2.2.2.1.c4
 obtain⟨z0,-,-,z3⟩:=H5.out.2.2.2.1.f4
 go_wp2_with fail
 have H6:(fun Vv:World=>Hid (ab Vv q 39 #[X Z 0,X Z 0,X Y 0,X Y 0,X Y 0]∧Below q w Vv∧ML Vv∧ab Vv q2 39 #[X Z src,X Z 0,X Y 17,X Y sp,X Y 0]∧q < q2)) ((w5.setCell ⟨q2,0,none⟩ (X Z src)).setCell ⟨q2,3,none⟩ (X Y sp)):=by
  obtain⟨g1,g2,g3,g4,g5⟩:=H5.out
  have hbs:Below q2 w5 ((w5.setCell ⟨q2,0,none⟩ (X Z src)).setCell ⟨q2,3,none⟩ (X Y sp)):=((bR _ _).setCell (p:=⟨q2,0,none⟩) (nR _) _).setCell (p:=⟨q2,3,none⟩) (nR _) _
  exact⟨g1.below hbs g5,g2.trans (hbs.mono (Nat.le_of_lt g5)),g3.below hbs (by omega),(g4.set_ 0 _).set_ 3 _,g5⟩
 clear H5 a0 a3 z0 z3
 generalize (w5.setCell ⟨q2,0,none⟩ (X Z src)).setCell ⟨q2,3,none⟩ (X Y sp)=w6 at *
 refine(HX.out.2.2.2.1 w6 H6.out.2.2.1).mono ?_
 rintro e w7 ⟨rfl,hb⟩
 have H7:Hid (ab w7 q 39 #[X Z 0,X Z 0,X Y 0,X Y 0,X Y 0]∧Below q w w7∧ab w7 q2 39 #[X Z src,X Z 0,X Y 17,X Y sp,X Y 0]∧q < q2):=⟨H6.out.1.below hb H6.out.1.lt,H6.out.2.1.trans (hb.mono (Nat.le_of_lt H6.out.1.lt)),H6.out.2.2.2.1.below hb H6.out.2.2.2.1.lt,H6.out.2.2.2.2⟩
 clear hb H6
 obtain⟨-,a1,-,-,a4⟩:=H7.out.2.2.1.c5
 obtain⟨-,z1,-,-,z4⟩:=H7.out.2.2.1.f5
 have n8:=(H7.out.2.2.1.set_ 1 (X Z dst)).set_ 4 (X Y dp)
 have hbs:Below q2 w7 ((w7.setCell ⟨q2,1,none⟩ (X Z dst)).setCell ⟨q2,4,none⟩ (X Y dp)):=((bR _ _).setCell (p:=⟨q2,1,none⟩) (nR _) _).setCell (p:=⟨q2,4,none⟩) (nR _) _
 have H8:(fun Vv:World=>Hid (ab Vv q 39 #[X Z 0,X Z 0,X Y 0,X Y 0,X Y 0]∧Below q w Vv∧ab Vv q2 39 #[X Z src,X Z dst,X Y 17,X Y sp,X Y dp])) ((w7.setCell ⟨q2,1,none⟩ (X Z dst)).setCell ⟨q2,4,none⟩ (X Y dp)):=⟨H7.out.1.below hbs H7.out.2.2.2,H7.out.2.1.trans (hbs.mono (Nat.le_of_lt H7.out.2.2.2)),n8⟩
 have b0:=n8.cell 0
 have b1:=n8.cell 1
 have b2:=n8.cell 2
 have b3:=n8.cell 3
 have b4:=n8.cell 4
 simp at b0 b1 b2 b3 b4
 clear n8 hbs
 go_wp2_with fail
 refine(CM.out _).mono ?_
 rintro e w9 ⟨rfl,hb⟩
 have H9:Hid (ab w9 q 39 #[X Z 0,X Z 0,X Y 0,X Y 0,X Y 0]∧Below q w w9∧ab w9 q2 39 #[X Z src,X Z dst,X Y 17,X Y sp,X Y dp]):=⟨H8.out.1.below hb H8.out.1.lt,H8.out.2.1.trans (hb.mono (Nat.le_of_lt H8.out.1.lt)),H8.out.2.2.below hb H8.out.2.2.lt⟩
 clear hb H8 H7 CM b0 b1 b2 b3 b4 a1 a4 z1 z4
 obtain⟨b0,b1,b2,b3,b4⟩:=H9.out.2.2.c5
 obtain⟨r0,r1,r2,r3,r4⟩:=H9.out.1.c5
 obtain⟨z0,z1,z2,z3,z4⟩:=H9.out.1.f5
 go_wp2_with fail
 have n9:=(((((H9.out.1.set_ 0 (X Z src)).set_ 1 (X Z dst)).set_ 2 (X Y 17)).set_ 3 (X Y sp)).set_ 4 (X Y dp))
 have d0:=n9.cell 0
 have d1:=n9.cell 1
 have d2:=n9.cell 2
 have d3:=n9.cell 3
 have d4:=n9.cell 4
 refine bodyPost_ret (v:=tU #[aG #[X Z src,X Z dst,X Y 17,X Y sp,X Y dp],bL true]) (by simp[results,results164,go_sem,d0,d1,d2,d3,d4]) rfl ?_
 exact⟨rfl,HQ.out.1▸(((((H9.out.2.1.setCell (p:=⟨q,0,none⟩) (nR _) (X Z src)).setCell (p:=⟨q,1,none⟩) (nR _) (X Z dst)).setCell (p:=⟨q,2,none⟩) (nR _) (X Y 17)).setCell (p:=⟨q,3,none⟩) (nR _) (X Y sp)).setCell (p:=⟨q,4,none⟩) (nR _) (X Y dp))⟩
theorem By (s rest addr:ByteArray)(id wt ad:Nat)(hid:id < 100)(hw1:1≤wt)(hw2:wt≤10)(had:ad < 4294967296)(w:World)(hm:ML w)(hs:s.size≤4000)(hr:rest.size≤4000)
  (hq:(s.toList==[45])=false)
  (hc:Lib.countB s ⟨#[44]⟩ + 1=1)(hsp:Lib.splitB ⟨#[44]⟩ 0 (Lib.countB s ⟨#[44]⟩) s=[s])
  (hc1:Lib.cut s.data.toList (⟨#[64]⟩:ByteArray).data.toList=((cm id).data.toList,rest.data.toList,true))(hc2:Lib.cut rest.data.toList (⟨#[42]⟩:ByteArray).data.toList=(addr.data.toList,(cm wt).data.toList,true))
  (PA:∀W,ML W→Calls Pg 272 #[.string addr] W fun e w'=>e=rT (tU #[X Z ad,bL true])∧Below W.heap.size W w'):
  Calls Pg 166 #[.string s] w fun e w'=>∃A c,e=rT (tU #[G A 1 c,bL true])∧w'.ownsRow w.heap.size 34 3 (G A 1 c) 1 (aC [⟨(id:Int),ad,(wt:Int)⟩])∧Below w.heap.size w w':=by
 have CS:=jH (ln s ⟨#[44]⟩ [s] w hs (by decide) hm hc hsp)
 have C1:=jH (fun W hW=>kJ s ⟨#[64]⟩ (cm id) rest W hs hW hc1)
 have C2:=jH (fun W hW=>kJ rest ⟨#[42]⟩ addr (cm wt) W hr hW hc2)
 have N1:=jH (sH id hid)
 have N2:=jH (sH wt (by omega))
 have HP:=jH PA
 have hx:=ab.new w 9 (cj [s]).toArray
 have hb:=(bR w.heap.size w).alloc (nR _) (cL (cj [s]).toArray 9)
 have hm1:=hm.below hb hm.lt
 clear hm hc hsp hc1 hc2 PA hr hs
 generalize cm id=ids at *
 generalize cm wt=ws at *
 simp only[cj,List.map_cons,List.map_nil,List.length_cons,List.length_nil] at *
 go_enter func166,ntmps166
 go_wp2_with fail
 refine CS.out.mono ?_
 rintro e w1 ⟨rfl,rfl⟩
 have c0:=hx.c1
 have H1:(fun Vv:World=>Hid (Below w.heap.size w Vv∧ML Vv)) (w.alloc (.cells [Value.string s].toArray 9)):=⟨hb,hm1⟩
 clear hx hb hm1 CS
 go_wp2_with fail
 refine wp_loop_rounds 2 ?_
 rw[rounds_succ]
 go_wp2_with fail
 generalize w.alloc (.cells [Value.string s].toArray 9)=w1 at *
 clear c0
 refine(C1.out w1 H1.out.2).mono ?_
 rintro e w2 ⟨rfl,hb⟩
 have H2:Hid (Below w.heap.size w w2∧ML w2):=⟨H1.out.1.trans (hb.mono H1.out.1.size),H1.out.2.below hb H1.out.2.lt⟩
 clear hb H1
 clear C1
 go_wp2_with fail
 refine(C2.out w2 H2.out.2).mono ?_
 rintro e w3 ⟨rfl,hb⟩
 have H3:Hid (Below w.heap.size w w3∧ML w3):=⟨H2.out.1.trans (hb.mono H2.out.1.size),H2.out.2.below hb H2.out.2.lt⟩
 clear hb H2
 clear C2
 go_wp2_with fail
 refine(N1.out w3).mono ?_
 rintro e w4 ⟨rfl,hb⟩
 have H4:Hid (Below w.heap.size w w4∧ML w4):=⟨H3.out.1.trans (hb.mono H3.out.1.size),H3.out.2.below hb H3.out.2.lt⟩
 clear hb H3
 clear N1
 go_wp2_with fail
 refine(N2.out w4).mono ?_
 rintro e w5 ⟨rfl,hb⟩
 have H5:Hid (Below w.heap.size w w5∧ML w5):=⟨H4.out.1.trans (hb.mono H4.out.1.size),H4.out.2.below hb H4.out.2.lt⟩
 clear hb H4
 clear N2
 go_wp2_with fail
 refine(HP.out w5 H5.out.2).mono ?_
 rintro e w6 ⟨rfl,hb⟩
 have H6:Hid (Below w.heap.size w w6∧ML w6):=⟨H5.out.1.trans (hb.mono H5.out.1.size),H5.out.2.below hb H5.out.2.lt⟩
 clear hb H5 HP
 go_wp2_with (at_builtin;refine cu ?_)
 refine cw ?_
 have hb7:Below w6.heap.size w6 (w6.alloc (cL #[X Y id,X Z ad,X Y wt] 34)):=(bR _ _).alloc (nR _) _
 refine jS rfl (.tmp 78) (.tmp 83) _ rfl 3 24 34 _ ou rfl (by omega) (by omega) underlying35 w.heap.size (G none 0 0) 0 [] rfl (World.ownsRow_nil _ _ _ _) (w6.heap.size + 1) (some ⟨w6.heap.size,0,none⟩) 1 1 (aC [⟨(id:Int),ad,(wt:Int)⟩]) rfl (by rw[tQ];exact eo _ _ _ _ 1 3 _ _ (by rfl) rfl rfl _ rfl) (by rw[tQ];intro u hu;simp at hu;rcases hu with rfl|rfl|rfl<;>rfl) 1 rfl (by omega) (by have:=H6.out.1.size;simp;omega) ?_
 intro A4 c4 w7 hown aA _ _
 rw[List.nil_append] at hown
 have H7:Hid (w7.ownsRow w.heap.size 34 3 (G A4 1 c4) 1 (aC [⟨(id:Int),ad,(wt:Int)⟩])∧Below w.heap.size w w7):=⟨hown,(H6.out.1.trans (hb7.mono H6.out.1.size)).trans aA⟩
 clear hown aA hb7 H6
 have bu:dz 1 [⟨(id:Int),ad,(wt:Int)⟩]:=by
  refine⟨by omega,fun j hj=>?_⟩
  have:j=0:=by omega
  subst this
  simp[dy]
  omega
 have hok:dD [⟨(id:Int),ad,(wt:Int)⟩]:=fun b hb=>by
  simp only[List.mem_cons,List.not_mem_nil,or_false] at hb
  subst hb
  simp
  omega
 have CM:=jH (lQ A4 1 c4 w7.heap.size [⟨(id:Int),ad,(wt:Int)⟩] w7 (Reads.of_own H7.out.1) (nR _) hok (by omega) (dN H7.out.1).1)
 have HY:=jH bu
 clear bu hok
 go_wp2_with fail
 rw[rounds_succ]
 go_wp2_with fail
 refine CM.out.mono ?_
 rintro e w8 ⟨⟨b,rfl,hb⟩,hb8⟩
 obtain rfl:=hb.2 HY.out
 have H8:Hid (w8.ownsRow w.heap.size 34 3 (G A4 1 c4) 1 (aC [⟨(id:Int),ad,(wt:Int)⟩])∧Below w.heap.size w w8):=⟨aJ H7.out.1 hb8,H7.out.2.trans (hb8.mono H7.out.2.size)⟩
 clear hb hb8 CM H7
 go_wp2_with fail
 go_ret2
 exact⟨A4,c4,rfl,H8.out⟩
def cn (w:World)(wp:Nat)(ss:List ByteArray):Prop:=∃A c,ab w wp 89 #[G A ss.length c,bL false]∧Reads w wp 1 A ss.length (cj ss)∧ss.length≤c
theorem cn.lt {w:World}{wp:Nat}{ss:List ByteArray}(h:cn w wp ss):wp < w.heap.size:=by obtain⟨A,c,h1,_⟩:=h;exact h1.lt
theorem cn.below {w w':World}{wp:Nat}{ss:List ByteArray}(h:cn w wp ss)(hb:Below w.heap.size w w'):cn w' wp ss:=by
 obtain⟨A,c,h1,h2,h3⟩:=h
 exact⟨A,c,h1.below hb h1.lt,h2.below (hb.mono (Nat.le_of_lt h1.lt)),h3⟩
theorem cn.far {w:World}{wp q:Nat}{ss:List ByteArray}(h:cn w wp ss)(hq:wp < q)(i:Nat)(v:Value):cn (w.setCell ⟨q,i,none⟩ v) wp ss:=by
 obtain⟨A,c,h1,h2,h3⟩:=h
 exact⟨A,c,h1.far (p:=⟨q,i,none⟩) (Nat.ne_of_lt hq) v,h2.setCell (p:=⟨q,i,none⟩) (Nat.le_of_lt hq) v,h3⟩
theorem cn.bad {w:World}{wp:Nat}{ss:List ByteArray}(h:cn w wp ss):cn (w.setCell ⟨wp,1,none⟩ (bL false)) wp ss:=by
 obtain⟨A,c,h1,h2,h3⟩:=h
 exact⟨A,c,h1.set_ 1 (bL false),h2.setCell (p:=⟨wp,1,none⟩) (nR _) _,h3⟩
theorem kW (wp:Nat)(s:ByteArray)(ss:List ByteArray)(w:World)(hn:ss.length≤10000)(h:cn w wp (s::ss)):
  Calls Pg 155 #[PT (some ⟨wp,0,none⟩)] w fun e w'=>e=rT (.string s)∧cn w' wp ss∧Below wp w w'∧w.grownBy w' (some wp):=by
 obtain⟨A,c,aZ,hr,hlc⟩:=h
 have hcut:=hr.cut (k:=1) (by simp) hlc
 obtain⟨ad,u,hA,_,hu,hcell⟩:=hr.at_ (k:=0) (by simp)
 subst hA
 simp[cj] at hu
 subst hu
 rw[Addr.add_zero'] at hcell
 have hc0:=aZ.cell 0
 have hf0:=aZ.frozen 0
 simp only[ga,gz,gN,List.length_cons] at hc0
 have H:Hid (∀c',ss.length≤c'→cn (w.setCell ⟨wp,0,none⟩ (G (if c=1 then some ad else (some ad).map (·.add 1)) ss.length c')) wp ss):=by
  intro c' hc'
  refine⟨(if c=1 then some ad else (some ad).map (·.add 1)),c',?_,?_,hc'⟩
  ·exact aZ.set_ 0 _
  ·have h1:Reads w wp 1 (if c=1 then some ad else (some ad).map (·.add 1)) ss.length (cj ss):=by
    have h2:=hcut
    simp only[List.length_cons,Nat.add_sub_cancel,Nat.mul_one,cj,List.map_cons,List.drop_succ_cons,List.drop_zero] at h2
    exact h2
   exact h1.setCell (p:=⟨wp,0,none⟩) (nR _) _
 have hb:∀v,Below wp w (w.setCell ⟨wp,0,none⟩ v):=fun v=>(bR _ _).setCell (p:=⟨wp,0,none⟩) (nR _) v
 have HB:=jH hb
 have hl1:1≤c:=by simp at hlc;omega
 have hlc':ss.length + 1≤c:=by simpa using hlc
 clear hcut aZ hr hb hlc
 generalize ss.length=m at *
 by_cases hc1:c=1
 ·subst hc1
  have hm0:m=0:=by omega
  subst hm0
  have H':=jH (H.out 0 (nR _))
  rw[if_pos rfl] at H'
  clear H
  go_enter func155,ntmps155
  go_wp2_with fail
  go_ret
  exact⟨rfl,H'.out,HB.out _,oI w wp 0 _⟩
 ·have H':=jH (H.out (c - 1) (by omega))
  rw[if_neg hc1] at H'
  clear H
  go_enter func155,ntmps155
  go_wp2_with fail
  go_ret
  exact⟨rfl,H'.out,HB.out _,oI w wp 0 _⟩
theorem pS (wp:Nat)(w:World)(h:cn w wp []):
  Calls Pg 153 #[PT (some ⟨wp,0,none⟩)] w fun e w'=>e=rT (bL true)∧w=w':=by
 obtain⟨A,c,aZ,hr,hlc⟩:=h
 obtain⟨g0,g1⟩:=aZ.c2
 clear aZ hr
 go_enter func153,ntmps153
 go_wp2_with fail
 go_ret
 exact⟨rfl,rfl⟩
theorem uJ (wp:Nat)(w:World)(h:cn w wp [⟨#[45]⟩]):
  Calls Pg 75 #[PT (some ⟨wp,0,none⟩)] w fun e w'=>e=rT (G none 0 0)∧cn w' wp []∧Below wp w w':=by
 have CN:=jH (kW wp ⟨#[45]⟩ [] w (by simp) h)
 clear h
 go_enter func75,ntmps75
 go_wp2_with fail
 refine CN.out.mono ?_
 rintro e w1 ⟨rfl,h1,hb,-⟩
 have H1:=jH (aI h1 hb)
 clear h1 hb CN
 go_wp2_with fail
 go_ret
 exact⟨rfl,H1.out⟩
theorem uK (wp:Nat)(s:ByteArray)(b:Be)(w:World)(h:cn w wp [s])
  (GP:∀W,Below wp w W→Calls Pg 166 #[.string s] W fun e w'=>∃A c,e=rT (tU #[G A 1 c,bL true])∧w'.ownsRow W.heap.size 34 3 (G A 1 c) 1 (aC [b])∧Below W.heap.size W w'):
  Calls Pg 80 #[PT (some ⟨wp,0,none⟩)] w fun e w'=>∃A c,e=rT (G A 1 c)∧w'.ownsRow w.heap.size 34 3 (G A 1 c) 1 (aC [b])∧cn w' wp []∧Below wp w w':=by
 have au:=h.lt
 have CN:=jH (kW wp s [] w (by simp) h)
 have HP:=jH GP
 have HL:=jH au
 clear h GP au
 go_enter func80,ntmps80
 go_wp2_with fail
 refine CN.out.mono ?_
 rintro e w1 ⟨rfl,h1,hb,-⟩
 have H1:=jH (aI h1 hb)
 clear h1 hb CN
 go_wp2_with fail
 refine(HP.out w1 H1.out.2).mono ?_
 rintro e w2 ⟨A,c,rfl,hown,hb⟩
 have H2:Hid (w2.ownsRow w.heap.size 34 3 (G A 1 c) 1 (aC [b])∧cn w2 wp []∧Below wp w w2):=⟨cO hown H1.out.2.size,H1.out.1.below hb,H1.out.2.trans (hb.mono (Nat.le_of_lt H1.out.1.lt))⟩
 clear hown hb H1 HP
 obtain⟨A2,c2,g1,g2,g3⟩:=H2.out.2.1
 obtain⟨-,x1⟩:=g1.c2
 have z1:=g1.frozen 1
 have H3:(fun Vv:World=>Hid (Vv.ownsRow w.heap.size 34 3 (G A 1 c) 1 (aC [b])∧cn Vv wp []∧Below wp w Vv)) (w2.setCell ⟨wp,1,none⟩ (bL false)):=⟨aB H2.out.1 g1 (by decide) 1 _,H2.out.2.1.bad,H2.out.2.2.setCell (p:=⟨wp,1,none⟩) (nR _) _⟩
 clear g1 g2 g3 H2
 go_wp2_with fail
 go_ret
 exact⟨A,c,rfl,H3.out⟩
theorem ur (wp:Nat)(n r:ByteArray)(src dst:Nat)(proto sp dp:Int)(w:World)(h:cn w wp [n,r])(hsz:n.size + r.size≤4000)
  (TP:∀W,Below wp w W→Calls Pg 164 #[.string (n++⟨#[32]⟩++r)] W fun e w'=>e=rT (tU #[aG #[X Z src,X Z dst,X Y proto,X Y sp,X Y dp],bL true])∧Below W.heap.size W w'):
  Calls Pg 77 #[PT (some ⟨wp,0,none⟩)] w fun e w'=>e=rT (aG #[X Z src,X Z dst,X Y proto,X Y sp,X Y dp])∧cn w' wp []∧Below wp w w':=by
 have h0:=ab.new w 39 #[X Z 0,X Z 0,X Y 0,X Y 0,X Y 0]
 have ao:=(bR w.heap.size w).alloc (nR _) (cL #[X Z 0,X Z 0,X Y 0,X Y 0,X Y 0] 39)
 have hw0:=h.below ao
 have au:=h.lt
 obtain⟨q,hq⟩:∃q,q=w.heap.size:=⟨_,rfl⟩
 rw[←hq] at h0 ao
 have HP:=jH TP
 have hq1:wp < q:=by rw[hq];exact au
 clear h TP au
 go_enter func77,ntmps77
 go_wp2_with fail
 rw[←hq]
 clear hq
 generalize w.alloc (cL #[X Z 0,X Z 0,X Y 0,X Y 0,X Y 0] 39)=w1 at *
 have H1:Hid (cn w1 wp [n,r]∧ab w1 q 39 #[X Z 0,X Z 0,X Y 0,X Y 0,X Y 0]∧Below wp w w1∧wp < q):=⟨hw0,h0,ao.mono (Nat.le_of_lt hq1),hq1⟩
 clear hw0 h0 ao hq1
 refine(kW wp n [r] w1 (by simp) H1.out.1).mono ?_
 rintro e w2 ⟨rfl,h2,hb,hg⟩
 have H2:Hid (cn w2 wp [r]∧ab w2 q 39 #[X Z 0,X Z 0,X Y 0,X Y 0,X Y 0]∧Below wp w w2∧wp < q):=⟨h2,H1.out.2.1.grown hg (fun e=>by injection e with e;have:=H1.out.2.2.2;omega),H1.out.2.2.1.trans hb,H1.out.2.2.2⟩
 clear h2 hb hg H1
 go_wp2_with fail
 refine(kW wp r [] w2 (by simp) H2.out.1).mono ?_
 rintro e w3 ⟨rfl,h3,hb,hg⟩
 have H3:Hid (cn w3 wp []∧ab w3 q 39 #[X Z 0,X Z 0,X Y 0,X Y 0,X Y 0]∧Below wp w w3∧wp < q):=⟨h3,H2.out.2.1.grown hg (fun e=>by injection e with e;have:=H2.out.2.2.2;omega),H2.out.2.2.1.trans hb,H2.out.2.2.2⟩
 clear h3 hb hg H2
 have hz:n.size + 1 + r.size≤4001:=by omega
 go_wp2_with fail
 refine(HP.out w3 H3.out.2.2.1).mono ?_
 rintro e w4 ⟨rfl,hb⟩
 have aq:Below w4.heap.size w4 (w4.alloc (cL #[X Z src,X Z dst,X Y proto,X Y sp,X Y dp] 39)):=(bR _ _).alloc (nR _) _
 have n4:=ab.new w4 39 #[X Z src,X Z dst,X Y proto,X Y sp,X Y dp]
 have H4:(fun Vv:World=>Hid (cn Vv wp []∧ab Vv q 39 #[X Z 0,X Z 0,X Y 0,X Y 0,X Y 0]∧Below wp w Vv∧wp < q∧ab Vv w4.heap.size 39 #[X Z src,X Z dst,X Y proto,X Y sp,X Y dp]∧q < w4.heap.size)) (w4.alloc (cL #[X Z src,X Z dst,X Y proto,X Y sp,X Y dp] 39)):=by
  obtain⟨g1,g2,g3,g4⟩:=H3.out
  have hq:=g2.lt
  have:=hb.size
  exact⟨(g1.below hb).below aq,(g2.below hb g2.lt).alloc _,(g3.trans (hb.mono (Nat.le_of_lt g1.lt))).trans (aq.mono (by have:=g1.lt;omega)),g4,n4,by omega⟩
 clear hb aq n4 H3 HP
 obtain⟨q2,hq2⟩:∃q2,q2=w4.heap.size:=⟨_,rfl⟩
 obtain⟨A5,c5,g1,g2,g3⟩:=H4.out.1
 obtain⟨-,y1⟩:=g1.c2
 have z1:=g1.frozen 1
 have HG:=jH g1
 clear g1 g2 g3
 go_upto_region 4 with fail
 have H6:(fun Vv:World=>Hid (cn Vv wp []∧ab Vv q 39 #[X Z 0,X Z 0,X Y 0,X Y 0,X Y 0]∧Below wp w Vv∧wp < q∧ab Vv w4.heap.size 39 #[X Z src,X Z dst,X Y proto,X Y sp,X Y dp])) ((w4.alloc (cL #[X Z src,X Z dst,X Y proto,X Y sp,X Y dp] 39)).setCell ⟨wp,1,none⟩ (bL false)):=by
  obtain⟨g1,g2,g3,g4,g5,g6⟩:=H4.out
  exact⟨g1.bad,g2.far (p:=⟨wp,1,none⟩) (by show q≠wp;omega) _,g3.setCell (p:=⟨wp,1,none⟩) (nR _) _,g4,g5.far (p:=⟨wp,1,none⟩) (by show w4.heap.size≠wp;omega) _⟩
 rw[←hq2] at H6⊢
 clear hq2 H4 HG y1 z1
 generalize ((w4.alloc (cL #[X Z src,X Z dst,X Y proto,X Y sp,X Y dp] 39)).setCell ⟨wp,1,none⟩ (bL false))=w6 at *
 obtain⟨b0,b1,b2,b3,b4⟩:=H6.out.2.2.2.2.c5
 obtain⟨r0,r1,r2,r3,r4⟩:=H6.out.2.1.c5
 obtain⟨z0,z1,z2,z3,z4⟩:=H6.out.2.1.f5
 go_wp2_with fail
 have n9:=(((((H6.out.2.1.set_ 0 (X Z src)).set_ 1 (X Z dst)).set_ 2 (X Y proto)).set_ 3 (X Y sp)).set_ 4 (X Y dp))
 have d0:=n9.cell 0
 have d1:=n9.cell 1
 have d2:=n9.cell 2
 have d3:=n9.cell 3
 have d4:=n9.cell 4
 refine bodyPost_ret (v:=aG #[X Z src,X Z dst,X Y proto,X Y sp,X Y dp]) (by simp[results,results77,go_sem,d0,d1,d2,d3,d4]) rfl ?_
 exact⟨rfl,(cn.far (cn.far (cn.far (cn.far (cn.far H6.out.1 H6.out.2.2.2.1 0 (X Z src)) H6.out.2.2.2.1 1 (X Z dst)) H6.out.2.2.2.1 2 (X Y proto)) H6.out.2.2.2.1 3 (X Y sp)) H6.out.2.2.2.1 4 (X Y dp)),(((((H6.out.2.2.1.setCell (p:=⟨q,0,none⟩) (Nat.le_of_lt H6.out.2.2.2.1) (X Z src)).setCell (p:=⟨q,1,none⟩) (Nat.le_of_lt H6.out.2.2.2.1) (X Z dst)).setCell (p:=⟨q,2,none⟩) (Nat.le_of_lt H6.out.2.2.2.1) (X Y proto)).setCell (p:=⟨q,3,none⟩) (Nat.le_of_lt H6.out.2.2.2.1) (X Y sp)).setCell (p:=⟨q,4,none⟩) (Nat.le_of_lt H6.out.2.2.2.1) (X Y dp))⟩
end
section
open Go.RowKit Go.Maps
theorem jN {W:World}{cp bp q:Nat}{t t':TypeId}{v0 v1 v2 v3 v4 v5 v6:Value}(h1:ab W cp t #[PT (some ⟨bp,0,none⟩)])(h2:ab W q t' #[v0,v1,v2,v3,v4,v5,v6]):W.cell? ⟨cp,0,none⟩=some (PT (some ⟨bp,0,none⟩))∧W.cell? ⟨q,0,none⟩=some v0∧W.cell? ⟨q,1,none⟩=some v1∧W.cell? ⟨q,2,none⟩=some v2∧W.cell? ⟨q,3,none⟩=some v3∧W.cell? ⟨q,4,none⟩=some v4∧W.cell? ⟨q,5,none⟩=some v5∧W.cell? ⟨q,6,none⟩=some v6:=
 ⟨h1.cell 0,h2.cell 0,h2.cell 1,h2.cell 2,h2.cell 3,h2.cell 4,h2.cell 5,h2.cell 6⟩
theorem oT (aa cp bp wp:Nat)(v0 v1 v2 v3 v4 v5 v6:Value)(P:World→Prop)(K:List TypeId)(M:List Nat)(w:World)(hc:ab w cp 80 #[PT (some ⟨bp,0,none⟩)])(hw:cn w wp [])(an:aa≤w.heap.size)(hK1:28∉K)(hK2:80∉K)(hK3:37∉K)(hP:∀a b,P a→Fr [28] [] aa a b→P b)
  (DO:∀W,Below w.heap.size w W→Calls Pg 7 #[PT (some ⟨bp,0,none⟩),aG #[v0,v1,v2,v3,v4,v5,v6]] W fun e w'=>e=rT fW∧P w'∧Fr K M aa W w'):
  Calls Pg 78 #[PT (some ⟨cp,0,none⟩),PT (some ⟨wp,0,none⟩),aG #[v0,v1,v2,v3,v4,v5,v6]] w fun e w'=>e=rT (.string ⟨#[111,107]⟩)∧P w'∧Fr K M aa w w':=by
 have hx:=ab.new w 37 #[v0,v1,v2,v3,v4,v5,v6]
 have ae:Below w.heap.size w (w.alloc (cL #[v0,v1,v2,v3,v4,v5,v6] 37)):=(bR _ _).alloc (nR _) _
 have c1:=hc.alloc (cL #[v0,v1,v2,v3,v4,v5,v6] 37)
 have hw1:=hw.below ae
 have hsz:(w.alloc (cL #[v0,v1,v2,v3,v4,v5,v6] 37)).heap.size=w.heap.size + 1:=by simp
 have HB:=jH an
 have HP:=jH hP
 unfold fW at DO
 clear hc hw an hP
 go_enter func78,ntmps78
 go_wp2_with fail
 refine(pS wp _ hw1).mono ?_
 rintro e w1 ⟨rfl,rfl⟩
 have d0:=jN c1.drew hx.drew
 have hbB:Below (w.heap.size + 1) (w.alloc (cL #[v0,v1,v2,v3,v4,v5,v6] 37)) ((w.alloc (cL #[v0,v1,v2,v3,v4,v5,v6] 37)).alloc (cL #[X Y 0,X Y 0,X Y 0,G none 0 0] 28)).drew:=((bR _ _).alloc (by rw[hsz];exact nR _) _).drew
 have aA:Below w.heap.size w ((w.alloc (cL #[v0,v1,v2,v3,v4,v5,v6] 37)).alloc (cL #[X Y 0,X Y 0,X Y 0,G none 0 0] 28)).drew:=ae.trans (hbB.mono (nS _))
 have a0:=jN (c1.alloc (cL #[X Y 0,X Y 0,X Y 0,G none 0 0] 28)).drew (hx.alloc (cL #[X Y 0,X Y 0,X Y 0,G none 0 0] 28)).drew
 have nA:ab ((w.alloc (cL #[v0,v1,v2,v3,v4,v5,v6] 37)).alloc (cL #[X Y 0,X Y 0,X Y 0,G none 0 0] 28)).drew (w.heap.size + 1) 28 #[X Y 0,X Y 0,X Y 0,G none 0 0]:=by
  have:=(ab.new (w.alloc (cL #[v0,v1,v2,v3,v4,v5,v6] 37)) 28 #[X Y 0,X Y 0,X Y 0,G none 0 0]).drew
  rwa [hsz] at this
 have CA:=jH (DO (w.alloc (cL #[v0,v1,v2,v3,v4,v5,v6] 37)).drew ae.drew)
 have CB:=jH (DO ((w.alloc (cL #[v0,v1,v2,v3,v4,v5,v6] 37)).alloc (cL #[X Y 0,X Y 0,X Y 0,G none 0 0] 28)).drew aA)
 have HQ:=jH (aI c1 (aI hx (aI ae aA)))
 have HN:=jH nA
 clear c1 hx ae aA hbB hw1 DO nA hsz
 go_wp2_with fail
 go_region_held3 (fun wS=>wS.cell? ⟨cp,0,none⟩=some (PT (some ⟨bp,0,none⟩))∧wS.cell? ⟨w.heap.size,0,none⟩=some v0∧wS.cell? ⟨w.heap.size,1,none⟩=some v1∧wS.cell? ⟨w.heap.size,2,none⟩=some v2∧wS.cell? ⟨w.heap.size,3,none⟩=some v3∧wS.cell? ⟨w.heap.size,4,none⟩=some v4∧wS.cell? ⟨w.heap.size,5,none⟩=some v5∧wS.cell? ⟨w.heap.size,6,none⟩=some v6) (first|with_reducible exact d0|with_reducible exact a0|with_reducible exact e0|with_reducible exact h1 _|with_reducible exact h2 _ _ _ _|fail)
  (first
   |(go_at_call 7;(with_reducible refine CA.out.mono ?_);rintro e w2 ⟨rfl,hPw,hF⟩;have k1:=hF.blk _ _ _ HQ.out.1.drew hK2;have k2:=hF.blk _ _ _ HQ.out.2.1.drew hK3;have e0:=jN k1 k2;have h1:=fun o=>jN (k1.alloc o) (k2.alloc o))
   |(go_at_call 7;(with_reducible refine CB.out.mono ?_);rintro e w2 ⟨rfl,hPw,hF⟩;have k1:=hF.blk _ _ _ (HQ.out.1.alloc _).drew hK2;have k2:=hF.blk _ _ _ (HQ.out.2.1.alloc _).drew hK3;have e0:=jN k1 k2;have n2:=hF.blk _ _ _ HN.out hK1;have s0:=n2.cell 0;have s1:=n2.cell 1;have s2:=n2.cell 2;have s3:=n2.cell 3;have z0:=n2.frozen 0;have z1:=n2.frozen 1;have z2:=n2.frozen 2;have z3:=n2.frozen 3;(simp only[ga,gz,gN] at s0 s1 s2 s3);have m1:=k1.ne_ n2 (by decide);have m2:=k2.ne_ n2 (by decide);have h2:=fun u0 u1 u2 u3=>jN ((((k1.far (p:=⟨w.heap.size + 1,0,none⟩) m1 u0).far (p:=⟨w.heap.size + 1,1,none⟩) m1 u1).far (p:=⟨w.heap.size + 1,2,none⟩) m1 u2).far (p:=⟨w.heap.size + 1,3,none⟩) m1 u3) ((((k2.far (p:=⟨w.heap.size + 1,0,none⟩) m2 u0).far (p:=⟨w.heap.size + 1,1,none⟩) m2 u1).far (p:=⟨w.heap.size + 1,2,none⟩) m2 u2).far (p:=⟨w.heap.size + 1,3,none⟩) m2 u3)))
 ·have HF:(fun Vv:World=>Hid (P Vv∧Fr K M aa w Vv)) (w2.alloc (cL #[X Y 0,X Y 0,X Y 0,G none 0 0] 28)):=by
   have af:Below w2.heap.size w2 (w2.alloc (cL #[X Y 0,X Y 0,X Y 0,G none 0 0] 28)):=(bR _ _).alloc (nR _) _
   have hw2:Fr K M aa w w2:=(Fr.of_below K M HQ.out.2.2.1.drew HB.out).trans hF
   have hbs:aa≤w2.heap.size:=nT HB.out hw2.size
   exact⟨HP.out _ _ hPw (Fr.of_below _ _ af hbs),hw2.trans (Fr.of_below K M af hbs)⟩
  clear k1 k2 e0 h1 CA CB d0 a0 HQ HN hPw hF
  generalize (w2.alloc (cL #[X Y 0,X Y 0,X Y 0,G none 0 0] 28))=wF at *
  go_wp2_with fail
  go_ret
  exact⟨rfl,HF.out⟩
 ·have HF:(fun Vv:World=>Hid (P Vv∧Fr K M aa w Vv)) ((((w2.setCell ⟨w.heap.size + 1,0,none⟩ (X Y 0)).setCell ⟨w.heap.size + 1,1,none⟩ (X Y 0)).setCell ⟨w.heap.size + 1,2,none⟩ (X Y 0)).setCell ⟨w.heap.size + 1,3,none⟩ (G none 0 0)):=by
   have hw2:Fr K M aa w w2:=(Fr.of_below K M HQ.out.2.2.2 HB.out).trans hF
   have hbq:aa≤w.heap.size + 1:=nT HB.out (nS _)
   have hfr:=(((((Fr.refl [28] [] aa w2).set_ n2 (by simp) hbq 0 (X Y 0)).set_ (n2.set_ 0 (X Y 0)) (by simp) hbq 1 (X Y 0)).set_ ((n2.set_ 0 (X Y 0)).set_ 1 (X Y 0)) (by simp) hbq 2 (X Y 0)).set_ (((n2.set_ 0 (X Y 0)).set_ 1 (X Y 0)).set_ 2 (X Y 0)) (by simp) hbq 3 (G none 0 0))
   exact⟨HP.out _ _ hPw hfr,((((hw2.set_new (nS _) HB.out 0 (X Y 0)).set_new (nS _) HB.out 1 (X Y 0)).set_new (nS _) HB.out 2 (X Y 0)).set_new (nS _) HB.out 3 (G none 0 0))⟩
  clear k1 k2 e0 h2 CA CB d0 a0 HQ HN hPw hF n2 s0 s1 s2 s3 z0 z1 z2 z3 m1 m2
  generalize ((((w2.setCell ⟨w.heap.size + 1,0,none⟩ (X Y 0)).setCell ⟨w.heap.size + 1,1,none⟩ (X Y 0)).setCell ⟨w.heap.size + 1,2,none⟩ (X Y 0)).setCell ⟨w.heap.size + 1,3,none⟩ (G none 0 0))=wF at *
  go_wp2_with fail
  go_ret
  exact⟨rfl,HF.out⟩
theorem Dh (aa cp bp wp bid:Nat)(hbid:bid < 100)(Ad:Option Addr)(nd cd:Nat)(P:World→Prop)(K:List TypeId)(M:List Nat)(w:World)(hc:ab w cp 80 #[PT (some ⟨bp,0,none⟩)])(hw:cn w wp [])(an:aa≤w.heap.size)(hP:∀a b,P a→Fr [28] [] aa a b→P b)
  (DO:Calls Pg 7 #[PT (some ⟨bp,0,none⟩),ik (G Ad nd cd)] w fun e w'=>(∃A' n' c',e=rT (tU #[aG #[X Y 2,X Y 0,X Y bid,G A' n' c'],X Y 0]))∧P w'∧Fr K M aa w w'):
  Calls Pg 74 #[PT (some ⟨cp,0,none⟩),PT (some ⟨wp,0,none⟩),G Ad nd cd,bL false] w fun e w'=>e=rT (.string (⟨#[116,111,32]⟩++cm bid))∧P w'∧Fr K M aa w w':=by
 have k0:=hc.c1
 have HB:=jH an
 have HP:=jH hP
 have HD:=jH DO
 have hsz:=tz bid
 have CI:=jH (eT bid hbid)
 generalize cm bid=sb at *
 unfold ik at HD
 clear hc an hP DO
 go_enter func74,ntmps74
 go_wp2_with fail
 refine(pS wp _ hw).mono ?_
 rintro e w1 ⟨rfl,rfl⟩
 clear hw
 go_wp2_with fail
 refine HD.out.mono ?_
 rintro e w2 ⟨⟨A',n',c',rfl⟩,hPw,hF⟩
 have HF:(fun Vv:World=>Hid (P Vv∧Fr K M aa w Vv)) (w2.alloc (cL #[X Y 2,X Y 0,X Y bid,G A' n' c'] 28)):=by
  have af:Below w2.heap.size w2 (w2.alloc (cL #[X Y 2,X Y 0,X Y bid,G A' n' c'] 28)):=(bR _ _).alloc (nR _) _
  have hbs:aa≤w2.heap.size:=nT HB.out hF.size
  exact⟨HP.out _ _ hPw (Fr.of_below _ _ af hbs),hF.trans (Fr.of_below K M af hbs)⟩
 clear hPw hF HD k0 HP
 go_wp2_with fail
 refine(CI.out _).mono ?_
 rintro e w3 ⟨rfl,rfl⟩
 clear CI
 go_wp2_with fail
 go_ret
 exact⟨rfl,HF.out⟩
theorem xh (cp wp:Nat)(o:ByteArray)(P:World→Prop)(w:World)(SP:Calls Pg 78 #[PT (some ⟨cp,0,none⟩),PT (some ⟨wp,0,none⟩),aG #[X Y 6,G none 0 0,X Y 0,X Y 0,X Y 0,G none 0 0,G none 0 0]] w fun e w'=>e=rT (.string o)∧P w'):
  Calls Pg 28 #[PT (some ⟨cp,0,none⟩),.string ⟨#[115,121,110,99]⟩,PT (some ⟨wp,0,none⟩)] w fun e w'=>e=rT (.string o)∧P w':=by
 have HS:=jH SP
 clear SP
 go_enter func28,ntmps28
 go_wp2_with fail
 refine HS.out.mono ?_
 rintro e w1 ⟨rfl,hP⟩
 have HP:=jH hP
 clear hP HS
 go_wp2_with fail
 go_ret
 exact⟨rfl,HP.out⟩
theorem xm (cp wp:Nat)(o:ByteArray)(Q:Option Addr→Nat→World→Prop)(P:World→Prop)(w:World)(WB:Calls Pg 80 #[PT (some ⟨wp,0,none⟩)] w fun e w'=>∃A c,e=rT (G A 1 c)∧Q A c w')
  (SP:∀A c W,Q A c W→Calls Pg 78 #[PT (some ⟨cp,0,none⟩),PT (some ⟨wp,0,none⟩),aG #[X Y 3,G none 0 0,X Y 0,X Y 0,X Y 0,G A 1 c,G none 0 0]] W fun e w'=>e=rT (.string o)∧P w'):
  Calls Pg 28 #[PT (some ⟨cp,0,none⟩),.string ⟨#[103,101,110]⟩,PT (some ⟨wp,0,none⟩)] w fun e w'=>e=rT (.string o)∧P w':=by
 have HW:=jH WB
 have HS:=jH SP
 clear SP WB
 go_enter func28,ntmps28
 go_wp2_with fail
 refine HW.out.mono ?_
 rintro e w1 ⟨A,c,rfl,hQ⟩
 have HQ:=jH hQ
 clear hQ HW
 go_wp2_with fail
 refine(HS.out A c w1 HQ.out).mono ?_
 rintro e w2 ⟨rfl,hP⟩
 have HP:=jH hP
 clear hP HS HQ
 go_wp2_with fail
 go_ret
 exact⟨rfl,HP.out⟩
theorem xq (cp wp:Nat)(o:ByteArray)(Q:World→Prop)(P:World→Prop)(w:World)(WB:Calls Pg 75 #[PT (some ⟨wp,0,none⟩)] w fun e w'=>e=rT (G none 0 0)∧Q w')
  (SP:∀W,Q W→Calls Pg 78 #[PT (some ⟨cp,0,none⟩),PT (some ⟨wp,0,none⟩),aG #[X Y 8,G none 0 0,X Y 0,X Y 0,X Y 0,G none 0 0,G none 0 0]] W fun e w'=>e=rT (.string o)∧P w'):
  Calls Pg 28 #[PT (some ⟨cp,0,none⟩),.string ⟨#[99,114,97,115,104]⟩,PT (some ⟨wp,0,none⟩)] w fun e w'=>e=rT (.string o)∧P w':=by
 have HW:=jH WB
 have HS:=jH SP
 clear SP WB
 go_enter func28,ntmps28
 go_wp2_with fail
 refine HW.out.mono ?_
 rintro e w1 ⟨rfl,hQ⟩
 have HQ:=jH hQ
 clear hQ HW
 go_wp2_with fail
 refine(HS.out w1 HQ.out).mono ?_
 rintro e w2 ⟨rfl,hP⟩
 have HP:=jH hP
 clear hP HS HQ
 go_wp2_with fail
 go_ret
 exact⟨rfl,HP.out⟩
theorem xl (cp wp:Nat)(o:ByteArray)(kv:Array Value)(Q:World→Prop)(Q2:Option Addr→Nat→Nat→World→Prop)(P:World→Prop)(w:World)(WB:Calls Pg 77 #[PT (some ⟨wp,0,none⟩)] w fun e w'=>e=rT (.agg kv)∧Q w')
  (PK:∀W,Q W→Calls Pg 76 #[.agg kv] W fun e w'=>∃A n c,e=rT (G A n c)∧Q2 A n c w')
  (SP:∀A n c W,Q2 A n c W→Calls Pg 74 #[PT (some ⟨cp,0,none⟩),PT (some ⟨wp,0,none⟩),G A n c,bL false] W fun e w'=>e=rT (.string o)∧P w'):
  Calls Pg 28 #[PT (some ⟨cp,0,none⟩),.string ⟨#[115,101,110,100]⟩,PT (some ⟨wp,0,none⟩)] w fun e w'=>e=rT (.string o)∧P w':=by
 have HW:=jH WB
 have HS:=jH SP
 have HK:=jH PK
 clear SP WB PK
 go_enter func28,ntmps28
 go_wp2_with fail
 refine HW.out.mono ?_
 rintro e w1 ⟨rfl,hQ⟩
 have HQ:=jH hQ
 clear hQ HW
 go_wp2_with fail
 refine(HK.out w1 HQ.out).mono ?_
 rintro e w2 ⟨A,n,c,rfl,hQ⟩
 have HQ2:=jH hQ
 clear hQ HK HQ
 go_wp2_with fail
 refine(HS.out A n c w2 HQ2.out).mono ?_
 rintro e w3 ⟨rfl,hP⟩
 have HP:=jH hP
 clear hP HS HQ2
 go_wp2_with fail
 go_ret
 exact⟨rfl,HP.out⟩
theorem EZ (cp:Nat)(w:World):Calls Pg 27 #[PT (some ⟨cp,0,none⟩),.string ⟨#[115,101,110,100]⟩] w fun e w'=>e=rT (tU #[.string ⟨#[]⟩,bL false])∧w=w':=by
 go_enter func27,ntmps27
 go_wp2_with fail
 go_ret2
 exact⟨rfl,rfl⟩
theorem EY (cp:Nat)(w:World):Calls Pg 27 #[PT (some ⟨cp,0,none⟩),.string ⟨#[115,121,110,99]⟩] w fun e w'=>e=rT (tU #[.string ⟨#[]⟩,bL false])∧w=w':=by
 go_enter func27,ntmps27
 go_wp2_with fail
 go_ret2
 exact⟨rfl,rfl⟩
theorem E4 (cp:Nat)(w:World):Calls Pg 27 #[PT (some ⟨cp,0,none⟩),.string ⟨#[99,114,97,115,104]⟩] w fun e w'=>e=rT (tU #[.string ⟨#[]⟩,bL false])∧w=w':=by
 go_enter func27,ntmps27
 go_wp2_with fail
 go_ret2
 exact⟨rfl,rfl⟩
theorem E2 (cp bp g:Nat)(hg:g < 100)(w:World)(hc:ab w cp 80 #[PT (some ⟨bp,0,none⟩)])(CS:Calls Pg 9 #[PT (some ⟨bp,0,none⟩)] w fun e w'=>(∃A1 n1 c1 A2 n2 c2,e=rT (aG #[X Y g,G A1 n1 c1,G none 0 0,G A2 n2 c2]))∧Below w.heap.size w w'):
  Calls Pg 27 #[PT (some ⟨cp,0,none⟩),.string ⟨#[103,101,110]⟩] w fun e w'=>(∃t,e=rT (tU #[.string t,bL true]))∧Below w.heap.size w w':=by
 have k0:=hc.c1
 have HC:=jH CS
 have CI:=jH (eT g hg)
 generalize cm g=sg at *
 clear hc CS
 go_enter func27,ntmps27
 go_wp2_with fail
 refine HC.out.mono ?_
 rintro e w1 ⟨⟨A1,n1,c1,A2,n2,c2,rfl⟩,hb⟩
 have HB:=jH hb
 have hfd:∀W,(Instr.field 44 (aG #[X Y g,G A1 n1 c1,G none 0 0,G A2 n2 c2]) 0).run Pg W=.ok (X Y g) W:=fun _=>by kernel_rfl
 clear hb HC k0
 go_wp2_with fail
 refine(CI.out w1).mono ?_
 rintro e w2 ⟨rfl,rfl⟩
 clear CI hfd
 go_wp2_with fail
 go_ret2
 exact⟨⟨sg,rfl⟩,HB.out⟩
theorem E3 (cp:Nat)(o:ByteArray)(w:World)(CF:Calls Pg 63 #[PT (some ⟨cp,0,none⟩)] w fun e w'=>e=rT (.string o)∧Below w.heap.size w w'):
  Calls Pg 27 #[PT (some ⟨cp,0,none⟩),.string ⟨#[102,108,111,119,115]⟩] w fun e w'=>e=rT (tU #[.string o,bL true])∧Below w.heap.size w w':=by
 have HC:=jH CF
 clear CF
 go_enter func27,ntmps27
 go_wp2_with fail
 refine HC.out.mono ?_
 rintro e w1 ⟨rfl,hb⟩
 have HB:=jH hb
 clear hb HC
 go_wp2_with fail
 go_ret2
 exact⟨rfl,HB.out⟩
theorem qH {l:List ByteArray}{j:Nat}{x:ByteArray}(h:l[j]? =some x):(cj l)[j]? =some (.string x):=by unfold cj;rw[List.getElem?_map,h];rfl
theorem zY (cp:Nat)(s x:ByteArray)(rest:List ByteArray)(o:ByteArray)(P:World→Prop)(w:World)(hs:s.size≤4000)(hm:ML w)(hl:rest.length≤1000)
  (hc:Lib.countB s ⟨#[32]⟩ + 1=(x::rest).length)(hsp:Lib.splitB ⟨#[32]⟩ 0 (Lib.countB s ⟨#[32]⟩) s=x::rest)(az:∀y∈x::rest,(y.toList==[])=false)(hr:rest=[])
  (AS:∀W,Below w.heap.size w W→Calls Pg 27 #[PT (some ⟨cp,0,none⟩),.string x] W fun e w'=>e=rT (tU #[.string o,bL true])∧P w'):
  Calls Pg 13 #[PT (some ⟨cp,0,none⟩),.string s] w fun e w'=>e=rT (.string o)∧P w':=by
 have HA:=jH AS
 clear AS
 have hd:((rest.length:Int) + 1==1)=true:=by rw[hr];rfl
 clear hr
 obtain⟨ws,hws⟩:∃ws,ws=x::rest:=⟨_,rfl⟩
 rw[←hws] at hc hsp az
 have CS:=jH (ln s ⟨#[32]⟩ ws w hs (by decide) hm hc hsp)
 have hx:=ab.new w 9 (cj ws).toArray
 have hb:=(bR w.heap.size w).alloc (nR _) (cL (cj ws).toArray 9)
 have hlw:ws.length≤1001:=by rw[hws];simp;omega
 have HW:=jH (aI hws az)
 clear hc hsp hm hws az
 go_enter func13,ntmps13
 go_wp2_with fail
 refine CS.out.mono ?_
 rintro e w1 ⟨rfl,rfl⟩
 clear CS
 obtain⟨q,hq⟩:∃q,q=w.heap.size:=⟨_,rfl⟩
 rw[←hq] at hx hb⊢
 have HQ:=jH hq
 clear hq
 generalize w.alloc (cL (cj ws).toArray 9)=w1 at *
 have HX:=jH (aI hx hb)
 clear hx hb
 go_wp2_with fail
 go_loopg [5,19] ws.length (fun gk r i wr=>∃(j:Nat) (A2:Option Addr) (c2:Nat),r=G A2 j c2∧i=X Y j∧Hid (j + gk=ws.length)∧Hid (wr.ownsRow w1.heap.size 9 1 (G A2 j c2) j (cj (ws.take j)))∧Hid (Below w1.heap.size w1 wr))
 case atStart=>exact⟨0,none,0,rfl,rfl,(by show _=_;omega),World.ownsRow_nil _ _ _ _,bR _ _⟩
 case round=>
  obtain⟨j,A2,c2,rfl,rfl,hgk,hown,hbr⟩:=hrel
  by_cases au:j < ws.length
  ·obtain⟨y,hy⟩:∃y,ws[j]? =some y:=⟨_,List.getElem?_eq_getElem au⟩
   have hyne:=HW.out.2 y (List.mem_of_getElem? hy)
   have hc0:wr.cell? ⟨q,j,none⟩=some (.string y):=by
    have h1:=(HX.out.1.below hbr.out HX.out.1.lt).cell j
    rw[ga,qH hy] at h1
    exact h1
   have htk:cj (ws.take (j + 1))=cj (ws.take j)++[.string y]:=by rw[List.take_add_one,hy];simp[cj]
   have HT:=jH htk
   clear hy htk
   go_wp2_with (at_builtin;refine cu ?_)
   refine cw ?_
   have aK:Below wr.heap.size wr (wr.alloc (cL #[.string y] 9)):=(bR _ _).alloc (nR _) _
   refine gS rfl (.tmp 25) (.tmp 27) _ rfl 9 _ gF rfl underlying82 w1.heap.size (G A2 j c2) j (cj (ws.take j)) rfl (aJ hown.out aK) (wr.heap.size + 1) (some ⟨wr.heap.size,0,none⟩) 1 1 [.string y] rfl (eo _ _ _ _ 1 1 _ _ (by rfl) rfl rfl _ rfl) (by intro u hu;simp at hu;subst hu;rfl) (j + 1) rfl (by omega) (by have:=hbr.out.size;simp;omega) ?_
   intro A3 c3 w3 bK al _ _
   have H3:Hid (w3.ownsRow w1.heap.size 9 1 (G A3 (j + 1) c3) (j + 1) (cj (ws.take (j + 1)))∧Below w1.heap.size w1 w3):=by
    rw[HT.out]
    exact⟨bK,(hbr.out.trans (aK.mono hbr.out.size)).trans al⟩
   clear bK al aK hown hbr
   go_wp2_with fail
   go_roundg (gk - 1)
   case measure=>have:=hgk.out;omega
   case rel=>exact⟨j + 1,A3,c3,rfl,by go_num,(by show _=_;have:=hgk.out;omega),H3.out.1,H3.out.2⟩
  ·have hj:j=ws.length:=by have:=hgk.out;omega
   have hrow:Hid (wr.ownsRow w1.heap.size 9 1 (G A2 (rest.length + 1) c2) (rest.length + 1) (cj (x::rest))∧Below w.heap.size w wr):=by
    have h1:=hown.out
    rw[hj,List.take_of_length_le (nR _),HW.out.1] at h1
    exact⟨by simpa using h1,HQ.out▸(HX.out.2.trans (hbr.out.mono (by rw[HQ.out];exact HX.out.2.size)))⟩
   have hj2:j=rest.length + 1:=by rw[hj,HW.out.1];simp
   obtain⟨g,hA⟩:∃g,A2=some ⟨g,0,none⟩:=by
    obtain⟨g,h1,_,_⟩:=fy hrow.out.1 (by omega)
    exact⟨g,h1⟩
   subst hA
   have hc1:wr.cell? ⟨g,0,none⟩=some (.string x):=jC hrow.out.1 (by simp[cj])
   have hlr:rest.length≤1000:=hl
   have hcap:=(dN hrow.out.1).1
   clear hown hbr hgk hj
   subst hj2
   go_wp2_with fail
   refine(HA.out wr hrow.out.2).mono ?_
   rintro e w4 ⟨rfl,hP⟩
   have HP:=jH hP
   clear hP hrow HA hc1
   go_wp2_with fail
   go_ret
   exact⟨rfl,HP.out⟩
theorem lN (cp:Nat)(s x:ByteArray)(rest:List ByteArray)(o:ByteArray)(P:World→Prop)(w:World)(hs:s.size≤4000)(hm:ML w)(hl:rest.length≤1000)
  (hc:Lib.countB s ⟨#[32]⟩ + 1=(x::rest).length)(hsp:Lib.splitB ⟨#[32]⟩ 0 (Lib.countB s ⟨#[32]⟩) s=x::rest)(az:∀y∈x::rest,(y.toList==[])=false)
  (AS:∀W,Below w.heap.size w W→Calls Pg 27 #[PT (some ⟨cp,0,none⟩),.string x] W fun e w'=>(∃(t:ByteArray) (b:Bool),e=rT (tU #[.string t,.bool b])∧(b=true→0 < rest.length))∧Below W.heap.size W w')
  (RN:∀W wp,Below w.heap.size w W→cn W wp rest→w.heap.size≤wp→Calls Pg 28 #[PT (some ⟨cp,0,none⟩),.string x,PT (some ⟨wp,0,none⟩)] W fun e w'=>e=rT (.string o)∧P w'):
  Calls Pg 13 #[PT (some ⟨cp,0,none⟩),.string s] w fun e w'=>e=rT (.string o)∧P w':=by
 have HA:=jH AS
 have HR:=jH RN
 clear AS RN
 obtain⟨ws,hws⟩:∃ws,ws=x::rest:=⟨_,rfl⟩
 rw[←hws] at hc hsp az
 have CS:=jH (ln s ⟨#[32]⟩ ws w hs (by decide) hm hc hsp)
 have hx:=ab.new w 9 (cj ws).toArray
 have hb:=(bR w.heap.size w).alloc (nR _) (cL (cj ws).toArray 9)
 have hlw:ws.length≤1001:=by rw[hws];simp;omega
 have HW:=jH (aI hws az)
 clear hc hsp hm hws az
 go_enter func13,ntmps13
 go_wp2_with fail
 refine CS.out.mono ?_
 rintro e w1 ⟨rfl,rfl⟩
 clear CS
 obtain⟨q,hq⟩:∃q,q=w.heap.size:=⟨_,rfl⟩
 rw[←hq] at hx hb⊢
 have HQ:=jH hq
 clear hq
 generalize w.alloc (cL (cj ws).toArray 9)=w1 at *
 have HX:=jH (aI hx hb)
 clear hx hb
 go_wp2_with fail
 go_loopg [5,19] ws.length (fun gk r i wr=>∃(j:Nat) (A2:Option Addr) (c2:Nat),r=G A2 j c2∧i=X Y j∧Hid (j + gk=ws.length)∧Hid (wr.ownsRow w1.heap.size 9 1 (G A2 j c2) j (cj (ws.take j)))∧Hid (Below w1.heap.size w1 wr))
 case atStart=>exact⟨0,none,0,rfl,rfl,(by show _=_;omega),World.ownsRow_nil _ _ _ _,bR _ _⟩
 case round=>
  obtain⟨j,A2,c2,rfl,rfl,hgk,hown,hbr⟩:=hrel
  by_cases au:j < ws.length
  ·obtain⟨y,hy⟩:∃y,ws[j]? =some y:=⟨_,List.getElem?_eq_getElem au⟩
   have hyne:=HW.out.2 y (List.mem_of_getElem? hy)
   have hc0:wr.cell? ⟨q,j,none⟩=some (.string y):=by
    have h1:=(HX.out.1.below hbr.out HX.out.1.lt).cell j
    rw[ga,qH hy] at h1
    exact h1
   have htk:cj (ws.take (j + 1))=cj (ws.take j)++[.string y]:=by rw[List.take_add_one,hy];simp[cj]
   have HT:=jH htk
   clear hy htk
   go_wp2_with (at_builtin;refine cu ?_)
   refine cw ?_
   have aK:Below wr.heap.size wr (wr.alloc (cL #[.string y] 9)):=(bR _ _).alloc (nR _) _
   refine gS rfl (.tmp 25) (.tmp 27) _ rfl 9 _ gF rfl underlying82 w1.heap.size (G A2 j c2) j (cj (ws.take j)) rfl (aJ hown.out aK) (wr.heap.size + 1) (some ⟨wr.heap.size,0,none⟩) 1 1 [.string y] rfl (eo _ _ _ _ 1 1 _ _ (by rfl) rfl rfl _ rfl) (by intro u hu;simp at hu;subst hu;rfl) (j + 1) rfl (by omega) (by have:=hbr.out.size;simp;omega) ?_
   intro A3 c3 w3 bK al _ _
   have H3:Hid (w3.ownsRow w1.heap.size 9 1 (G A3 (j + 1) c3) (j + 1) (cj (ws.take (j + 1)))∧Below w1.heap.size w1 w3):=by
    rw[HT.out]
    exact⟨bK,(hbr.out.trans (aK.mono hbr.out.size)).trans al⟩
   clear bK al aK hown hbr
   go_wp2_with fail
   go_roundg (gk - 1)
   case measure=>have:=hgk.out;omega
   case rel=>exact⟨j + 1,A3,c3,rfl,by go_num,(by show _=_;have:=hgk.out;omega),H3.out.1,H3.out.2⟩
  ·have hj:j=ws.length:=by have:=hgk.out;omega
   have hrow:Hid (wr.ownsRow w1.heap.size 9 1 (G A2 (rest.length + 1) c2) (rest.length + 1) (cj (x::rest))∧Below w.heap.size w wr):=by
    have h1:=hown.out
    rw[hj,List.take_of_length_le (nR _),HW.out.1] at h1
    exact⟨by simpa using h1,HQ.out▸(HX.out.2.trans (hbr.out.mono (by rw[HQ.out];exact HX.out.2.size)))⟩
   have hj2:j=rest.length + 1:=by rw[hj,HW.out.1];simp
   obtain⟨g,hA⟩:∃g,A2=some ⟨g,0,none⟩:=by
    obtain⟨g,h1,_,_⟩:=fy hrow.out.1 (by omega)
    exact⟨g,h1⟩
   subst hA
   have hc1:wr.cell? ⟨g,0,none⟩=some (.string x):=jC hrow.out.1 (by simp[cj])
   have hlr:rest.length≤1000:=hl
   have hcap:=(dN hrow.out.1).1
   clear hown hbr hgk hj
   subst hj2
   go_wp2_with fail
   refine(HA.out wr hrow.out.2).mono ?_
   rintro e w4 ⟨⟨t,b,rfl,hbl⟩,aq⟩
   have H4:Hid (w4.ownsRow w1.heap.size 9 1 (G (some ⟨g,0,none⟩) (rest.length + 1) c2) (rest.length + 1) (cj (x::rest))∧Below w.heap.size w w4):=⟨aJ hrow.out.1 aq,hrow.out.2.trans (aq.mono hrow.out.2.size)⟩
   clear aq hrow HA hc1
   have hc4:w4.cell? ⟨g,0,none⟩=some (.string x):=jC H4.out.1 (by simp[cj])
   have ae:b=true→((rest.length:Int) + 1==1)=false:=fun h=>by
    have:=hbl h
    simp
    omega
   have hreads:Reads w4 w4.heap.size 1 (some ⟨g,0,none⟩) (rest.length + 1) (cj (x::rest)):=Reads.of_own H4.out.1
   have hcut:=hreads.cut (k:=1) (by omega) hcap
   have hcut2:Reads w4 w4.heap.size 1 (if c2=1 then some ⟨g,0,none⟩ else (some (⟨g,0,none⟩:Addr)).map (·.add (1 * 1))) rest.length (cj rest):=by
    simp only[Nat.add_sub_cancel,Nat.mul_one,cj,List.map_cons,List.drop_succ_cons,List.drop_zero] at hcut
    exact hcut
   have af:b=true→rest=[]→False:=fun h1 h2=>by have:=hbl h1;rw[h2] at this;simp at this
   clear hcut hreads hbl
   by_cases hcc:c2=1
   ·have hr0:rest.length=0:=by omega
    have bI:rest=[]:=List.eq_nil_of_length_eq_zero hr0
    subst hcc
    subst bI
    clear hcut2
    have hcut2:Reads w4 w4.heap.size 1 (some ⟨g,0,none⟩) 0 (cj []):=⟨by simp[cj],fun h=>absurd h (by omega)⟩
    simp only[List.length_nil] at *
    have aA:Below w4.heap.size w4 (w4.alloc (cL #[G (some ⟨g,0,none⟩) 0 0,bL false] 89)).drew:=((bR _ _).alloc (nR _) _).drew
    have hww:cn (w4.alloc (cL #[G (some ⟨g,0,none⟩) 0 0,bL false] 89)).drew w4.heap.size []:=⟨some ⟨g,0,none⟩,0,(ab.new w4 89 #[G (some ⟨g,0,none⟩) 0 0,bL false]).drew,(hcut2.alloc (nR _) _).drew,by simp⟩
    have CR:=jH (HR.out (w4.alloc (cL #[G (some ⟨g,0,none⟩) 0 0,bL false] 89)).drew w4.heap.size (H4.out.2.trans (aA.mono H4.out.2.size)) hww H4.out.2.size)
    have g1:(w4.alloc (cL #[G (some ⟨g,0,none⟩) 0 0,bL false] 89)).drew.cell? ⟨g,0,none⟩=some (.string x):=(aA.cell (World.block_lt_of_cell? w4 _ hc4)).trans hc4
    clear aA hww hcut2 HR
    cases b with
    |true=>
     exact(af rfl trivial).elim
    |false=>
     go_wp2_with fail
     have g0:w4.drew.cell? ⟨g,0,none⟩=some (.string x):=hc4
     go_region_with (go_at_call 28;(with_reducible refine CR.out.mono ?_);rintro e w5 ⟨rfl,hP⟩)
     all_goals
      have HP:=jH hP
      clear hP CR g0 g1 H4
      go_wp2_with fail
      go_ret
      exact⟨rfl,HP.out⟩
   ·rw[if_neg hcc] at hcut2
    simp only[Option.map_some,Addr.add_lit,Nat.mul_one,Nat.zero_add] at hcut2
    have aA:Below w4.heap.size w4 (w4.alloc (cL #[G (some ⟨g,1,none⟩) rest.length (c2 - 1),bL false] 89)).drew:=((bR _ _).alloc (nR _) _).drew
    have hww:cn (w4.alloc (cL #[G (some ⟨g,1,none⟩) rest.length (c2 - 1),bL false] 89)).drew w4.heap.size rest:=⟨some ⟨g,1,none⟩,c2 - 1,(ab.new w4 89 #[G (some ⟨g,1,none⟩) rest.length (c2 - 1),bL false]).drew,(hcut2.alloc (nR _) _).drew,by omega⟩
    have CR:=jH (HR.out (w4.alloc (cL #[G (some ⟨g,1,none⟩) rest.length (c2 - 1),bL false] 89)).drew w4.heap.size (H4.out.2.trans (aA.mono H4.out.2.size)) hww H4.out.2.size)
    have g1:(w4.alloc (cL #[G (some ⟨g,1,none⟩) rest.length (c2 - 1),bL false] 89)).drew.cell? ⟨g,0,none⟩=some (.string x):=(aA.cell (World.block_lt_of_cell? w4 _ hc4)).trans hc4
    clear aA hww hcut2 HR
    cases b with
    |true=>
     go_wp2_with fail
     have g0:w4.drew.cell? ⟨g,0,none⟩=some (.string x):=hc4
     go_region_with (go_at_call 28;(with_reducible refine CR.out.mono ?_);rintro e w5 ⟨rfl,hP⟩)
     all_goals
      have HP:=jH hP
      clear hP CR g0 g1 H4
      go_wp2_with fail
      go_ret
      exact⟨rfl,HP.out⟩
    |false=>
     go_wp2_with fail
     have g0:w4.drew.cell? ⟨g,0,none⟩=some (.string x):=hc4
     go_region_with (go_at_call 28;(with_reducible refine CR.out.mono ?_);rintro e w5 ⟨rfl,hP⟩)
     all_goals
      have HP:=jH hP
      clear hP CR g0 g1 H4
      go_wp2_with fail
      go_ret
      exact⟨rfl,HP.out⟩
end
section
open Go.RowKit
theorem DM (w:World):
  Calls Pg 12 #[] w fun e w'=>∃(cp aa:Nat) (p:BP) (il:List It),e=rT (PT (some ⟨cp,0,none⟩))∧w.heap.size≤aa∧ab w' cp 80 #[PT (some ⟨p.bp,0,none⟩)]∧aM w' aa p 13 8 30 200 20000 3 0 0 6 [] 0 [] [] il 1∧Below w.heap.size w w':=by
 have CB:=jH (tO 13 8 30 200 20000 3 (by constructor<;>first|decide|omega))
 go_enter func12,ntmps12
 go_wp2_with fail
 refine(Cf w).mono ?_
 rintro e w1 ⟨rfl,ae⟩
 unfold jh at *
 go_wp2_with fail
 refine(CB.out w1).mono ?_
 rintro e w2 ⟨⟨aa,p,il,rfl,hbs,hB⟩,af⟩
 have HX:=jH (aI hB (aI (nT ae.size hbs) (ae.trans (af.mono ae.size))))
 clear hB hbs ae af CB
 go_wp2_with fail
 go_ret
 obtain⟨g1,g2,g3⟩:=HX.out
 exact⟨w2.heap.size,aa,p,il,rfl,g2,ab.new w2 _ _,g1.made ((bR _ _).alloc (nR _) _),g3.alloc g3.size _⟩
theorem qG {l:List ByteArray}{j:Nat}{x:ByteArray}(h:l[j]? =some x):(l.map Value.string)[j]? =some (.string x):=by rw[List.getElem?_map,h];rfl
theorem Ff (w:World):Calls Pg 147 #[X Z 16909060] w fun e w'=>e=rT (.string ⟨#[49,46,50,46,51,46,52]⟩)∧Below w.heap.size w w':=by
 have N0:Hid (∀W:World,Calls Pg 61 #[X Y 1] W fun e w'=>e=rT (.string ⟨#[49]⟩)∧W=w'):=fun W=>eT 1 (by omega) W
 have N1:Hid (∀W:World,Calls Pg 61 #[X Y 2] W fun e w'=>e=rT (.string ⟨#[50]⟩)∧W=w'):=fun W=>eT 2 (by omega) W
 have N2:Hid (∀W:World,Calls Pg 61 #[X Y 3] W fun e w'=>e=rT (.string ⟨#[51]⟩)∧W=w'):=fun W=>eT 3 (by omega) W
 have N3:Hid (∀W:World,Calls Pg 61 #[X Y 4] W fun e w'=>e=rT (.string ⟨#[52]⟩)∧W=w'):=fun W=>eT 4 (by omega) W
 have b0:wrap64 (bits BinOp.and IntKind.u32 1 255)=1:=by kernel_rfl
 have b1:wrap64 (bits BinOp.and IntKind.u32 258 255)=2:=by kernel_rfl
 have b2:wrap64 (bits BinOp.and IntKind.u32 66051 255)=3:=by kernel_rfl
 have b3:wrap64 (bits BinOp.and IntKind.u32 16909060 255)=4:=by kernel_rfl
 go_enter func147,ntmps147
 go_wp2_with fail
 refine wp_loop_rounds 5 ?_
 rw[rounds_succ]
 go_wp2_with fail
 refine(N0.out w).mono ?_
 rintro e w' ⟨rfl,rfl⟩
 go_wp2_with (at_builtin;refine cu ?_)
 refine cw ?_
 have ao:Below w.heap.size w (w.alloc (cL #[.string ⟨#[49]⟩] 9)):=(bR _ _).alloc (nR _) _
 refine gS rfl (.tmp 9) (.tmp 17) _ rfl 9 _ gF rfl underlying82 w.heap.size (G none 0 0) 0 [] rfl (World.ownsRow_nil _ _ _ _) (w.heap.size + 1) (some ⟨w.heap.size,0,none⟩) 1 1 [.string ⟨#[49]⟩] rfl (eo _ _ _ _ 1 1 _ _ (by rfl) rfl rfl _ rfl) (by intro u hu;simp at hu;subst hu;rfl) 1 rfl (by omega) (by simp) ?_
 intro A0 c0 wa0 hown aA _ _
 have H0:Hid (wa0.ownsRow w.heap.size 9 1 (G A0 1 c0) 1 (([])++[.string ⟨#[49]⟩])∧Below w.heap.size w wa0):=⟨hown,((bR w.heap.size w).trans (ao.mono (bR w.heap.size w).size)).trans aA⟩
 clear hown aA ao N0
 go_wp2_with fail
 rw[rounds_succ]
 go_wp2_with fail
 refine(N1.out wa0).mono ?_
 rintro e w' ⟨rfl,rfl⟩
 go_wp2_with (at_builtin;refine cu ?_)
 refine cw ?_
 have ae:Below wa0.heap.size wa0 (wa0.alloc (cL #[.string ⟨#[50]⟩] 9)):=(bR _ _).alloc (nR _) _
 refine gS rfl (.tmp 9) (.tmp 17) _ rfl 9 _ gF rfl underlying82 w.heap.size (G A0 1 c0) 1 (([])++[.string ⟨#[49]⟩]) rfl (aJ H0.out.1 ae) (wa0.heap.size + 1) (some ⟨wa0.heap.size,0,none⟩) 1 1 [.string ⟨#[50]⟩] rfl (eo _ _ _ _ 1 1 _ _ (by rfl) rfl rfl _ rfl) (by intro u hu;simp at hu;subst hu;rfl) 2 rfl (by omega) (by have:=H0.out.2.size;simp;omega) ?_
 intro A1 c1 wa1 hown aA _ _
 have H1:Hid (wa1.ownsRow w.heap.size 9 1 (G A1 2 c1) 2 ((([])++[.string ⟨#[49]⟩])++[.string ⟨#[50]⟩])∧Below w.heap.size w wa1):=⟨hown,(H0.out.2.trans (ae.mono H0.out.2.size)).trans aA⟩
 clear hown aA ae N1 H0
 go_wp2_with fail
 rw[rounds_succ]
 go_wp2_with fail
 refine(N2.out wa1).mono ?_
 rintro e w' ⟨rfl,rfl⟩
 go_wp2_with (at_builtin;refine cu ?_)
 refine cw ?_
 have af:Below wa1.heap.size wa1 (wa1.alloc (cL #[.string ⟨#[51]⟩] 9)):=(bR _ _).alloc (nR _) _
 refine gS rfl (.tmp 9) (.tmp 17) _ rfl 9 _ gF rfl underlying82 w.heap.size (G A1 2 c1) 2 ((([])++[.string ⟨#[49]⟩])++[.string ⟨#[50]⟩]) rfl (aJ H1.out.1 af) (wa1.heap.size + 1) (some ⟨wa1.heap.size,0,none⟩) 1 1 [.string ⟨#[51]⟩] rfl (eo _ _ _ _ 1 1 _ _ (by rfl) rfl rfl _ rfl) (by intro u hu;simp at hu;subst hu;rfl) 3 rfl (by omega) (by have:=H1.out.2.size;simp;omega) ?_
 intro A2 c2 wa2 hown aA _ _
 have H2:Hid (wa2.ownsRow w.heap.size 9 1 (G A2 3 c2) 3 (((([])++[.string ⟨#[49]⟩])++[.string ⟨#[50]⟩])++[.string ⟨#[51]⟩])∧Below w.heap.size w wa2):=⟨hown,(H1.out.2.trans (af.mono H1.out.2.size)).trans aA⟩
 clear hown aA af N2 H1
 go_wp2_with fail
 rw[rounds_succ]
 go_wp2_with fail
 refine(N3.out wa2).mono ?_
 rintro e w' ⟨rfl,rfl⟩
 go_wp2_with (at_builtin;refine cu ?_)
 refine cw ?_
 have al:Below wa2.heap.size wa2 (wa2.alloc (cL #[.string ⟨#[52]⟩] 9)):=(bR _ _).alloc (nR _) _
 refine gS rfl (.tmp 9) (.tmp 17) _ rfl 9 _ gF rfl underlying82 w.heap.size (G A2 3 c2) 3 (((([])++[.string ⟨#[49]⟩])++[.string ⟨#[50]⟩])++[.string ⟨#[51]⟩]) rfl (aJ H2.out.1 al) (wa2.heap.size + 1) (some ⟨wa2.heap.size,0,none⟩) 1 1 [.string ⟨#[52]⟩] rfl (eo _ _ _ _ 1 1 _ _ (by rfl) rfl rfl _ rfl) (by intro u hu;simp at hu;subst hu;rfl) 4 rfl (by omega) (by have:=H2.out.2.size;simp;omega) ?_
 intro A3 c3 wa3 hown aA _ _
 have H3:Hid (wa3.ownsRow w.heap.size 9 1 (G A3 4 c3) 4 ((((([])++[.string ⟨#[49]⟩])++[.string ⟨#[50]⟩])++[.string ⟨#[51]⟩])++[.string ⟨#[52]⟩])∧Below w.heap.size w wa3):=⟨hown,(H2.out.2.trans (al.mono H2.out.2.size)).trans aA⟩
 clear hown aA al N3 H2
 go_wp2_with fail
 rw[rounds_succ]
 go_wp2_with fail
 obtain⟨g,hA,_,_⟩:=fy H3.out.1 (by omega)
 subst hA
 have hcl:∀(j:Nat) (x:ByteArray),([⟨#[49]⟩,⟨#[50]⟩,⟨#[51]⟩,⟨#[52]⟩]:List ByteArray)[j]? =some x→wa3.cell? ⟨g,0 + j,none⟩=some (.string x):=by
  intro j x hx
  rw[Nat.zero_add]
  exact jC H3.out.1 (qG hx)
 have hcap:=(dN H3.out.1).1
 have au:g < wa3.heap.size:=World.block_lt_of_cell? wa3 _ (hcl 0 _ rfl)
 refine(nj g 0 c3 [⟨#[49]⟩,⟨#[50]⟩,⟨#[51]⟩,⟨#[52]⟩] ⟨#[46]⟩ wa3 hcl au (by decide) hcap (by decide)).mono ?_
 rintro e w9 ⟨rfl,hb⟩
 have H9:Hid (Below w.heap.size w w9):=H3.out.2.trans (hb.mono H3.out.2.size)
 clear hb hcl hcap au H3
 go_wp2_with fail
 go_ret
 exact⟨rfl,H9.out⟩
theorem Fe (w:World):Calls Pg 147 #[X Z 101124105] w fun e w'=>e=rT (.string ⟨#[54,46,55,46,56,46,57]⟩)∧Below w.heap.size w w':=by
 have N0:Hid (∀W:World,Calls Pg 61 #[X Y 6] W fun e w'=>e=rT (.string ⟨#[54]⟩)∧W=w'):=fun W=>eT 6 (by omega) W
 have N1:Hid (∀W:World,Calls Pg 61 #[X Y 7] W fun e w'=>e=rT (.string ⟨#[55]⟩)∧W=w'):=fun W=>eT 7 (by omega) W
 have N2:Hid (∀W:World,Calls Pg 61 #[X Y 8] W fun e w'=>e=rT (.string ⟨#[56]⟩)∧W=w'):=fun W=>eT 8 (by omega) W
 have N3:Hid (∀W:World,Calls Pg 61 #[X Y 9] W fun e w'=>e=rT (.string ⟨#[57]⟩)∧W=w'):=fun W=>eT 9 (by omega) W
 have b0:wrap64 (bits BinOp.and IntKind.u32 6 255)=6:=by kernel_rfl
 have b1:wrap64 (bits BinOp.and IntKind.u32 1543 255)=7:=by kernel_rfl
 have b2:wrap64 (bits BinOp.and IntKind.u32 395016 255)=8:=by kernel_rfl
 have b3:wrap64 (bits BinOp.and IntKind.u32 101124105 255)=9:=by kernel_rfl
 go_enter func147,ntmps147
 go_wp2_with fail
 refine wp_loop_rounds 5 ?_
 rw[rounds_succ]
 go_wp2_with fail
 refine(N0.out w).mono ?_
 rintro e w' ⟨rfl,rfl⟩
 go_wp2_with (at_builtin;refine cu ?_)
 refine cw ?_
 have ao:Below w.heap.size w (w.alloc (cL #[.string ⟨#[54]⟩] 9)):=(bR _ _).alloc (nR _) _
 refine gS rfl (.tmp 9) (.tmp 17) _ rfl 9 _ gF rfl underlying82 w.heap.size (G none 0 0) 0 [] rfl (World.ownsRow_nil _ _ _ _) (w.heap.size + 1) (some ⟨w.heap.size,0,none⟩) 1 1 [.string ⟨#[54]⟩] rfl (eo _ _ _ _ 1 1 _ _ (by rfl) rfl rfl _ rfl) (by intro u hu;simp at hu;subst hu;rfl) 1 rfl (by omega) (by simp) ?_
 intro A0 c0 wa0 hown aA _ _
 have H0:Hid (wa0.ownsRow w.heap.size 9 1 (G A0 1 c0) 1 (([])++[.string ⟨#[54]⟩])∧Below w.heap.size w wa0):=⟨hown,((bR w.heap.size w).trans (ao.mono (bR w.heap.size w).size)).trans aA⟩
 clear hown aA ao N0
 go_wp2_with fail
 rw[rounds_succ]
 go_wp2_with fail
 refine(N1.out wa0).mono ?_
 rintro e w' ⟨rfl,rfl⟩
 go_wp2_with (at_builtin;refine cu ?_)
 refine cw ?_
 have ae:Below wa0.heap.size wa0 (wa0.alloc (cL #[.string ⟨#[55]⟩] 9)):=(bR _ _).alloc (nR _) _
 refine gS rfl (.tmp 9) (.tmp 17) _ rfl 9 _ gF rfl underlying82 w.heap.size (G A0 1 c0) 1 (([])++[.string ⟨#[54]⟩]) rfl (aJ H0.out.1 ae) (wa0.heap.size + 1) (some ⟨wa0.heap.size,0,none⟩) 1 1 [.string ⟨#[55]⟩] rfl (eo _ _ _ _ 1 1 _ _ (by rfl) rfl rfl _ rfl) (by intro u hu;simp at hu;subst hu;rfl) 2 rfl (by omega) (by have:=H0.out.2.size;simp;omega) ?_
 intro A1 c1 wa1 hown aA _ _
 have H1:Hid (wa1.ownsRow w.heap.size 9 1 (G A1 2 c1) 2 ((([])++[.string ⟨#[54]⟩])++[.string ⟨#[55]⟩])∧Below w.heap.size w wa1):=⟨hown,(H0.out.2.trans (ae.mono H0.out.2.size)).trans aA⟩
 clear hown aA ae N1 H0
 go_wp2_with fail
 rw[rounds_succ]
 go_wp2_with fail
 refine(N2.out wa1).mono ?_
 rintro e w' ⟨rfl,rfl⟩
 go_wp2_with (at_builtin;refine cu ?_)
 refine cw ?_
 have af:Below wa1.heap.size wa1 (wa1.alloc (cL #[.string ⟨#[56]⟩] 9)):=(bR _ _).alloc (nR _) _
 refine gS rfl (.tmp 9) (.tmp 17) _ rfl 9 _ gF rfl underlying82 w.heap.size (G A1 2 c1) 2 ((([])++[.string ⟨#[54]⟩])++[.string ⟨#[55]⟩]) rfl (aJ H1.out.1 af) (wa1.heap.size + 1) (some ⟨wa1.heap.size,0,none⟩) 1 1 [.string ⟨#[56]⟩] rfl (eo _ _ _ _ 1 1 _ _ (by rfl) rfl rfl _ rfl) (by intro u hu;simp at hu;subst hu;rfl) 3 rfl (by omega) (by have:=H1.out.2.size;simp;omega) ?_
 intro A2 c2 wa2 hown aA _ _
 have H2:Hid (wa2.ownsRow w.heap.size 9 1 (G A2 3 c2) 3 (((([])++[.string ⟨#[54]⟩])++[.string ⟨#[55]⟩])++[.string ⟨#[56]⟩])∧Below w.heap.size w wa2):=⟨hown,(H1.out.2.trans (af.mono H1.out.2.size)).trans aA⟩
 clear hown aA af N2 H1
 go_wp2_with fail
 rw[rounds_succ]
 go_wp2_with fail
 refine(N3.out wa2).mono ?_
 rintro e w' ⟨rfl,rfl⟩
 go_wp2_with (at_builtin;refine cu ?_)
 refine cw ?_
 have al:Below wa2.heap.size wa2 (wa2.alloc (cL #[.string ⟨#[57]⟩] 9)):=(bR _ _).alloc (nR _) _
 refine gS rfl (.tmp 9) (.tmp 17) _ rfl 9 _ gF rfl underlying82 w.heap.size (G A2 3 c2) 3 (((([])++[.string ⟨#[54]⟩])++[.string ⟨#[55]⟩])++[.string ⟨#[56]⟩]) rfl (aJ H2.out.1 al) (wa2.heap.size + 1) (some ⟨wa2.heap.size,0,none⟩) 1 1 [.string ⟨#[57]⟩] rfl (eo _ _ _ _ 1 1 _ _ (by rfl) rfl rfl _ rfl) (by intro u hu;simp at hu;subst hu;rfl) 4 rfl (by omega) (by have:=H2.out.2.size;simp;omega) ?_
 intro A3 c3 wa3 hown aA _ _
 have H3:Hid (wa3.ownsRow w.heap.size 9 1 (G A3 4 c3) 4 ((((([])++[.string ⟨#[54]⟩])++[.string ⟨#[55]⟩])++[.string ⟨#[56]⟩])++[.string ⟨#[57]⟩])∧Below w.heap.size w wa3):=⟨hown,(H2.out.2.trans (al.mono H2.out.2.size)).trans aA⟩
 clear hown aA al N3 H2
 go_wp2_with fail
 rw[rounds_succ]
 go_wp2_with fail
 obtain⟨g,hA,_,_⟩:=fy H3.out.1 (by omega)
 subst hA
 have hcl:∀(j:Nat) (x:ByteArray),([⟨#[54]⟩,⟨#[55]⟩,⟨#[56]⟩,⟨#[57]⟩]:List ByteArray)[j]? =some x→wa3.cell? ⟨g,0 + j,none⟩=some (.string x):=by
  intro j x hx
  rw[Nat.zero_add]
  exact jC H3.out.1 (qG hx)
 have hcap:=(dN H3.out.1).1
 have au:g < wa3.heap.size:=World.block_lt_of_cell? wa3 _ (hcl 0 _ rfl)
 refine(nj g 0 c3 [⟨#[54]⟩,⟨#[55]⟩,⟨#[56]⟩,⟨#[57]⟩] ⟨#[46]⟩ wa3 hcl au (by decide) hcap (by decide)).mono ?_
 rintro e w9 ⟨rfl,hb⟩
 have H9:Hid (Below w.heap.size w w9):=H3.out.2.trans (hb.mono H3.out.2.size)
 clear hb hcl hcap au H3
 go_wp2_with fail
 go_ret
 exact⟨rfl,H9.out⟩
theorem yj (w:World):Calls Pg 254 #[X Y 17] w fun e w'=>e=rT (.string ⟨#[117,100,112]⟩)∧w=w':=by
 go_enter func254,ntmps254
 go_wp2_with fail
 go_ret
 exact⟨rfl,rfl⟩
end
section
open Go.RowKit Go.Maps
theorem mR {W:World}{q:Nat}{t:TypeId}(h:ab W q t #[X Z 16909060,X Z 101124105,X Y 17,X Y 5,X Y 53]):W.cell? ⟨q,0,none⟩=some (X Z 16909060)∧W.cell? ⟨q,1,none⟩=some (X Z 101124105)∧W.cell? ⟨q,2,none⟩=some (X Y 17)∧W.cell? ⟨q,3,none⟩=some (X Y 5)∧W.cell? ⟨q,4,none⟩=some (X Y 53):=⟨h.cell 0,h.cell 1,h.cell 2,h.cell 3,h.cell 4⟩
theorem vB (w:World):Calls Pg 146 #[aG #[X Z 16909060,X Z 101124105,X Y 17,X Y 5,X Y 53]] w fun e w'=>e=rT (.string ⟨#[117,100,112,32,49,46,50,46,51,46,52,58,53,62,54,46,55,46,56,46,57,58,53,51]⟩)∧Below w.heap.size w w':=by
 have I5:Hid (∀W:World,Calls Pg 61 #[X Y 5] W fun e w'=>e=rT (.string ⟨#[53]⟩)∧W=w'):=fun W=>eT 5 (by omega) W
 have I53:Hid (∀W:World,Calls Pg 61 #[X Y 53] W fun e w'=>e=rT (.string ⟨#[53,51]⟩)∧W=w'):=fun W=>eT 53 (by omega) W
 have hx:=ab.new w 39 #[X Z 16909060,X Z 101124105,X Y 17,X Y 5,X Y 53]
 have hb:Below w.heap.size w (w.alloc (cL #[X Z 16909060,X Z 101124105,X Y 17,X Y 5,X Y 53] 39)).drew:=((bR w.heap.size w).alloc (nR _) _).drew
 have d0:=mR hx.drew
 have HX:=jH (aI hx.drew hb)
 have x0:=hx.cell 0
 clear hx hb x0
 go_enter func146,ntmps146
 go_wp2_with fail
 generalize (w.alloc (cL #[X Z 16909060,X Z 101124105,X Y 17,X Y 5,X Y 53] 39))=w1 at *
 go_region_held3 (fun wS=>wS.cell? ⟨w.heap.size,0,none⟩=some (X Z 16909060)∧wS.cell? ⟨w.heap.size,1,none⟩=some (X Z 101124105)∧wS.cell? ⟨w.heap.size,2,none⟩=some (X Y 17)∧wS.cell? ⟨w.heap.size,3,none⟩=some (X Y 5)∧wS.cell? ⟨w.heap.size,4,none⟩=some (X Y 53)) (first|with_reducible exact d0|with_reducible exact d1|with_reducible exact d2|fail)
  (first
   |(go_at_call 254;(with_reducible refine(yj _).mono ?_);rintro e w' ⟨rfl,rfl⟩)
   |(go_at_call 147;(with_reducible refine(Ff _).mono ?_);rintro e w2 ⟨rfl,af⟩;have k2:=HX.out.1.below af HX.out.1.lt;have d1:=mR k2)
   |(go_at_call 147;(with_reducible refine(Fe _).mono ?_);rintro e w3 ⟨rfl,al⟩;have k3:=k2.below al k2.lt;have d2:=mR k3)
   |(go_at_call 61;(with_reducible refine(I5.out _).mono ?_);rintro e w' ⟨rfl,rfl⟩)
   |(go_at_call 61;(with_reducible refine(I53.out _).mono ?_);rintro e w' ⟨rfl,rfl⟩))
 have HF:Hid (Below w.heap.size w w3):=by
  have s1:=HX.out.2.size
  exact(HX.out.2.trans (af.mono s1)).trans (al.mono (nT s1 af.size))
 clear k2 k3 af al d0 d1 d2 HX
 go_wp2_with fail
 go_ret
 exact⟨by kernel_rfl,HF.out⟩
theorem mh {W:World}{q5:Nat}{t:TypeId}(h:ab W q5 t #[X Z 16909060,X Z 101124105,X Y 17,X Y 5,X Y 53,X Y 2,X Y 1,X Y 0]):W.cell? ⟨q5,0,none⟩=some (X Z 16909060)∧W.cell? ⟨q5,1,none⟩=some (X Z 101124105)∧W.cell? ⟨q5,2,none⟩=some (X Y 17)∧W.cell? ⟨q5,3,none⟩=some (X Y 5)∧W.cell? ⟨q5,4,none⟩=some (X Y 53)∧W.cell? ⟨q5,5,none⟩=some (X Y 2)∧W.cell? ⟨q5,6,none⟩=some (X Y 1)∧W.cell? ⟨q5,7,none⟩=some (X Y 0):=⟨h.cell 0,h.cell 1,h.cell 2,h.cell 3,h.cell 4,h.cell 5,h.cell 6,h.cell 7⟩
theorem yB {W:World}{b n sz:Nat}{e:TypeId}{v:Value}{xs ys:List Value}(h:W.ownsRow b e sz v n xs)(hx:xs=ys):W.ownsRow b e sz v n ys:=hx▸h
def eW:Fl:=⟨⟨16909060,101124105,17,5,53⟩,2,1,0⟩
theorem D4 (cp bp g:Nat)(w:World)(hc:ab w cp 80 #[PT (some ⟨bp,0,none⟩)])
  (CS:Calls Pg 9 #[PT (some ⟨bp,0,none⟩)] w fun e w'=>(∃A1 n1 c1 A2 c2,e=rT (aG #[X Y g,G A1 n1 c1,G none 0 0,G A2 1 c2])∧w'.ownsRow w.heap.size 47 8 (G A2 1 c2) 1 (bE [eW]))∧Below w.heap.size w w'):
  Calls Pg 63 #[PT (some ⟨cp,0,none⟩)] w fun e w'=>e=rT (.string ⟨#[117,100,112,32,49,46,50,46,51,46,52,58,53,62,54,46,55,46,56,46,57,58,53,51,61,50,47,49,64,48]⟩)∧Below w.heap.size w w':=by
 have k0:=hc.c1
 have hfd:∀(v0 v1 v2 v3:Value) W,(Instr.field 44 (aG #[v0,v1,v2,v3]) 3).run Pg W=.ok v3 W:=fun v0 v1 v2 v3 W=>by kernel_rfl
 have I2:Hid (∀W:World,Calls Pg 61 #[X Y 2] W fun e w'=>e=rT (.string ⟨#[50]⟩)∧W=w'):=fun W=>eT 2 (by omega) W
 have I1:Hid (∀W:World,Calls Pg 61 #[X Y 1] W fun e w'=>e=rT (.string ⟨#[49]⟩)∧W=w'):=fun W=>eT 1 (by omega) W
 have I0:Hid (∀W:World,Calls Pg 69 #[X Y 0,X Y 10] W fun e w'=>e=rT (.string ⟨#[48]⟩)∧W=w'):=fun W=>BV 0 (by omega) W
 have HC:=jH CS
 clear CS hc
 go_enter func63,ntmps63
 go_wp2_with fail
 refine HC.out.mono ?_
 rintro e w1 ⟨⟨A1,n1,c1,A2,c2,rfl,hown⟩,ae⟩
 obtain⟨b,off,hA,hbl,hcl⟩:=(Reads.of_own hown).plain (by decide) (by decide)
 subst hA
 have y0:=hcl 0 (X Z 16909060) rfl
 have y1:=hcl 1 (X Z 101124105) rfl
 have y2:=hcl 2 (X Y 17) rfl
 have y3:=hcl 3 (X Y 5) rfl
 have y4:=hcl 4 (X Y 53) rfl
 have y5:=hcl 5 (X Y 2) rfl
 have y6:=hcl 6 (X Y 1) rfl
 have y7:=hcl 7 (X Y 0) rfl
 rw[Nat.add_zero] at y0
 have HB:=jH ae
 clear hcl hown ae HC k0
 go_wp2_with fail
 refine wp_loop_rounds 2 ?_
 rw[rounds_succ]
 go_wp2_with fail
 obtain⟨q5,hq5⟩:∃q5,q5=w1.heap.size:=⟨_,rfl⟩
 have HX:(fun Vv:World=>Hid (ab Vv q5 47 #[X Z 16909060,X Z 101124105,X Y 17,X Y 5,X Y 53,X Y 2,X Y 1,X Y 0]∧Below w.heap.size w Vv)) (w1.alloc (cL #[X Z 16909060,X Z 101124105,X Y 17,X Y 5,X Y 53,X Y 2,X Y 1,X Y 0] 47)):=⟨hq5▸ab.new w1 _ _,HB.out.alloc HB.out.size _⟩
 rw[←hq5]
 clear hq5 HB y0 y1 y2 y3 y4 y5 y6 y7
 generalize (w1.alloc (cL #[X Z 16909060,X Z 101124105,X Y 17,X Y 5,X Y 53,X Y 2,X Y 1,X Y 0] 47))=w2 at *
 have d0:=mh HX.out.1.drew
 go_region_held3 (fun wS=>wS.cell? ⟨q5,0,none⟩=some (X Z 16909060)∧wS.cell? ⟨q5,1,none⟩=some (X Z 101124105)∧wS.cell? ⟨q5,2,none⟩=some (X Y 17)∧wS.cell? ⟨q5,3,none⟩=some (X Y 5)∧wS.cell? ⟨q5,4,none⟩=some (X Y 53)∧wS.cell? ⟨q5,5,none⟩=some (X Y 2)∧wS.cell? ⟨q5,6,none⟩=some (X Y 1)∧wS.cell? ⟨q5,7,none⟩=some (X Y 0)) (first|with_reducible exact d0|with_reducible exact d1|with_reducible exact d2 _|with_reducible exact d3|fail)
  (first
   |(go_at_call 146;(with_reducible refine(vB _).mono ?_);rintro e w3 ⟨rfl,al⟩;have k3:=HX.out.1.drew.below al HX.out.1.lt;have d1:=mh k3;have d2:=fun o=>mh (k3.alloc o))
   |(go_at_call 61;(with_reducible refine(I2.out _).mono ?_);rintro e w' ⟨rfl,rfl⟩)
   |(go_at_call 61;(with_reducible refine(I1.out _).mono ?_);rintro e w' ⟨rfl,rfl⟩)
   |(go_at_call 69;(with_reducible refine(I0.out _).mono ?_);rintro e w' ⟨rfl,rfl⟩)
   |(refine qL rfl (.tmp 17) (.tmp 36) _ rfl 1 16 9 _ gF rfl (by omega) (by omega) underlying82 w.heap.size (G none 0 0) 0 [] (by simp[Act.eval,Act.put]) (World.ownsRow_nil _ _ _ _) (w3.heap.size + 1) (some ⟨w3.heap.size,0,none⟩) 1 1 [_] (by simp[Act.eval,Act.put]) (eo _ _ _ _ 1 1 _ _ (by rfl) rfl rfl _ rfl) (by intro u hu;simp at hu;subst hu;rfl) 1 rfl (by omega) (by have h1:=HX.out.2.size;have h2:=al.size;have h4:w2.drew.heap.size=w2.heap.size:=rfl;rw[World.size_alloc];omega) ?_;intro A7 c7 w7 cT hb7 hg7 _;have d3:=mh ((k3.alloc _).grown hg7 (by simp[Value.ownBlock]))))
 have hown8:=yB (ys:=[.string ⟨#[117,100,112,32,49,46,50,46,51,46,52,58,53,62,54,46,55,46,56,46,57,58,53,51,61,50,47,49,64,48]⟩]) cT (by kernel_rfl)
 have HY:Hid (Below w.heap.size w w7):=by
  have h1:=HX.out.2.size
  have h2:=al.size
  have h4:w2.drew.heap.size=w2.heap.size:=rfl
  exact(((HX.out.2.drew).trans (al.mono (by omega))).trans ((bR w.heap.size w3).alloc (by omega) _)).trans hb7
 obtain⟨b7,o7,hA7,hbl7,hcl7⟩:=(Reads.of_own hown8).plain (by decide) (by decide)
 subst hA7
 have hcap:=(dN hown8).1
 have CJ:=jH (nj b7 o7 c7 [⟨#[117,100,112,32,49,46,50,46,51,46,52,58,53,62,54,46,55,46,56,46,57,58,53,51,61,50,47,49,64,48]⟩] ⟨#[59,32]⟩ w7 (fun j x hx=>hcl7 j _ (by
  match j,hx with
  |0,hx=>injection hx with hx;subst hx;rfl
  |j + 1,hx=>simp at hx)) hbl7 (by decide) hcap (by decide))
 clear cT hown8 hb7 hg7 al k3 d0 d1 d2 d3 HX hcl7 hbl7 hcap I0 I1 I2
 go_wp2_with fail
 rw[rounds_succ]
 go_wp2_with fail
 refine CJ.out.mono ?_
 rintro e w9 ⟨rfl,hb9⟩
 have HZ:Hid (Below w.heap.size w w9):=HY.out.trans (hb9.mono HY.out.size)
 clear hb9 HY CJ
 go_wp2_with fail
 go_ret
 exact⟨by kernel_rfl,HZ.out⟩
end
section
open Go.RowKit Go.Maps
def dI:Be:=⟨((2:Nat):Int),jj 10 0 0 1,((1:Nat):Int)⟩
def kA:Tu:=⟨16909060,101124105,17,5,53⟩
theorem EE:dD [dI]:=fun b hb=>by
 rw[List.mem_singleton] at hb
 subst hb
 exact⟨by decide,by decide,by decide⟩
theorem EF:dz [dI].length [dI]:=⟨by decide,fun j hj=>by
 obtain rfl:j=0:=by simp at hj;omega
 exact⟨by decide,by decide,by decide,by decide,by decide,fun h=>absurd h (by decide)⟩⟩
section
variable {w:World}{aa cp:Nat}{p:BP}{il:List It}
theorem ML.fr {w w':World}{K:List TypeId}{M:List Nat}{aa:Nat}(h:ML w)(hf:Fr K M aa w w')(h0:0 < aa):ML w':=h.below hf.below h0
theorem ER (hm:ML w)(h0:0 < aa)(hc:ab w cp 80 #[PT (some ⟨p.bp,0,none⟩)])(h:aM w aa p 13 8 30 200 20000 3 0 0 6 [] 0 [] [] il 1):
  Calls Pg 13 #[PT (some ⟨cp,0,none⟩),.string ⟨#[103,101,110,32,50,64,49,48,46,48,46,48,46,49,42,49]⟩] w fun e w'=>e=rT (.string ⟨#[111,107]⟩)∧aM w' aa p 13 8 30 200 20000 3 (0 + 1) 0 (6 + 9) ([]++[aE.gen (0 + 1) ([dI].map (aX 3))]) 0 [dI] [] il (1 + 1)∧Fr KB p.maps aa w w':=by
 refine lN cp ⟨#[103,101,110,32,50,64,49,48,46,48,46,48,46,49,42,49]⟩ ⟨#[103,101,110]⟩ [⟨#[50,64,49,48,46,48,46,48,46,49,42,49]⟩] ⟨#[111,107]⟩ (fun w'=>aM w' aa p 13 8 30 200 20000 3 (0 + 1) 0 (6 + 9) ([]++[aE.gen (0 + 1) ([dI].map (aX 3))]) 0 [dI] [] il (1 + 1)∧Fr KB p.maps aa w w') w (by decide) hm (by decide) (by decide +kernel) (by decide +kernel) (by decide +kernel) ?_ ?_
 ·intro W hW
  refine(E2 cp p.bp 0 (by decide) W (hc.below hW hc.lt) ?_).mono ?_
  ·refine(kP (h.made hW)).mono ?_
   rintro e w' ⟨A',c',v,fs,rfl,-,-,ho,hb⟩
   obtain⟨A2,c2,rfl⟩:=cV ho
   exact⟨⟨A',_,c',A2,_,c2,rfl⟩,hb⟩
  ·rintro e w' ⟨⟨t,rfl⟩,hb⟩
   exact⟨⟨t,true,rfl,fun _=>by decide⟩,hb⟩
 ·intro W wp hW hwd hwp
  refine xm cp wp ⟨#[111,107]⟩ (fun A c W2=>W2.ownsRow W.heap.size 34 3 (G A 1 c) 1 (aC [dI])∧cn W2 wp []∧Below wp W W2) _ W ?_ ?_
  ·refine(uK wp ⟨#[50,64,49,48,46,48,46,48,46,49,42,49]⟩ dI W hwd (fun W2 hW2=>?_)).mono ?_
   ·exact By ⟨#[50,64,49,48,46,48,46,48,46,49,42,49]⟩ ⟨#[49,48,46,48,46,48,46,49,42,49]⟩ ⟨#[49,48,46,48,46,48,46,49]⟩ 2 1 (jj 10 0 0 1) (by decide) (by decide) (by decide) (by decide) W2 ((hm.below hW (by have:=hm.lt;omega)).below hW2 (by have:=hm.lt;omega)) (by decide) (by decide) (by decide +kernel) (by decide +kernel) (by decide +kernel) (by decide +kernel) (by decide +kernel) (fun W hW=>nz ⟨#[49,48,46,48,46,48,46,49]⟩ 10 0 0 1 (by decide) (by decide) (by decide) (by decide) W hW (by decide) (by decide +kernel) (by decide +kernel))
   ·rintro e w' ⟨A,c,rfl,q1,q2,q3⟩
    exact⟨A,c,rfl,q1,q2,q3⟩
  ·rintro A c W2 ⟨q1,q2,q3⟩
   have hW2:Below w.heap.size w W2:=hW.trans (q3.mono hwp)
   refine(oT aa cp p.bp wp _ _ _ _ _ _ _ (fun w'=>aM w' aa p 13 8 30 200 20000 3 (0 + 1) 0 (6 + 9) ([]++[aE.gen (0 + 1) ([dI].map (aX 3))]) 0 [dI] [] il (1 + 1)) KB p.maps W2 (hc.below hW2 hc.lt) q2 (nT h.hi hW2.size) (by decide) (by decide) (by decide) (fun a b ha hf=>ha.fr hf (by decide)) (fun W3 hW3=>?_)).mono ?_
   ·refine qi ((h.made hW2).made hW3) A 1 c [dI] (by decide) EE EF (by decide) (by decide) (by decide) (by decide) (fun W4 hW4=>?_)
    have hb34:Below W2.heap.size W2 W4:=hW3.trans (hW4.mono hW3.size)
    have q4:=aJ q1 hb34
    exact Bt A c W4.heap.size dI W4 (Reads.of_own q4) (nR _) (dN q4).1 (fun e=>gA q4 e)
   ·rintro e w' ⟨rfl,g1,g2⟩
    exact⟨rfl,g1,(Fr.of_below _ _ hW2 h.hi).trans g2⟩
theorem EP {ops:Nat}{rs:List aE}{made:Int}(aP:ops≤1000)(hL:rs.length≤5)(hm:ML w)(h0:0 < aa)(hc:ab w cp 80 #[PT (some ⟨p.bp,0,none⟩)])(h:aM w aa p 13 8 30 200 20000 3 1 0 ops rs 0 [dI] [] il made):
  Calls Pg 13 #[PT (some ⟨cp,0,none⟩),.string ⟨#[115,101,110,100,32,117,100,112,32,49,46,50,46,51,46,52,58,53,62,54,46,55,46,56,46,57,58,53,51]⟩] w fun e w'=>e=rT (.string ⟨#[116,111,32,50]⟩)∧(∃l',aM w' aa p 13 8 30 200 20000 3 1 0 (ops + 9) (rs++[aE.put (aT 3 eW)]) 0 [dI] (aw [] kA eW) l' made)∧Fr KB p.maps aa w w':=by
 refine lN cp ⟨#[115,101,110,100,32,117,100,112,32,49,46,50,46,51,46,52,58,53,62,54,46,55,46,56,46,57,58,53,51]⟩ ⟨#[115,101,110,100]⟩ [⟨#[117,100,112]⟩,⟨#[49,46,50,46,51,46,52,58,53,62,54,46,55,46,56,46,57,58,53,51]⟩] ⟨#[116,111,32,50]⟩ (fun w'=>(∃l',aM w' aa p 13 8 30 200 20000 3 1 0 (ops + 9) (rs++[aE.put (aT 3 eW)]) 0 [dI] (aw [] kA eW) l' made)∧Fr KB p.maps aa w w') w (by decide) hm (by decide) (by decide +kernel) (by decide +kernel) (by decide +kernel) ?_ ?_
 ·intro W hW
  refine(EZ cp W).mono ?_
  rintro e w' ⟨rfl,rfl⟩
  exact⟨⟨_,false,rfl,fun h=>by cases h⟩,bR _ _⟩
 ·intro W wp hW hwd hwp
  refine xl cp wp ⟨#[116,111,32,50]⟩ kA.vals (fun W2=>cn W2 wp []∧Below wp W W2) (fun A n c W3=>n=(bU kA 64).length∧(∃B,wp≤B∧W3.ownsRow B 5 1 (G A n c) n (bv (bU kA 64)))∧cn W3 wp []∧Below wp W W3) _ W ?_ ?_ ?_
  ·refine ur wp ⟨#[117,100,112]⟩ ⟨#[49,46,50,46,51,46,52,58,53,62,54,46,55,46,56,46,57,58,53,51]⟩ 16909060 101124105 17 5 53 W hwd (by decide) (fun W2 hW2=>?_)
   have hm2:ML W2:=(hm.below hW (by have:=hm.lt;omega)).below hW2 (by have:=hm.lt;omega)
   exact vu ⟨#[117,100,112,32,49,46,50,46,51,46,52,58,53,62,54,46,55,46,56,46,57,58,53,51]⟩ ⟨#[49,46,50,46,51,46,52,58,53,62,54,46,55,46,56,46,57,58,53,51]⟩ ⟨#[49,46,50,46,51,46,52,58,53]⟩ ⟨#[54,46,55,46,56,46,57,58,53,51]⟩ (jj 1 2 3 4) (jj 6 7 8 9) 5 53 W2 hm2 (by decide) (by decide) (by decide) (by decide +kernel) (by decide +kernel)
    (fun W hW=>qo ⟨#[49,46,50,46,51,46,52,58,53]⟩ ⟨#[49,46,50,46,51,46,52]⟩ (jj 1 2 3 4) 5 (by decide) W hW (by decide) (by decide +kernel) (fun W hW=>nz ⟨#[49,46,50,46,51,46,52]⟩ 1 2 3 4 (by decide) (by decide) (by decide) (by decide) W hW (by decide) (by decide +kernel) (by decide +kernel)))
    (fun W hW=>qo ⟨#[54,46,55,46,56,46,57,58,53,51]⟩ ⟨#[54,46,55,46,56,46,57]⟩ (jj 6 7 8 9) 53 (by decide) W hW (by decide) (by decide +kernel) (fun W hW=>nz ⟨#[54,46,55,46,56,46,57]⟩ 6 7 8 9 (by decide) (by decide) (by decide) (by decide) W hW (by decide) (by decide +kernel) (by decide +kernel)))
  ·rintro W2 ⟨q1,q2⟩
   refine(Dy 16909060 101124105 5 53 (by decide) (by decide) W2).mono ?_
   rintro e w' ⟨A,N,c,rfl,e1,e2,e3⟩
   have au:=q1.lt
   exact⟨A,N,c,rfl,e1,⟨_,Nat.le_of_lt au,e2⟩,q1.below e3,q2.trans (e3.mono (Nat.le_of_lt au))⟩
  ·rintro A n c W3 ⟨rfl,⟨B,hB,ho⟩,q1,q2⟩
   have hW3:Below w.heap.size w W3:=hW.trans (q2.mono hwp)
   have hh:=h.made hW3
   obtain⟨bid,⟨b,ae,af,al⟩,hfo,HD⟩:=qh hh kA 64 ⟨by decide,by decide,by decide,by decide,by decide⟩ (by decide) (by decide) (by decide) A _ c W3.heap.size (Reads.of_own ho) (nR _) (dN ho).1 rfl (by decide) (by decide) (by decide) (by decide) (by omega) (by omega) (by omega)
   obtain rfl:bid=2:=by
    rw[List.mem_singleton] at ae
    subst ae
    have:(2:Int)=(bid:Int):=al
    omega
   refine(Dh aa cp p.bp wp 2 (by decide) A _ c (fun w'=>∃l',aM w' aa p 13 8 30 200 20000 3 1 0 (ops + 9) (rs++[aE.put (aT 3 eW)]) 0 [dI] (aw [] kA eW) l' made) KB p.maps W3 (hc.below hW3 hc.lt) q1 (nT h.hi hW3.size) (fun a b ⟨l',ha⟩ hf=>⟨l',ha.fr hf (by decide)⟩) ?_).mono ?_
   ·refine HD.mono ?_
    rintro e w' ⟨g1,⟨l',g2,g3⟩,g4⟩
    exact⟨g1,⟨l',g3⟩,g4⟩
   ·rintro e w' ⟨rfl,g1,g2⟩
    exact⟨rfl,g1,(Fr.of_below _ _ hW3 h.hi).trans g2⟩
theorem EO {gen now ops n0:Nat}{rs:List aE}{bl:List Be}{fm:List (Tu×Fl)}{made:Int}(aP:ops≤1000)(hrs:rs.length≤100)(hm:ML w)(h0:0 < aa)(hc:ab w cp 80 #[PT (some ⟨p.bp,0,none⟩)])(h:aM w aa p 13 8 30 200 20000 3 gen now ops rs n0 bl fm il made):
  Calls Pg 13 #[PT (some ⟨cp,0,none⟩),.string ⟨#[115,121,110,99]⟩] w fun e w'=>e=rT (.string ⟨#[111,107]⟩)∧aM w' aa p 13 8 30 200 20000 3 gen now (ops + 1) rs rs.length bl fm il made∧Fr iU p.maps aa w w':=by
 refine lN cp ⟨#[115,121,110,99]⟩ ⟨#[115,121,110,99]⟩ [] ⟨#[111,107]⟩ (fun w'=>aM w' aa p 13 8 30 200 20000 3 gen now (ops + 1) rs rs.length bl fm il made∧Fr iU p.maps aa w w') w (by decide) hm (by decide) (by decide +kernel) (by decide +kernel) (by decide +kernel) ?_ ?_
 ·intro W hW
  refine(EY cp W).mono ?_
  rintro e w' ⟨rfl,rfl⟩
  exact⟨⟨_,false,rfl,fun h=>by cases h⟩,bR _ _⟩
 ·intro W wp hW hwd hwp
  refine xh cp wp ⟨#[111,107]⟩ _ W ?_
  refine(oT aa cp p.bp wp _ _ _ _ _ _ _ (fun w'=>aM w' aa p 13 8 30 200 20000 3 gen now (ops + 1) rs rs.length bl fm il made) iU p.maps W (hc.below hW hc.lt) hwd (nT h.hi hW.size) (by decide) (by decide) (by decide) (fun a b ha hf=>ha.fr hf (by decide)) (fun W3 hW3=>qg ((h.made hW).made hW3) (by omega) (by have:=jy rs;omega))).mono ?_
  rintro e w' ⟨rfl,g1,g2⟩
  exact⟨rfl,g1,(Fr.of_below _ _ hW h.hi).trans g2⟩
theorem ET {gen now ops:Nat}{rs:List aE}{bl:List Be}{fm:List (Tu×Fl)}{made:Int}(g':Nat)(bl':List Be)(f':Fl)(hrs:aS rs=(g',bl',[(f'.k,f')]))(ax:rs.length≤200)(hfok:cI f')(hb16:bl'.length≤16)(aV:now≤1099511627776)(aP:ops≤1000)(hm:ML w)(h0:0 < aa)(hc:ab w cp 80 #[PT (some ⟨p.bp,0,none⟩)])(h:aM w aa p 13 8 30 200 20000 3 gen now ops rs rs.length bl fm il made):
  Calls Pg 13 #[PT (some ⟨cp,0,none⟩),.string ⟨#[99,114,97,115,104,32,45]⟩] w fun e w'=>e=rT (.string ⟨#[111,107]⟩)∧(∃ops' p' il',ops'≤ops + 3∧p'.bp=p.bp∧aM w' aa p' 13 8 30 200 20000 3 g' now ops' rs rs.length bl' (bA (seenAt now [f'])) il' 1)∧Fr KC [] aa w w':=by
 refine lN cp ⟨#[99,114,97,115,104,32,45]⟩ ⟨#[99,114,97,115,104]⟩ [⟨#[45]⟩] ⟨#[111,107]⟩ (fun w'=>(∃ops' p' il',ops'≤ops + 3∧p'.bp=p.bp∧aM w' aa p' 13 8 30 200 20000 3 g' now ops' rs rs.length bl' (bA (seenAt now [f'])) il' 1)∧Fr KC [] aa w w') w (by decide) hm (by decide) (by decide +kernel) (by decide +kernel) (by decide +kernel) ?_ ?_
 ·intro W hW
  refine(E4 cp W).mono ?_
  rintro e w' ⟨rfl,rfl⟩
  exact⟨⟨_,false,rfl,fun h=>by cases h⟩,bR _ _⟩
 ·intro W wp hW hwd hwp
  refine xq cp wp ⟨#[111,107]⟩ (fun W2=>cn W2 wp []∧Below wp W W2) _ W (uJ wp W hwd) ?_
  rintro W2 ⟨q1,q2⟩
  have hW2:Below w.heap.size w W2:=hW.trans (q2.mono hwp)
  refine(oT aa cp p.bp wp _ _ _ _ _ _ _ (fun w'=>∃ops' p' il',ops'≤ops + 3∧p'.bp=p.bp∧aM w' aa p' 13 8 30 200 20000 3 g' now ops' rs rs.length bl' (bA (seenAt now [f'])) il' 1) KC [] W2 (hc.below hW2 hc.lt) q1 (nT h.hi hW2.size) (by decide) (by decide) (by decide) (fun a b ha hf=>by obtain⟨ops',p',il',q0,q1,ha⟩:=ha;exact⟨ops',p',il',q0,q1,ha.fr hf (by decide)⟩) (fun W3 hW3=>?_)).mono ?_
  ·refine(qj ((h.made hW2).made hW3) none 0 0 0 [] Reads.none_ (Nat.zero_le _) (nR _) (by decide) (fun x hx=>by simp at hx) ax (by omega) (fun M h1 h2=>?_) aV (by decide) (by decide) (by decide) (by decide)).mono ?_
   ·obtain rfl:M=rs.length:=by omega
    rw[List.take_length,hrs]
    exact⟨by simpa using hfok,by simp,by simp,hb16⟩
   ·rintro e w' ⟨rfl,⟨M,ops',p',il',fs,g1,g2,g3,g4,g5,g6⟩,g7⟩
    obtain rfl:M=rs.length:=by omega
    rw[List.take_length,hrs] at g5 g6
    obtain rfl:fs=[f']:=List.perm_singleton.1 g5
    exact⟨rfl,⟨ops',p',il',g3,g4,g6⟩,g7⟩
  ·rintro e w' ⟨rfl,g1,g2⟩
   exact⟨rfl,g1,(Fr.of_below _ _ hW2 h.hi).trans g2⟩
theorem ES {gen now ops n0:Nat}{rs:List aE}{bl:List Be}{made:Int}(hm:ML w)(hc:ab w cp 80 #[PT (some ⟨p.bp,0,none⟩)])(h:aM w aa p 13 8 30 200 20000 3 gen now ops rs n0 bl (bA [eW]) il made):
  Calls Pg 13 #[PT (some ⟨cp,0,none⟩),.string ⟨#[102,108,111,119,115]⟩] w fun e w'=>e=rT (.string ⟨#[117,100,112,32,49,46,50,46,51,46,52,58,53,62,54,46,55,46,56,46,57,58,53,51,61,50,47,49,64,48]⟩)∧Below w.heap.size w w':=by
 refine zY cp ⟨#[102,108,111,119,115]⟩ ⟨#[102,108,111,119,115]⟩ [] ⟨#[117,100,112,32,49,46,50,46,51,46,52,58,53,62,54,46,55,46,56,46,57,58,53,51,61,50,47,49,64,48]⟩ (fun w'=>Below w.heap.size w w') w (by decide) hm (by decide) (by decide +kernel) (by decide +kernel) (by decide +kernel) rfl ?_
 intro W hW
 refine(E3 cp ⟨#[117,100,112,32,49,46,50,46,51,46,52,58,53,62,54,46,55,46,56,46,57,58,53,51,61,50,47,49,64,48]⟩ W ?_).mono ?_
 ·refine(D4 cp p.bp gen W (hc.below hW hc.lt) ((kP (h.made hW)).mono ?_))
  rintro e w' ⟨A',c',v,fs,rfl,-,g2,ho,hb⟩
  obtain rfl:fs=[eW]:=List.perm_singleton.1 g2
  obtain⟨A2,c2,rfl⟩:=cV ho
  exact⟨⟨A',_,c',A2,c2,rfl,ho⟩,hb⟩
 ·rintro e w' ⟨rfl,hb⟩
  exact⟨rfl,hW.trans (hb.mono hW.size)⟩
end
end
section
open Go.RowKit Go.Maps
def jP:List aE:=[.gen 1 [dI],.put eW]
theorem EU:aS jP=(1,[dI],[(kA,eW)]):=rfl
theorem EV:cI eW:=⟨⟨by decide,by decide,by decide,by decide,by decide⟩,by decide,by decide,by decide,by decide⟩
theorem EN (w:World)(hm:ML w):Calls Pg 5 #[] w fun e w'=>e=rT (bL true)∧Below w.heap.size w w':=by
 have au:=hm.lt
 have HM:=jH hm
 have CN:=jH (DM w)
 clear hm
 go_enter func5,ntmps5
 go_wp2_with fail
 refine CN.out.mono ?_
 rintro e w1 ⟨cp,aa,p,il,rfl,hle,hc,hb,ae⟩
 have H1:Hid (w.heap.size≤aa∧ab w1 cp 80 #[PT (some ⟨p.bp,0,none⟩)]∧aM w1 aa p 13 8 30 200 20000 3 0 0 6 [] 0 [] [] il 1∧Below w.heap.size w w1∧ML w1∧0 < aa):=⟨hle,hc,hb,ae,HM.out.below ae au,by omega⟩
 clear hle hc hb ae CN au
 go_wp2_with fail
 refine(ER H1.out.2.2.2.2.1 H1.out.2.2.2.2.2 H1.out.2.1 H1.out.2.2.1).mono ?_
 rintro e w2 ⟨rfl,af,hf2⟩
 have H2:Hid (ab w2 cp 80 #[PT (some ⟨p.bp,0,none⟩)]∧aM w2 aa p 13 8 30 200 20000 3 1 0 15 [.gen 1 [dI]] 0 [dI] [] il 2∧Below aa w1 w2∧ML w2):=⟨hf2.blk _ _ _ H1.out.2.1 (by decide),af,hf2.below,H1.out.2.2.2.2.1.fr hf2 H1.out.2.2.2.2.2⟩
 clear af hf2
 go_wp2_with fail
 refine(EP (by decide) (by decide) H2.out.2.2.2 H1.out.2.2.2.2.2 H2.out.1 H2.out.2.1).mono ?_
 rintro e w3 ⟨rfl,⟨l',al⟩,hf3⟩
 have H3:Hid (ab w3 cp 80 #[PT (some ⟨p.bp,0,none⟩)]∧aM w3 aa p 13 8 30 200 20000 3 1 0 24 jP 0 [dI] (aw [] kA eW) l' 2∧Below aa w2 w3∧ML w3):=⟨hf3.blk _ _ _ H2.out.1 (by decide),al,hf3.below,H2.out.2.2.2.fr hf3 H1.out.2.2.2.2.2⟩
 clear al hf3
 go_wp2_with fail
 refine(EO (by decide) (by decide) H3.out.2.2.2 H1.out.2.2.2.2.2 H3.out.1 H3.out.2.1).mono ?_
 rintro e w4 ⟨rfl,aq,hf4⟩
 have H4:Hid (ab w4 cp 80 #[PT (some ⟨p.bp,0,none⟩)]∧aM w4 aa p 13 8 30 200 20000 3 1 0 25 jP jP.length [dI] (aw [] kA eW) l' 2∧Below aa w3 w4∧ML w4):=⟨hf4.blk _ _ _ H3.out.1 (by decide),aq,hf4.below,H3.out.2.2.2.fr hf4 H1.out.2.2.2.2.2⟩
 clear aq hf4
 go_wp2_with fail
 refine(ET 1 [dI] eW EU (by decide) EV (by decide) (by decide) (by decide) H4.out.2.2.2 H1.out.2.2.2.2.2 H4.out.1 H4.out.2.1).mono ?_
 rintro e w5 ⟨rfl,⟨ops',p',il',-,hp',aK⟩,hf5⟩
 have H5:Hid (ab w5 cp 80 #[PT (some ⟨p'.bp,0,none⟩)]∧aM w5 aa p' 13 8 30 200 20000 3 1 0 ops' jP jP.length [dI] (bA [eW]) il' 1∧Below aa w4 w5∧ML w5):=⟨by rw[hp'];exact hf5.blk _ _ _ H4.out.1 (by decide),aK,hf5.below,H4.out.2.2.2.fr hf5 H1.out.2.2.2.2.2⟩
 clear aK hf5 hp'
 go_wp2_with fail
 refine(ES H5.out.2.2.2 H5.out.1 H5.out.2.1).mono ?_
 rintro e w6 ⟨rfl,hb6⟩
 have HF:Hid (Below w.heap.size w w6):=by
  have h1:=H1.out.2.2.2.1
  have h0:=H1.out.1
  have h2:=H2.out.2.2.1
  have h3:=H3.out.2.2.1
  have h4:=H4.out.2.2.1
  have h5:=H5.out.2.2.1
  exact h1.trans ((((h2.trans h3).trans h4).trans h5).mono h0) |>.trans (hb6.mono (by have:=h1.size;have:=h2.size;have:=h3.size;have:=h4.size;have:=h5.size;omega))
 clear hb6 H1 H2 H3 H4 H5
 go_wp2
 go_ret
 exact⟨rfl,HF.out⟩
end
end Go.Proofs.YtgjnoccflmjheaaGreatDoor
