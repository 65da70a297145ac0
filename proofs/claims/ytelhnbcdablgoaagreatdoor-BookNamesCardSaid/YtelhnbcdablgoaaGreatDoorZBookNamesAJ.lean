/- Of the proof of BookNames: Lay, BW17. -/
import Derived.Test.YtelhnbcdablgoaaGreatDoorZBookNamesAA
import Derived.Shelf.Strings.Builder1
import Derived.Shelf.LaysM
import Derived.Shelf.Strconv.Itoa3
import Derived.Shelf.LaysC
import Derived.Shelf.Strconv.AtoiAll
import Derived.Shelf.Strings.Split
import Derived.Test.YtelhnbcdablgoaaGreatDoorProg
import Derived.Test.YtelhnbcdablgoaaGreatDoorZBookNamesAI
namespace Go.Proofs
open Go.Shelf
def Tryz.lays169_ren:Go.Shelf.Ren:=⟨fun|169=>53|n=>n,fun|70=>113|9=>9|0=>0|72=>115|37=>51|127=>224|3=>3|5=>5|n=>n,fun|n=>n⟩
theorem Tryz.lays169:Go.Proofs.Lays.n169 Tryz.prog Tryz.lays169_ren:={
 mixed:=by kernel_rfl
 f169:=Tryz.func53.trans (aXV some Yf)
 t0:=Tryz.underlying0
 a0:=Tryz.isAgg0
 z0:=Tryz.sizeOf0
 v0:=Tryz.zeroValue0
 t3:=Tryz.underlying3
 a3:=Tryz.isAgg3
 z3:=Tryz.sizeOf3
 v3:=Tryz.zeroValue3
 t9:=Tryz.underlying9
 a9:=Tryz.isAgg9
 z9:=Tryz.sizeOf9
 v9:=Tryz.zeroValue9
 t37:=Tryz.underlying51
 a37:=Tryz.isAgg51
 z37:=Tryz.sizeOf51
 v37:=Tryz.zeroValue51
 t70:=Tryz.underlying113
 a70:=Tryz.isAgg113
 z70:=Tryz.sizeOf113
 v70:=Tryz.zeroValue113
 t72:=Tryz.underlying115
 a72:=Tryz.isAgg115
 z72:=Tryz.sizeOf115
 v72:=Tryz.zeroValue115
 t127:=Tryz.underlying224
 a127:=Tryz.isAgg224
 z127:=Tryz.sizeOf224
 v127:=Tryz.zeroValue224}
theorem Tryz.Builder_Extra_169:Builder.Extra Tryz.prog Tryz.lays169_ren:={
 sizeBuilder:=by kernel_rfl
 liesBuilder:=by kernel_rfl
 t5:=Tryz.underlying5
 a5:=Tryz.isAgg5
 z5:=Tryz.sizeOf5
 v5:=Tryz.zeroValue5
 infoByte:=by kernel_rfl
 cellsByte:=by kernel_rfl
 sizeByte:=by kernel_rfl
 neB5:=by decide}
open Go.RowKit in
theorem Tryz.Builder_String_any(B b:Nat)(l:List UInt8)(w:World)(h:Lib.IsBuilder 115 5 B b (Lib.byteCells l) w)(hBw:B≤w.heap.size):
  Calls Tryz.prog 53 #[.pointer (some ⟨b,0,none⟩)] w fun e w'=>e=.returned (.string ⟨l.toArray⟩)∧Below B w w':=Any.Builder_String_any Tryz.lays169 Tryz.Builder_Extra_169 B b l w h hBw
def Tryz.laysM171_ren:Go.Shelf.Ren:=⟨fun|171=>42|243=>72|246=>125|283=>202|284=>203|285=>204|286=>205|129=>267|317=>266|318=>268|319=>269|320=>270|337=>296|338=>297|n=>n,fun|3=>3|9=>9|2=>2|4=>4|171=>339|0=>0|53=>340|37=>51|5=>5|173=>343|212=>388|51=>389|20=>20|213=>390|46=>391|232=>417|233=>418|n=>n,fun|17=>0|18=>4|19=>5|n=>n⟩
theorem Tryz.laysM171:Go.Proofs.LaysM.n171 Tryz.prog Tryz.laysM171_ren:={
 mixed:=by kernel_rfl
 f129:=Tryz.func267.trans (aXV some Yf)
 f171:=Tryz.func42.trans (aXV some Yf)
 f243:=Tryz.func72.trans (aXV some Yf)
 f246:=Tryz.func125.trans (aXV some Yf)
 f283:=Tryz.func202.trans (aXV some Yf)
 f284:=Tryz.func203.trans (aXV some Yf)
 f285:=Tryz.func204.trans (aXV some Yf)
 f286:=Tryz.func205.trans (aXV some Yf)
 f317:=Tryz.func266.trans (aXV some Yf)
 f318:=Tryz.func268.trans (aXV some Yf)
 f319:=Tryz.func269.trans (aXV some Yf)
 f320:=Tryz.func270.trans (aXV some Yf)
 f337:=Tryz.func296.trans (aXV some Yf)
 f338:=Tryz.func297.trans (aXV some Yf)
 t0:=Tryz.underlying0
 a0:=Tryz.isAgg0
 z0:=Tryz.sizeOf0
 v0:=Tryz.zeroValue0
 t2:=Tryz.underlying2
 a2:=Tryz.isAgg2
 z2:=Tryz.sizeOf2
 v2:=Tryz.zeroValue2
 t3:=Tryz.underlying3
 a3:=Tryz.isAgg3
 z3:=Tryz.sizeOf3
 v3:=Tryz.zeroValue3
 t4:=Tryz.underlying4
 a4:=Tryz.isAgg4
 z4:=Tryz.sizeOf4
 v4:=Tryz.zeroValue4
 t5:=Tryz.underlying5
 a5:=Tryz.isAgg5
 z5:=Tryz.sizeOf5
 v5:=Tryz.zeroValue5
 t9:=Tryz.underlying9
 a9:=Tryz.isAgg9
 z9:=Tryz.sizeOf9
 v9:=Tryz.zeroValue9
 t20:=Tryz.underlying20
 a20:=Tryz.isAgg20
 z20:=Tryz.sizeOf20
 v20:=Tryz.zeroValue20
 t37:=Tryz.underlying51
 a37:=Tryz.isAgg51
 z37:=Tryz.sizeOf51
 v37:=Tryz.zeroValue51
 t46:=Tryz.underlying391
 a46:=Tryz.isAgg391
 z46:=Tryz.sizeOf391
 v46:=Tryz.zeroValue391
 t51:=Tryz.underlying389
 a51:=Tryz.isAgg389
 z51:=Tryz.sizeOf389
 v51:=Tryz.zeroValue389
 t53:=Tryz.underlying340
 a53:=Tryz.isAgg340
 z53:=Tryz.sizeOf340
 v53:=Tryz.zeroValue340
 t171:=Tryz.underlying339
 a171:=Tryz.isAgg339
 z171:=Tryz.sizeOf339
 v171:=Tryz.zeroValue339
 t173:=Tryz.underlying343
 a173:=Tryz.isAgg343
 z173:=Tryz.sizeOf343
 v173:=Tryz.zeroValue343
 t212:=Tryz.underlying388
 a212:=Tryz.isAgg388
 z212:=Tryz.sizeOf388
 v212:=Tryz.zeroValue388
 t213:=Tryz.underlying390
 a213:=Tryz.isAgg390
 z213:=Tryz.sizeOf390
 t232:=Tryz.underlying417
 a232:=Tryz.isAgg417
 z232:=Tryz.sizeOf417
 v232:=Tryz.zeroValue417
 t233:=Tryz.underlying418
 a233:=Tryz.isAgg418
 z233:=Tryz.sizeOf418
 v233:=Tryz.zeroValue418
 g17:=by kernel_rfl
 g18:=by kernel_rfl
 g19:=by kernel_rfl
 i0:=by kernel_rfl
 i2:=by kernel_rfl
 i3:=by kernel_rfl
 i4:=by kernel_rfl
 i5:=by kernel_rfl
 i9:=by kernel_rfl
 i20:=by kernel_rfl
 i37:=by kernel_rfl
 i46:=by kernel_rfl
 i51:=by kernel_rfl
 i53:=by kernel_rfl
 i171:=by kernel_rfl
 i173:=by kernel_rfl
 i212:=by kernel_rfl
 i232:=by kernel_rfl
 i233:=by kernel_rfl
 m17:=by kernel_rfl
 m18:=by kernel_rfl
 m19:=by kernel_rfl}
open Go.RowKit Go.Sort Go.Lib in
theorem Tryz.strconv_Itoa(n:Int)(h0: -9223372036854775808≤n)(h1:n≤9223372036854775807)(w:World)(htab:Lib.TabIs Tryz.prog w "internal/strconv.uint64pow10" .u64 Lib.pow10Tab):
  Calls Tryz.prog 42 #[.int .i64 n] w fun e w'=>e=.returned (.string ⟨(Lib.itoa n).toArray⟩)∧∃k os,w'=grow (w.drewN k) os:=Any.strconv_Itoa Tryz.laysM171 n h0 h1 w htab
def Tryz.laysC172_ren:Go.Shelf.Ren:=⟨fun|172=>191|244=>261|245=>262|247=>291|279=>292|280=>293|281=>294|282=>295|287=>306|316=>307|171=>42|205=>308|321=>311|322=>312|243=>72|246=>125|283=>202|284=>203|285=>204|286=>205|129=>267|317=>266|318=>268|319=>269|320=>270|337=>296|338=>297|n=>n,fun|9=>9|3=>3|75=>117|76=>118|4=>4|5=>5|167=>402|37=>51|0=>0|85=>403|2=>2|168=>405|53=>340|175=>411|46=>391|210=>415|127=>224|145=>428|143=>426|21=>21|171=>339|173=>343|212=>388|51=>389|20=>20|213=>390|232=>417|233=>418|80=>139|n=>n,fun|15=>2|16=>3|17=>0|18=>4|19=>5|n=>n⟩
theorem Tryz.laysC172:Go.Proofs.LaysC.n172 Tryz.prog Tryz.laysC172_ren:={
 mixed:=by kernel_rfl
 f129:=Tryz.func267.trans (aXV some Yf)
 f171:=Tryz.func42.trans (aXV some Yf)
 f172:=Tryz.func191.trans (aXV some Yf)
 f205:=Tryz.func308.trans (aXV some Yf)
 f243:=Tryz.func72.trans (aXV some Yf)
 f244:=Tryz.func261.trans (aXV some Yf)
 f245:=Tryz.func262.trans (aXV some Yf)
 f246:=Tryz.func125.trans (aXV some Yf)
 f247:=Tryz.func291.trans (aXV some Yf)
 f279:=Tryz.func292.trans (aXV some Yf)
 f280:=Tryz.func293.trans (aXV some Yf)
 f281:=Tryz.func294.trans (aXV some Yf)
 f282:=Tryz.func295.trans (aXV some Yf)
 f283:=Tryz.func202.trans (aXV some Yf)
 f284:=Tryz.func203.trans (aXV some Yf)
 f285:=Tryz.func204.trans (aXV some Yf)
 f286:=Tryz.func205.trans (aXV some Yf)
 f287:=Tryz.func306.trans (aXV some Yf)
 f316:=Tryz.func307.trans (aXV some Yf)
 f317:=Tryz.func266.trans (aXV some Yf)
 f318:=Tryz.func268.trans (aXV some Yf)
 f319:=Tryz.func269.trans (aXV some Yf)
 f320:=Tryz.func270.trans (aXV some Yf)
 f321:=Tryz.func311.trans (aXV some Yf)
 f322:=Tryz.func312.trans (aXV some Yf)
 f337:=Tryz.func296.trans (aXV some Yf)
 f338:=Tryz.func297.trans (aXV some Yf)
 t0:=Tryz.underlying0
 a0:=Tryz.isAgg0
 z0:=Tryz.sizeOf0
 v0:=Tryz.zeroValue0
 t2:=Tryz.underlying2
 a2:=Tryz.isAgg2
 z2:=Tryz.sizeOf2
 v2:=Tryz.zeroValue2
 t3:=Tryz.underlying3
 a3:=Tryz.isAgg3
 z3:=Tryz.sizeOf3
 v3:=Tryz.zeroValue3
 t4:=Tryz.underlying4
 a4:=Tryz.isAgg4
 z4:=Tryz.sizeOf4
 v4:=Tryz.zeroValue4
 t5:=Tryz.underlying5
 a5:=Tryz.isAgg5
 z5:=Tryz.sizeOf5
 v5:=Tryz.zeroValue5
 t9:=Tryz.underlying9
 a9:=Tryz.isAgg9
 z9:=Tryz.sizeOf9
 v9:=Tryz.zeroValue9
 t20:=Tryz.underlying20
 a20:=Tryz.isAgg20
 z20:=Tryz.sizeOf20
 v20:=Tryz.zeroValue20
 t21:=Tryz.underlying21
 a21:=Tryz.isAgg21
 z21:=Tryz.sizeOf21
 v21:=Tryz.zeroValue21
 t37:=Tryz.underlying51
 a37:=Tryz.isAgg51
 z37:=Tryz.sizeOf51
 v37:=Tryz.zeroValue51
 t46:=Tryz.underlying391
 a46:=Tryz.isAgg391
 z46:=Tryz.sizeOf391
 v46:=Tryz.zeroValue391
 t51:=Tryz.underlying389
 a51:=Tryz.isAgg389
 z51:=Tryz.sizeOf389
 v51:=Tryz.zeroValue389
 t53:=Tryz.underlying340
 a53:=Tryz.isAgg340
 z53:=Tryz.sizeOf340
 v53:=Tryz.zeroValue340
 t75:=Tryz.underlying117
 a75:=Tryz.isAgg117
 z75:=Tryz.sizeOf117
 v75:=Tryz.zeroValue117
 t76:=Tryz.underlying118
 a76:=Tryz.isAgg118
 z76:=Tryz.sizeOf118
 v76:=Tryz.zeroValue118
 t85:=Tryz.underlying403
 a85:=Tryz.isAgg403
 z85:=Tryz.sizeOf403
 v85:=Tryz.zeroValue403
 t127:=Tryz.underlying224
 a127:=Tryz.isAgg224
 z127:=Tryz.sizeOf224
 v127:=Tryz.zeroValue224
 t143:=Tryz.underlying426
 a143:=Tryz.isAgg426
 z143:=Tryz.sizeOf426
 v143:=Tryz.zeroValue426
 t145:=Tryz.underlying428
 a145:=Tryz.isAgg428
 z145:=Tryz.sizeOf428
 v145:=Tryz.zeroValue428
 t167:=Tryz.underlying402
 a167:=Tryz.isAgg402
 z167:=Tryz.sizeOf402
 v167:=Tryz.zeroValue402
 t168:=Tryz.underlying405
 a168:=Tryz.isAgg405
 z168:=Tryz.sizeOf405
 v168:=Tryz.zeroValue405
 t171:=Tryz.underlying339
 a171:=Tryz.isAgg339
 z171:=Tryz.sizeOf339
 v171:=Tryz.zeroValue339
 t173:=Tryz.underlying343
 a173:=Tryz.isAgg343
 z173:=Tryz.sizeOf343
 v173:=Tryz.zeroValue343
 t175:=Tryz.underlying411
 a175:=Tryz.isAgg411
 z175:=Tryz.sizeOf411
 v175:=Tryz.zeroValue411
 t210:=Tryz.underlying415
 a210:=Tryz.isAgg415
 z210:=Tryz.sizeOf415
 v210:=Tryz.zeroValue415
 t212:=Tryz.underlying388
 a212:=Tryz.isAgg388
 z212:=Tryz.sizeOf388
 v212:=Tryz.zeroValue388
 t213:=Tryz.underlying390
 a213:=Tryz.isAgg390
 z213:=Tryz.sizeOf390
 t232:=Tryz.underlying417
 a232:=Tryz.isAgg417
 z232:=Tryz.sizeOf417
 v232:=Tryz.zeroValue417
 t233:=Tryz.underlying418
 a233:=Tryz.isAgg418
 z233:=Tryz.sizeOf418
 v233:=Tryz.zeroValue418
 g15:=by kernel_rfl
 g16:=by kernel_rfl
 g17:=by kernel_rfl
 g18:=by kernel_rfl
 g19:=by kernel_rfl
 t80:=Tryz.underlying139
 a80:=Tryz.isAgg139
 z80:=Tryz.sizeOf139
 v80:=Tryz.zeroValue139
 i0:=by kernel_rfl
 i2:=by kernel_rfl
 i3:=by kernel_rfl
 i4:=by kernel_rfl
 i5:=by kernel_rfl
 i9:=by kernel_rfl
 i20:=by kernel_rfl
 i21:=by kernel_rfl
 i37:=by kernel_rfl
 i46:=by kernel_rfl
 i51:=by kernel_rfl
 i53:=by kernel_rfl
 i75:=by kernel_rfl
 i76:=by kernel_rfl
 i80:=by kernel_rfl
 i85:=by kernel_rfl
 i127:=by kernel_rfl
 i143:=by kernel_rfl
 i145:=by kernel_rfl
 i167:=by kernel_rfl
 i168:=by kernel_rfl
 i171:=by kernel_rfl
 i173:=by kernel_rfl
 i175:=by kernel_rfl
 i210:=by kernel_rfl
 i212:=by kernel_rfl
 i232:=by kernel_rfl
 i233:=by kernel_rfl
 m15:=by kernel_rfl
 m16:=by kernel_rfl
 m17:=by kernel_rfl
 m18:=by kernel_rfl
 m19:=by kernel_rfl
 c0:=by kernel_rfl
 c2:=by kernel_rfl
 c3:=by kernel_rfl
 c4:=by kernel_rfl
 c5:=by kernel_rfl
 c9:=by kernel_rfl
 c20:=by kernel_rfl
 c21:=by kernel_rfl
 c37:=by kernel_rfl
 c46:=by kernel_rfl
 c51:=by kernel_rfl
 c53:=by kernel_rfl
 c75:=by kernel_rfl
 c76:=by kernel_rfl
 c80:=by kernel_rfl
 c85:=by kernel_rfl
 c127:=by kernel_rfl
 c143:=by kernel_rfl
 c145:=by kernel_rfl
 c167:=by kernel_rfl
 c168:=by kernel_rfl
 c171:=by kernel_rfl
 c173:=by kernel_rfl
 c175:=by kernel_rfl
 c210:=by kernel_rfl
 c212:=by kernel_rfl
 c213:=by kernel_rfl
 c232:=by kernel_rfl
 c233:=by kernel_rfl}
open Go.RowKit in
theorem Tryz.strconv_Atoi_ok(s:ByteArray)(hmax:s.size≤9223372036854775806)(v:Int)(h:Lib.atoiAll s.data.toList=.ok v)(w:World):
  Calls Tryz.prog 191 #[.string s] w fun e w'=>e=.returned (.tuple #[.int .i64 v,.nilIface])∧(w'=w∨∃t,w'=Lib.bytesWorld w 5 t):=Any.strconv_Atoi_ok Tryz.laysC172 s hmax v h w
open Go.RowKit in
theorem Tryz.strconv_Atoi_syntax(s:ByteArray)(hlim:s.size≤281474976710656)(h:Lib.atoiAll s.data.toList=Lib.atoiAll [])(ev:Value)(w:World)(hv:w.cell? ⟨2,0,none⟩=some ev)(hev:ev=.nilIface∨∃te pe,ev=.iface te pe):
  Calls Tryz.prog 191 #[.string s] w fun e w'=>∃N,e=.returned (.tuple #[.int .i64 (0),.iface 405 (.pointer (some ⟨N,0,none⟩))])∧w.heap.size≤N∧w'.heap[N]?= some (.cells #[.string ⟨#[65,116,111,105]⟩,.string s,ev] 415 (0,0))∧Below w.heap.size w w':=Any.strconv_Atoi_syntax Tryz.laysC172 s hlim h ev w hv hev
open Go.RowKit in
theorem Tryz.strconv_Atoi_range(s:ByteArray)(hlim:s.size≤281474976710656)(h:Lib.atoiAll s.data.toList=.range)(ev:Value)(w:World)(hv:w.cell? ⟨3,0,none⟩=some ev)(hev:ev=.nilIface∨∃te pe,ev=.iface te pe):
  Calls Tryz.prog 191 #[.string s] w fun e w'=>∃N,e=.returned (.tuple #[.int .i64 (Lib.atoiSat s.data.toList),.iface 405 (.pointer (some ⟨N,0,none⟩))])∧w.heap.size≤N∧w'.heap[N]?= some (.cells #[.string ⟨#[65,116,111,105]⟩,.string s,ev] 415 (0,0))∧Below w.heap.size w w':=Any.strconv_Atoi_range Tryz.laysC172 s hlim h ev w hv hev
def Tryz.lays146_ren:Go.Shelf.Ren:=⟨fun|146=>111|221=>167|268=>247|138=>248|143=>249|195=>287|197=>288|218=>289|219=>290|260=>301|217=>302|225=>303|224=>304|267=>305|266=>309|314=>310|n=>n,fun|9=>9|31=>22|3=>3|4=>4|0=>0|105=>399|21=>21|5=>5|46=>391|119=>419|139=>422|138=>421|146=>423|51=>389|n=>n,fun|1=>1|3=>6|4=>7|n=>n⟩
theorem Tryz.lays146:Go.Proofs.Lays.n146 Tryz.prog Tryz.lays146_ren:={
 mixed:=by kernel_rfl
 f138:=Tryz.func248.trans (aXV some Yf)
 f143:=Tryz.func249.trans (aXV some Yf)
 f146:=Tryz.func111.trans (aXV some Yf)
 f195:=Tryz.func287.trans (aXV some Yf)
 f197:=Tryz.func288.trans (aXV some Yf)
 f217:=Tryz.func302.trans (aXV some Yf)
 f218:=Tryz.func289.trans (aXV some Yf)
 f219:=Tryz.func290.trans (aXV some Yf)
 f221:=Tryz.func167.trans (aXV some Yf)
 f224:=Tryz.func304.trans (aXV some Yf)
 f225:=Tryz.func303.trans (aXV some Yf)
 f260:=Tryz.func301.trans (aXV some Yf)
 f266:=Tryz.func309.trans (aXV some Yf)
 f267:=Tryz.func305.trans (aXV some Yf)
 f268:=Tryz.func247.trans (aXV some Yf)
 f314:=Tryz.func310.trans (aXV some Yf)
 t0:=Tryz.underlying0
 a0:=Tryz.isAgg0
 z0:=Tryz.sizeOf0
 v0:=Tryz.zeroValue0
 t3:=Tryz.underlying3
 a3:=Tryz.isAgg3
 z3:=Tryz.sizeOf3
 v3:=Tryz.zeroValue3
 t4:=Tryz.underlying4
 a4:=Tryz.isAgg4
 z4:=Tryz.sizeOf4
 v4:=Tryz.zeroValue4
 t5:=Tryz.underlying5
 a5:=Tryz.isAgg5
 z5:=Tryz.sizeOf5
 v5:=Tryz.zeroValue5
 t9:=Tryz.underlying9
 a9:=Tryz.isAgg9
 z9:=Tryz.sizeOf9
 v9:=Tryz.zeroValue9
 t21:=Tryz.underlying21
 a21:=Tryz.isAgg21
 z21:=Tryz.sizeOf21
 v21:=Tryz.zeroValue21
 t31:=Tryz.underlying22
 a31:=Tryz.isAgg22
 z31:=Tryz.sizeOf22
 v31:=Tryz.zeroValue22
 t46:=Tryz.underlying391
 a46:=Tryz.isAgg391
 z46:=Tryz.sizeOf391
 v46:=Tryz.zeroValue391
 t51:=Tryz.underlying389
 a51:=Tryz.isAgg389
 z51:=Tryz.sizeOf389
 v51:=Tryz.zeroValue389
 t105:=Tryz.underlying399
 a105:=Tryz.isAgg399
 z105:=Tryz.sizeOf399
 v105:=Tryz.zeroValue399
 t119:=Tryz.underlying419
 a119:=Tryz.isAgg419
 z119:=Tryz.sizeOf419
 t138:=Tryz.underlying421
 a138:=Tryz.isAgg421
 z138:=Tryz.sizeOf421
 v138:=Tryz.zeroValue421
 t139:=Tryz.underlying422
 a139:=Tryz.isAgg422
 z139:=Tryz.sizeOf422
 v139:=Tryz.zeroValue422
 t146:=Tryz.underlying423
 a146:=Tryz.isAgg423
 z146:=Tryz.sizeOf423
 v146:=Tryz.zeroValue423
 g1:=by kernel_rfl
 g3:=by kernel_rfl
 g4:=by kernel_rfl}
open Go.RowKit Go.Lib in
theorem Tryz.strings_Split(s sep:ByteArray)(m:Int)(w:World)(hs:s.size<4294967281)(hm:w.cell? ⟨1,0,none⟩=some (.int .i64 m))(h1:1≤sep.size):
  Calls Tryz.prog 111 #[.string s,.string sep] w fun e w'=>
   e=.returned (.slice (some ⟨w.heap.size,0,none⟩) (Lib.countB s sep+1) (Lib.countB s sep+1))∧w'=w.alloc (.cells ((Lib.splitB sep 0 (Lib.countB s sep) s).map Value.string).toArray 9):=Any.strings_Split Tryz.lays146 Yf s sep m w hs hm h1
end Go.Proofs
namespace Go.Fs
open Go.Proofs Tryz
namespace L12
open C12 Go.Lib
structure mY(D:aC):Prop where
 tab:D 0=pow10Tab.map (Value.int .u64)
 maxLen:∃m,(D 1)[0]?= some (qI m)
 esyn:∃c,(D 2)[0]?= some c∧(c=.nilIface∨∃t u,c=.iface t u)
 erng:∃c,(D 3)[0]?= some c∧(c=.nilIface∨∃t u,c=.iface t u)
theorem mY.up{D D':aC}(h:mY D)(hl:Le D D'):mY D':=by
 obtain⟨h1,⟨m,h2⟩,⟨c,h3,h3'⟩,⟨e,h4,h4'⟩⟩:=h;exact⟨hl.2.trans h1,⟨m,hl.get h2⟩,⟨c,hl.get h3,h3'⟩,⟨e,hl.get h4,h4'⟩⟩
theorem mY.tabIs{D:aC}(h:mY D){w:World}(hw:eO D w):TabIs prog w "internal/strconv.uint64pow10" .u64 pow10Tab:=by
 have hg:prog.globalNamed "internal/strconv.uint64pow10" =some 0:=by kernel_rfl
 obtain⟨-, -,e,fz,h0⟩:=hw;unfold TabIs World.var?;rw[hg,Option.bind_some,h0,h.tab]
theorem IX(w:World)(e:TypeId)(t:ByteArray):Go.RowKit.Below w.heap.size w (bytesWorld w e t):=⟨rfl,rfl,rfl,by rw[bytesWorld_size];omega,fun b hb=>bytesWorld_at_old w e t b hb⟩
theorem IP(w:World)(k:Nat)(os:Array Obj):Go.RowKit.Below w.heap.size w (Go.Sort.grow (w.drewN k) os):=
 ⟨rfl,rfl,rfl,by show w.heap.size≤(w.heap++os).size;rw[Array.size_append];omega,fun b hb=>by show(w.heap++os)[b]?= _;rw[bAI hb]⟩
theorem P3(n:Int)(hn:xO .i64 n)(D:aC)(hV:mY D):Fn prog 42 #[qI n] D (fun _ v=>v=.string (qQ (itoa n))):=by
 have hb: -9223372036854775808≤n∧n≤9223372036854775807:=by simpa [xO]using hn
 refine Fn.of_below (EF.of func42 rfl rfl) fun w hw=>(Go.Proofs.Tryz.strconv_Itoa n hb.1 hb.2 w (hV.tabIs hw)).mono ?_
 rintro e w' ⟨rfl,k,os,rfl⟩;exact⟨_,rfl,IP w k os,fun _ _=>rfl⟩
theorem aBZ(s:ByteArray)(hs:s.size≤1000)(D:aC)(hV:mY D):Fn prog 111 #[.string s,.string ⟨#[32]⟩] D (fun D' v=>Sl D' RS 1 v (iY s)):=by
 obtain⟨m,hm⟩:=hV.maxLen;refine Fn.of_alloc (cs:=(iY s).map Value.string) (e:=9) (r:=fun b=>qS b (iY s).length (iY s).length) (EF.of func111 rfl rfl) (fun w hw=>(Go.Proofs.Tryz.strings_Split s ⟨#[32]⟩ m w Yd (hw.cell hm) Yad).mono ?_) fun D' b _ hA=>?_
 ·rintro e w' ⟨rfl,rfl⟩;rw[QV,JE];exact⟨rfl,rfl⟩
 ·have hl:(iY s).length≤1001:=by unfold iY;rw[aZL];exact bAM (RR _) (by show s.size+1≤1001;omega)
  refine⟨_,_,rfl,aYI _,by omega,aXR ⟨b,0,rfl,fun i x hi=>⟨_,rfl,rfl,fun j v hj=>?_⟩⟩⟩;cases j with
  |zero=>
   obtain rfl:Value.string x=v:=by simpa using hj
   have h:=hA i (.string x) (by rw[aYQ,hi];rfl);simpa using h
  |succ j=>simp at hj
theorem aMA(s:ByteArray)(hs:s.size≤1000)(D:aC)(hV:mY D):Fn prog 191 #[.string s] D (fun _ v=>∃m c,v=.tuple #[qI m,c]∧xO .i64 m∧((c=.nilIface∧atoiAll s.data.toList=.ok m)∨((∃t u,c=.iface t u)∧∀x,atoiAll s.data.toList≠.ok x))):=by
 refine Fn.of_below (EF.of func191 rfl rfl) fun w hw=>?_
 rcases h:atoiAll s.data.toList with v|_|_
 ·refine(Go.Proofs.Tryz.strconv_Atoi_ok s Yd v h w).mono ?_;rintro e w' ⟨rfl,hw'⟩;refine⟨_,rfl,?_,fun _ _=>⟨v,_,rfl,by have:=atoiAll_bounds h;simp only[xO];omega,aYF ⟨rfl,rfl⟩⟩⟩
  rcases hw' with rfl|⟨t,rfl⟩
  ·exact .refl _ _
  ·exact IX w _ t
 ·obtain⟨c,hc,hc'⟩:=hV.esyn;refine(Go.Proofs.Tryz.strconv_Atoi_syntax s Yd h c w (hw.cell hc) hc').mono ?_;rintro e w' ⟨N,rfl,_,_,hb⟩;exact⟨_,rfl,hb,fun _ _=>⟨0,_,rfl,by simp only[xO];omega,aXR ⟨⟨_,_,rfl⟩,fun x hx=>by cases hx⟩⟩⟩
 ·obtain⟨c,hc,hc'⟩:=hV.erng;refine(Go.Proofs.Tryz.strconv_Atoi_range s Yd h c w (hw.cell hc) hc').mono ?_;rintro e w' ⟨N,rfl,_,_,hb⟩;exact⟨_,rfl,hb,fun _ _=>⟨_,_,rfl,by unfold atoiSat;split<;>simp only[xO]<;>omega,aXR ⟨⟨_,_,rfl⟩,fun x hx=>by cases hx⟩⟩⟩
theorem aCQ{s:ByteArray}{m:Int}{c:Value}(h:(c=.nilIface∧atoiAll s.data.toList=.ok m)∨((∃t u,c=.iface t u)∧∀x,atoiAll s.data.toList≠.ok x)):R5 s.data.toList=if(((aAT c&&decide (m≥0))&&decide ((s.size:Int)≤3))&&decide (qQ (itoa m)=s))=true then some m else none:=by
 rw[←UG];unfold aKG;rcases h with⟨rfl,h⟩|⟨⟨t,u,rfl⟩,h⟩
 ·rw[h];have e:s.data.toList.length=s.size:=rfl;have G:(qQ (itoa m)=s) ↔ itoa m=s.data.toList:=⟨fun h=>by rw[←h];rfl,fun h=>by rw[h];exact LO s⟩
  simp only[aAT,bBL,aYB,aYM,e,G,and_assoc];congr 1;simp only[eq_iff_iff];constructor
  ·rintro⟨h1,h2,h3⟩;exact⟨h1,by omega,h3⟩
  ·rintro⟨h1,h2,h3⟩;exact⟨h1,by omega,h3⟩
 ·split
  ·rename_i v hv;exact absurd hv (h v)
  ·rfl
theorem aNF{s:ByteArray}{m:Int}{c:Value}(h:(c=.nilIface∧atoiAll s.data.toList=.ok m)∨((∃t u,c=.iface t u)∧∀x,atoiAll s.data.toList≠.ok x)):(((aAT c&&decide (m≥0))&&decide ((s.size:Int)≤3))&&decide (qQ (itoa m)=s))=true→R5 s.data.toList=some m:=fun hb=>by rw[aCQ h,aYJ hb]
theorem aRV{s:ByteArray}{m:Int}{c:Value}(h:(c=.nilIface∧atoiAll s.data.toList=.ok m)∨((∃t u,c=.iface t u)∧∀x,atoiAll s.data.toList≠.ok x)):(((aAT c&&decide (m≥0))&&decide ((s.size:Int)≤3))&&decide (qQ (itoa m)=s))=false→R5 s.data.toList=none:=fun hb=>by rw[aCQ h,aYC (by rw[hb];simp)]
theorem ZS(s:ByteArray)(hs:s.size≤1000)(D:aC)(hV:mY D):Fn prog 114 #[.string s] D (fun _ v=>∃m b,v=.tuple #[qI m,.bool b]∧(b=true→R5 s.data.toList=some m)∧(b=false→R5 s.data.toList=none)):=by
 refine enter 29 func114 rfl rfl rfl rfl fun h0=>aA<|Zj rfl<|Zj rfl<|aK<|Za rfl<|Zt rfl (fun Y I=>aMA s hs _ (hV.up (I _ Ye))) (fun Z Y I M=>?_)
 obtain⟨m,c,rfl,O,G⟩:=M;refine Za rfl<|Zad rfl<|Zad rfl<|Zj rfl<|Zj rfl<|aK<|Za rfl<|Za rfl<|PU rfl U117 rfl (by rcases G with⟨h,_⟩|⟨h,_⟩;exact Or.inl h;exact Or.inr h) rfl bCV<|Za rfl ?_
 refine' dM 3 (s:=14) (p:=17) rfl (fun R=>?_) (fun R=>?_) ?_;rotate_left
 ·refine Zb rfl<|rZ rfl rfl rfl rfl ⟨_,rfl,rfl⟩<|Zag rfl ?_;exact aR 2
 ·refine Zk rfl<|Zk rfl<|Zah rfl ?_;exact aR 2
 refine Za rfl ?_;refine' dM 4 (s:=18) (p:=22) rfl (fun T=>?_) (fun T=>?_) ?_;rotate_left
 ·refine Zb rfl<|lN rfl U9 rfl rfl rfl ⟨_,rfl,rfl⟩<|mL rfl rfl rfl rfl ⟨_,rfl,rfl⟩<|Zag rfl ?_;exact aR 3
 ·refine Zk rfl<|Zk rfl<|Zk rfl<|Zah rfl ?_;exact aR 3
 refine Za rfl ?_;refine' dM 5 (s:=23) (p:=28) rfl (fun U=>?_) (fun U=>?_) ?_;rotate_left
 ·refine Zb rfl<|Zd rfl (fun D2 V=>P3 m O _ (hV.up (V _ Ye)))<|Zb rfl<|yA rfl rfl rfl rfl ⟨_,rfl,rfl⟩<|Zag rfl ?_;exact aR 4
 ·refine Zk rfl<|Zk rfl<|Zk rfl<|Zk rfl<|Zah rfl ?_;exact aR 4
 refine Zj rfl<|Zj rfl<|aH ?_;exact jK (vs:=[_,_]) rfl rfl rfl bA (fun D hD=>⟨m,_,rfl,aNF G,aRV G⟩)
end L12
end Go.Fs
