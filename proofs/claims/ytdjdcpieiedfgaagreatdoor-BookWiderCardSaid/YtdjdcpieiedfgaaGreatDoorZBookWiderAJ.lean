/- Of the proof of BookWider: Lay, BW17. -/
import Derived.Test.YtdjdcpieiedfgaaGreatDoorZBookWiderAA
import Derived.Shelf.Strings.Builder1
import Derived.Shelf.LaysM
import Derived.Shelf.Strconv.Itoa3
import Derived.Shelf.LaysC
import Derived.Shelf.Strconv.AtoiAll
import Derived.Shelf.Strings.Split
import Derived.Test.YtdjdcpieiedfgaaGreatDoorProg
import Derived.Test.YtdjdcpieiedfgaaGreatDoorZBookWiderAI
namespace Go.Proofs
open Go.Shelf
def Tryz.lays169_ren:Go.Shelf.Ren:=⟨fun|169=>72|n=>n,fun|70=>135|9=>9|0=>0|72=>137|37=>99|127=>274|3=>3|5=>5|n=>n,fun|n=>n⟩
theorem Tryz.lays169:Go.Proofs.Lays.n169 Tryz.prog Tryz.lays169_ren:={
 mixed:=by kernel_rfl
 f169:=Tryz.func72.trans (aYY some Yg)
 t0:=Tryz.underlying0
 a0:=Tryz.isAgg0
 z0:=Tryz.sizeOf0
 v0:=Tryz.zeroValue0
 t3:=Tryz.underlying3
 a3:=Tryz.isAgg3
 z3:=Tryz.sizeOf3
 v3:=Tryz.zeroValue3
 t9:=Tryz.underlying9
 a9:=Tryz.isAgg9
 z9:=Tryz.sizeOf9
 v9:=Tryz.zeroValue9
 t37:=Tryz.underlying99
 a37:=Tryz.isAgg99
 z37:=Tryz.sizeOf99
 v37:=Tryz.zeroValue99
 t70:=Tryz.underlying135
 a70:=Tryz.isAgg135
 z70:=Tryz.sizeOf135
 v70:=Tryz.zeroValue135
 t72:=Tryz.underlying137
 a72:=Tryz.isAgg137
 z72:=Tryz.sizeOf137
 v72:=Tryz.zeroValue137
 t127:=Tryz.underlying274
 a127:=Tryz.isAgg274
 z127:=Tryz.sizeOf274
 v127:=Tryz.zeroValue274}
theorem Tryz.Builder_Extra_169:Builder.Extra Tryz.prog Tryz.lays169_ren:={
 sizeBuilder:=by kernel_rfl
 liesBuilder:=by kernel_rfl
 t5:=Tryz.underlying5
 a5:=Tryz.isAgg5
 z5:=Tryz.sizeOf5
 v5:=Tryz.zeroValue5
 infoByte:=by kernel_rfl
 cellsByte:=by kernel_rfl
 sizeByte:=by kernel_rfl
 neB5:=by decide}
open Go.RowKit in
theorem Tryz.Builder_String_any(B b:Nat)(l:List UInt8)(w:World)(h:Lib.IsBuilder 137 5 B b (Lib.byteCells l) w)(hBw:B≤w.heap.size):
  Calls Tryz.prog 72 #[.pointer (some ⟨b,0,none⟩)] w fun e w'=>e=.returned (.string ⟨l.toArray⟩)∧Below B w w':=Any.Builder_String_any Tryz.lays169 Tryz.Builder_Extra_169 B b l w h hBw
def Tryz.laysM171_ren:Go.Shelf.Ren:=⟨fun|171=>65|243=>131|246=>208|283=>305|284=>306|285=>307|286=>308|129=>360|317=>359|318=>361|319=>362|320=>363|337=>381|338=>382|n=>n,fun|3=>3|9=>9|2=>2|4=>4|171=>423|0=>0|53=>424|37=>99|5=>5|173=>427|212=>461|51=>462|20=>20|213=>463|46=>380|232=>488|233=>489|n=>n,fun|17=>0|18=>4|19=>5|n=>n⟩
theorem Tryz.laysM171:Go.Proofs.LaysM.n171 Tryz.prog Tryz.laysM171_ren:={
 mixed:=by kernel_rfl
 f129:=Tryz.func360.trans (aYY some Yg)
 f171:=Tryz.func65.trans (aYY some Yg)
 f243:=Tryz.func131.trans (aYY some Yg)
 f246:=Tryz.func208.trans (aYY some Yg)
 f283:=Tryz.func305.trans (aYY some Yg)
 f284:=Tryz.func306.trans (aYY some Yg)
 f285:=Tryz.func307.trans (aYY some Yg)
 f286:=Tryz.func308.trans (aYY some Yg)
 f317:=Tryz.func359.trans (aYY some Yg)
 f318:=Tryz.func361.trans (aYY some Yg)
 f319:=Tryz.func362.trans (aYY some Yg)
 f320:=Tryz.func363.trans (aYY some Yg)
 f337:=Tryz.func381.trans (aYY some Yg)
 f338:=Tryz.func382.trans (aYY some Yg)
 t0:=Tryz.underlying0
 a0:=Tryz.isAgg0
 z0:=Tryz.sizeOf0
 v0:=Tryz.zeroValue0
 t2:=Tryz.underlying2
 a2:=Tryz.isAgg2
 z2:=Tryz.sizeOf2
 v2:=Tryz.zeroValue2
 t3:=Tryz.underlying3
 a3:=Tryz.isAgg3
 z3:=Tryz.sizeOf3
 v3:=Tryz.zeroValue3
 t4:=Tryz.underlying4
 a4:=Tryz.isAgg4
 z4:=Tryz.sizeOf4
 v4:=Tryz.zeroValue4
 t5:=Tryz.underlying5
 a5:=Tryz.isAgg5
 z5:=Tryz.sizeOf5
 v5:=Tryz.zeroValue5
 t9:=Tryz.underlying9
 a9:=Tryz.isAgg9
 z9:=Tryz.sizeOf9
 v9:=Tryz.zeroValue9
 t20:=Tryz.underlying20
 a20:=Tryz.isAgg20
 z20:=Tryz.sizeOf20
 v20:=Tryz.zeroValue20
 t37:=Tryz.underlying99
 a37:=Tryz.isAgg99
 z37:=Tryz.sizeOf99
 v37:=Tryz.zeroValue99
 t46:=Tryz.underlying380
 a46:=Tryz.isAgg380
 z46:=Tryz.sizeOf380
 v46:=Tryz.zeroValue380
 t51:=Tryz.underlying462
 a51:=Tryz.isAgg462
 z51:=Tryz.sizeOf462
 v51:=Tryz.zeroValue462
 t53:=Tryz.underlying424
 a53:=Tryz.isAgg424
 z53:=Tryz.sizeOf424
 v53:=Tryz.zeroValue424
 t171:=Tryz.underlying423
 a171:=Tryz.isAgg423
 z171:=Tryz.sizeOf423
 v171:=Tryz.zeroValue423
 t173:=Tryz.underlying427
 a173:=Tryz.isAgg427
 z173:=Tryz.sizeOf427
 v173:=Tryz.zeroValue427
 t212:=Tryz.underlying461
 a212:=Tryz.isAgg461
 z212:=Tryz.sizeOf461
 v212:=Tryz.zeroValue461
 t213:=Tryz.underlying463
 a213:=Tryz.isAgg463
 z213:=Tryz.sizeOf463
 t232:=Tryz.underlying488
 a232:=Tryz.isAgg488
 z232:=Tryz.sizeOf488
 v232:=Tryz.zeroValue488
 t233:=Tryz.underlying489
 a233:=Tryz.isAgg489
 z233:=Tryz.sizeOf489
 v233:=Tryz.zeroValue489
 g17:=by kernel_rfl
 g18:=by kernel_rfl
 g19:=by kernel_rfl
 i0:=by kernel_rfl
 i2:=by kernel_rfl
 i3:=by kernel_rfl
 i4:=by kernel_rfl
 i5:=by kernel_rfl
 i9:=by kernel_rfl
 i20:=by kernel_rfl
 i37:=by kernel_rfl
 i46:=by kernel_rfl
 i51:=by kernel_rfl
 i53:=by kernel_rfl
 i171:=by kernel_rfl
 i173:=by kernel_rfl
 i212:=by kernel_rfl
 i232:=by kernel_rfl
 i233:=by kernel_rfl
 m17:=by kernel_rfl
 m18:=by kernel_rfl
 m19:=by kernel_rfl}
open Go.RowKit Go.Sort Go.Lib in
theorem Tryz.strconv_Itoa(n:Int)(h0: -9223372036854775808≤n)(h1:n≤9223372036854775807)(w:World)(htab:Lib.TabIs Tryz.prog w "internal/strconv.uint64pow10" .u64 Lib.pow10Tab):
  Calls Tryz.prog 65 #[.int .i64 n] w fun e w'=>e=.returned (.string ⟨(Lib.itoa n).toArray⟩)∧∃k os,w'=grow (w.drewN k) os:=Any.strconv_Itoa Tryz.laysM171 n h0 h1 w htab
def Tryz.laysC172_ren:Go.Shelf.Ren:=⟨fun|172=>289|244=>351|245=>352|247=>376|279=>377|280=>378|281=>379|282=>380|287=>388|316=>389|171=>65|205=>390|321=>393|322=>394|243=>131|246=>208|283=>305|284=>306|285=>307|286=>308|129=>360|317=>359|318=>361|319=>362|320=>363|337=>381|338=>382|n=>n,fun|9=>9|3=>3|75=>139|76=>140|4=>4|5=>5|167=>475|37=>99|0=>0|85=>476|2=>2|168=>478|53=>424|175=>482|46=>380|210=>486|127=>274|145=>499|143=>497|21=>21|171=>423|173=>427|212=>461|51=>462|20=>20|213=>463|232=>488|233=>489|80=>154|n=>n,fun|15=>2|16=>3|17=>0|18=>4|19=>5|n=>n⟩
theorem Tryz.laysC172:Go.Proofs.LaysC.n172 Tryz.prog Tryz.laysC172_ren:={
 mixed:=by kernel_rfl
 f129:=Tryz.func360.trans (aYY some Yg)
 f171:=Tryz.func65.trans (aYY some Yg)
 f172:=Tryz.func289.trans (aYY some Yg)
 f205:=Tryz.func390.trans (aYY some Yg)
 f243:=Tryz.func131.trans (aYY some Yg)
 f244:=Tryz.func351.trans (aYY some Yg)
 f245:=Tryz.func352.trans (aYY some Yg)
 f246:=Tryz.func208.trans (aYY some Yg)
 f247:=Tryz.func376.trans (aYY some Yg)
 f279:=Tryz.func377.trans (aYY some Yg)
 f280:=Tryz.func378.trans (aYY some Yg)
 f281:=Tryz.func379.trans (aYY some Yg)
 f282:=Tryz.func380.trans (aYY some Yg)
 f283:=Tryz.func305.trans (aYY some Yg)
 f284:=Tryz.func306.trans (aYY some Yg)
 f285:=Tryz.func307.trans (aYY some Yg)
 f286:=Tryz.func308.trans (aYY some Yg)
 f287:=Tryz.func388.trans (aYY some Yg)
 f316:=Tryz.func389.trans (aYY some Yg)
 f317:=Tryz.func359.trans (aYY some Yg)
 f318:=Tryz.func361.trans (aYY some Yg)
 f319:=Tryz.func362.trans (aYY some Yg)
 f320:=Tryz.func363.trans (aYY some Yg)
 f321:=Tryz.func393.trans (aYY some Yg)
 f322:=Tryz.func394.trans (aYY some Yg)
 f337:=Tryz.func381.trans (aYY some Yg)
 f338:=Tryz.func382.trans (aYY some Yg)
 t0:=Tryz.underlying0
 a0:=Tryz.isAgg0
 z0:=Tryz.sizeOf0
 v0:=Tryz.zeroValue0
 t2:=Tryz.underlying2
 a2:=Tryz.isAgg2
 z2:=Tryz.sizeOf2
 v2:=Tryz.zeroValue2
 t3:=Tryz.underlying3
 a3:=Tryz.isAgg3
 z3:=Tryz.sizeOf3
 v3:=Tryz.zeroValue3
 t4:=Tryz.underlying4
 a4:=Tryz.isAgg4
 z4:=Tryz.sizeOf4
 v4:=Tryz.zeroValue4
 t5:=Tryz.underlying5
 a5:=Tryz.isAgg5
 z5:=Tryz.sizeOf5
 v5:=Tryz.zeroValue5
 t9:=Tryz.underlying9
 a9:=Tryz.isAgg9
 z9:=Tryz.sizeOf9
 v9:=Tryz.zeroValue9
 t20:=Tryz.underlying20
 a20:=Tryz.isAgg20
 z20:=Tryz.sizeOf20
 v20:=Tryz.zeroValue20
 t21:=Tryz.underlying21
 a21:=Tryz.isAgg21
 z21:=Tryz.sizeOf21
 v21:=Tryz.zeroValue21
 t37:=Tryz.underlying99
 a37:=Tryz.isAgg99
 z37:=Tryz.sizeOf99
 v37:=Tryz.zeroValue99
 t46:=Tryz.underlying380
 a46:=Tryz.isAgg380
 z46:=Tryz.sizeOf380
 v46:=Tryz.zeroValue380
 t51:=Tryz.underlying462
 a51:=Tryz.isAgg462
 z51:=Tryz.sizeOf462
 v51:=Tryz.zeroValue462
 t53:=Tryz.underlying424
 a53:=Tryz.isAgg424
 z53:=Tryz.sizeOf424
 v53:=Tryz.zeroValue424
 t75:=Tryz.underlying139
 a75:=Tryz.isAgg139
 z75:=Tryz.sizeOf139
 v75:=Tryz.zeroValue139
 t76:=Tryz.underlying140
 a76:=Tryz.isAgg140
 z76:=Tryz.sizeOf140
 v76:=Tryz.zeroValue140
 t85:=Tryz.underlying476
 a85:=Tryz.isAgg476
 z85:=Tryz.sizeOf476
 v85:=Tryz.zeroValue476
 t127:=Tryz.underlying274
 a127:=Tryz.isAgg274
 z127:=Tryz.sizeOf274
 v127:=Tryz.zeroValue274
 t143:=Tryz.underlying497
 a143:=Tryz.isAgg497
 z143:=Tryz.sizeOf497
 v143:=Tryz.zeroValue497
 t145:=Tryz.underlying499
 a145:=Tryz.isAgg499
 z145:=Tryz.sizeOf499
 v145:=Tryz.zeroValue499
 t167:=Tryz.underlying475
 a167:=Tryz.isAgg475
 z167:=Tryz.sizeOf475
 v167:=Tryz.zeroValue475
 t168:=Tryz.underlying478
 a168:=Tryz.isAgg478
 z168:=Tryz.sizeOf478
 v168:=Tryz.zeroValue478
 t171:=Tryz.underlying423
 a171:=Tryz.isAgg423
 z171:=Tryz.sizeOf423
 v171:=Tryz.zeroValue423
 t173:=Tryz.underlying427
 a173:=Tryz.isAgg427
 z173:=Tryz.sizeOf427
 v173:=Tryz.zeroValue427
 t175:=Tryz.underlying482
 a175:=Tryz.isAgg482
 z175:=Tryz.sizeOf482
 v175:=Tryz.zeroValue482
 t210:=Tryz.underlying486
 a210:=Tryz.isAgg486
 z210:=Tryz.sizeOf486
 v210:=Tryz.zeroValue486
 t212:=Tryz.underlying461
 a212:=Tryz.isAgg461
 z212:=Tryz.sizeOf461
 v212:=Tryz.zeroValue461
 t213:=Tryz.underlying463
 a213:=Tryz.isAgg463
 z213:=Tryz.sizeOf463
 t232:=Tryz.underlying488
 a232:=Tryz.isAgg488
 z232:=Tryz.sizeOf488
 v232:=Tryz.zeroValue488
 t233:=Tryz.underlying489
 a233:=Tryz.isAgg489
 z233:=Tryz.sizeOf489
 v233:=Tryz.zeroValue489
 g15:=by kernel_rfl
 g16:=by kernel_rfl
 g17:=by kernel_rfl
 g18:=by kernel_rfl
 g19:=by kernel_rfl
 t80:=Tryz.underlying154
 a80:=Tryz.isAgg154
 z80:=Tryz.sizeOf154
 v80:=Tryz.zeroValue154
 i0:=by kernel_rfl
 i2:=by kernel_rfl
 i3:=by kernel_rfl
 i4:=by kernel_rfl
 i5:=by kernel_rfl
 i9:=by kernel_rfl
 i20:=by kernel_rfl
 i21:=by kernel_rfl
 i37:=by kernel_rfl
 i46:=by kernel_rfl
 i51:=by kernel_rfl
 i53:=by kernel_rfl
 i75:=by kernel_rfl
 i76:=by kernel_rfl
 i80:=by kernel_rfl
 i85:=by kernel_rfl
 i127:=by kernel_rfl
 i143:=by kernel_rfl
 i145:=by kernel_rfl
 i167:=by kernel_rfl
 i168:=by kernel_rfl
 i171:=by kernel_rfl
 i173:=by kernel_rfl
 i175:=by kernel_rfl
 i210:=by kernel_rfl
 i212:=by kernel_rfl
 i232:=by kernel_rfl
 i233:=by kernel_rfl
 m15:=by kernel_rfl
 m16:=by kernel_rfl
 m17:=by kernel_rfl
 m18:=by kernel_rfl
 m19:=by kernel_rfl
 c0:=by kernel_rfl
 c2:=by kernel_rfl
 c3:=by kernel_rfl
 c4:=by kernel_rfl
 c5:=by kernel_rfl
 c9:=by kernel_rfl
 c20:=by kernel_rfl
 c21:=by kernel_rfl
 c37:=by kernel_rfl
 c46:=by kernel_rfl
 c51:=by kernel_rfl
 c53:=by kernel_rfl
 c75:=by kernel_rfl
 c76:=by kernel_rfl
 c80:=by kernel_rfl
 c85:=by kernel_rfl
 c127:=by kernel_rfl
 c143:=by kernel_rfl
 c145:=by kernel_rfl
 c167:=by kernel_rfl
 c168:=by kernel_rfl
 c171:=by kernel_rfl
 c173:=by kernel_rfl
 c175:=by kernel_rfl
 c210:=by kernel_rfl
 c212:=by kernel_rfl
 c213:=by kernel_rfl
 c232:=by kernel_rfl
 c233:=by kernel_rfl}
open Go.RowKit in
theorem Tryz.strconv_Atoi_ok(s:ByteArray)(hmax:s.size≤9223372036854775806)(v:Int)(h:Lib.atoiAll s.data.toList=.ok v)(w:World):
  Calls Tryz.prog 289 #[.string s] w fun e w'=>e=.returned (.tuple #[.int .i64 v,.nilIface])∧(w'=w∨∃t,w'=Lib.bytesWorld w 5 t):=Any.strconv_Atoi_ok Tryz.laysC172 s hmax v h w
open Go.RowKit in
theorem Tryz.strconv_Atoi_syntax(s:ByteArray)(hlim:s.size≤281474976710656)(h:Lib.atoiAll s.data.toList=Lib.atoiAll [])(ev:Value)(w:World)(hv:w.cell? ⟨2,0,none⟩=some ev)(hev:ev=.nilIface∨∃te pe,ev=.iface te pe):
  Calls Tryz.prog 289 #[.string s] w fun e w'=>∃N,e=.returned (.tuple #[.int .i64 (0),.iface 478 (.pointer (some ⟨N,0,none⟩))])∧w.heap.size≤N∧w'.heap[N]?= some (.cells #[.string ⟨#[65,116,111,105]⟩,.string s,ev] 486 (0,0))∧Below w.heap.size w w':=Any.strconv_Atoi_syntax Tryz.laysC172 s hlim h ev w hv hev
open Go.RowKit in
theorem Tryz.strconv_Atoi_range(s:ByteArray)(hlim:s.size≤281474976710656)(h:Lib.atoiAll s.data.toList=.range)(ev:Value)(w:World)(hv:w.cell? ⟨3,0,none⟩=some ev)(hev:ev=.nilIface∨∃te pe,ev=.iface te pe):
  Calls Tryz.prog 289 #[.string s] w fun e w'=>∃N,e=.returned (.tuple #[.int .i64 (Lib.atoiSat s.data.toList),.iface 478 (.pointer (some ⟨N,0,none⟩))])∧w.heap.size≤N∧w'.heap[N]?= some (.cells #[.string ⟨#[65,116,111,105]⟩,.string s,ev] 486 (0,0))∧Below w.heap.size w w':=Any.strconv_Atoi_range Tryz.laysC172 s hlim h ev w hv hev
def Tryz.lays146_ren:Go.Shelf.Ren:=⟨fun|146=>188|221=>265|268=>337|138=>338|143=>339|195=>372|197=>373|218=>374|219=>375|260=>383|217=>384|225=>385|224=>386|267=>387|266=>391|314=>392|n=>n,fun|9=>9|31=>22|3=>3|4=>4|0=>0|105=>472|21=>21|5=>5|46=>380|119=>490|139=>493|138=>492|146=>494|51=>462|n=>n,fun|1=>1|3=>6|4=>7|n=>n⟩
theorem Tryz.lays146:Go.Proofs.Lays.n146 Tryz.prog Tryz.lays146_ren:={
 mixed:=by kernel_rfl
 f138:=Tryz.func338.trans (aYY some Yg)
 f143:=Tryz.func339.trans (aYY some Yg)
 f146:=Tryz.func188.trans (aYY some Yg)
 f195:=Tryz.func372.trans (aYY some Yg)
 f197:=Tryz.func373.trans (aYY some Yg)
 f217:=Tryz.func384.trans (aYY some Yg)
 f218:=Tryz.func374.trans (aYY some Yg)
 f219:=Tryz.func375.trans (aYY some Yg)
 f221:=Tryz.func265.trans (aYY some Yg)
 f224:=Tryz.func386.trans (aYY some Yg)
 f225:=Tryz.func385.trans (aYY some Yg)
 f260:=Tryz.func383.trans (aYY some Yg)
 f266:=Tryz.func391.trans (aYY some Yg)
 f267:=Tryz.func387.trans (aYY some Yg)
 f268:=Tryz.func337.trans (aYY some Yg)
 f314:=Tryz.func392.trans (aYY some Yg)
 t0:=Tryz.underlying0
 a0:=Tryz.isAgg0
 z0:=Tryz.sizeOf0
 v0:=Tryz.zeroValue0
 t3:=Tryz.underlying3
 a3:=Tryz.isAgg3
 z3:=Tryz.sizeOf3
 v3:=Tryz.zeroValue3
 t4:=Tryz.underlying4
 a4:=Tryz.isAgg4
 z4:=Tryz.sizeOf4
 v4:=Tryz.zeroValue4
 t5:=Tryz.underlying5
 a5:=Tryz.isAgg5
 z5:=Tryz.sizeOf5
 v5:=Tryz.zeroValue5
 t9:=Tryz.underlying9
 a9:=Tryz.isAgg9
 z9:=Tryz.sizeOf9
 v9:=Tryz.zeroValue9
 t21:=Tryz.underlying21
 a21:=Tryz.isAgg21
 z21:=Tryz.sizeOf21
 v21:=Tryz.zeroValue21
 t31:=Tryz.underlying22
 a31:=Tryz.isAgg22
 z31:=Tryz.sizeOf22
 v31:=Tryz.zeroValue22
 t46:=Tryz.underlying380
 a46:=Tryz.isAgg380
 z46:=Tryz.sizeOf380
 v46:=Tryz.zeroValue380
 t51:=Tryz.underlying462
 a51:=Tryz.isAgg462
 z51:=Tryz.sizeOf462
 v51:=Tryz.zeroValue462
 t105:=Tryz.underlying472
 a105:=Tryz.isAgg472
 z105:=Tryz.sizeOf472
 v105:=Tryz.zeroValue472
 t119:=Tryz.underlying490
 a119:=Tryz.isAgg490
 z119:=Tryz.sizeOf490
 t138:=Tryz.underlying492
 a138:=Tryz.isAgg492
 z138:=Tryz.sizeOf492
 v138:=Tryz.zeroValue492
 t139:=Tryz.underlying493
 a139:=Tryz.isAgg493
 z139:=Tryz.sizeOf493
 v139:=Tryz.zeroValue493
 t146:=Tryz.underlying494
 a146:=Tryz.isAgg494
 z146:=Tryz.sizeOf494
 v146:=Tryz.zeroValue494
 g1:=by kernel_rfl
 g3:=by kernel_rfl
 g4:=by kernel_rfl}
open Go.RowKit Go.Lib in
theorem Tryz.strings_Split(s sep:ByteArray)(m:Int)(w:World)(hs:s.size<4294967281)(hm:w.cell? ⟨1,0,none⟩=some (.int .i64 m))(h1:1≤sep.size):
  Calls Tryz.prog 188 #[.string s,.string sep] w fun e w'=>
   e=.returned (.slice (some ⟨w.heap.size,0,none⟩) (Lib.countB s sep+1) (Lib.countB s sep+1))∧w'=w.alloc (.cells ((Lib.splitB sep 0 (Lib.countB s sep) s).map Value.string).toArray 9):=Any.strings_Split Tryz.lays146 Yg s sep m w hs hm h1
end Go.Proofs
namespace Go.Fs
open Go.Proofs Tryz
namespace L12
open C12 Go.Lib
structure mF(D:aC):Prop where
 tab:D 0=pow10Tab.map (Value.int .u64)
 maxLen:∃m,(D 1)[0]?= some (qI m)
 esyn:∃c,(D 2)[0]?= some c∧(c=.nilIface∨∃t u,c=.iface t u)
 erng:∃c,(D 3)[0]?= some c∧(c=.nilIface∨∃t u,c=.iface t u)
theorem mF.up{D D':aC}(h:mF D)(hl:Le D D'):mF D':=by
 obtain⟨h1,⟨m,h2⟩,⟨c,h3,h3'⟩,⟨e,h4,h4'⟩⟩:=h;exact⟨hl.2.trans h1,⟨m,hl.get h2⟩,⟨c,hl.get h3,h3'⟩,⟨e,hl.get h4,h4'⟩⟩
theorem mF.tabIs{D:aC}(h:mF D){w:World}(hw:eX D w):TabIs prog w "internal/strconv.uint64pow10" .u64 pow10Tab:=by
 have hg:prog.globalNamed "internal/strconv.uint64pow10" =some 0:=by kernel_rfl
 obtain⟨-, -,e,fz,h0⟩:=hw;unfold TabIs World.var?;rw[hg,Option.bind_some,h0,h.tab]
theorem IQ(w:World)(e:TypeId)(t:ByteArray):Go.RowKit.Below w.heap.size w (bytesWorld w e t):=⟨rfl,rfl,rfl,by rw[bytesWorld_size];omega,fun b hb=>bytesWorld_at_old w e t b hb⟩
theorem MD(w:World)(k:Nat)(os:Array Obj):Go.RowKit.Below w.heap.size w (Go.Sort.grow (w.drewN k) os):=
 ⟨rfl,rfl,rfl,by show w.heap.size≤(w.heap++os).size;rw[Array.size_append];omega,fun b hb=>by show(w.heap++os)[b]?= _;rw[bBD hb]⟩
theorem M7(n:Int)(hn:uN .i64 n)(D:aC)(hV:mF D):Fn prog 65 #[qI n] D (fun _ v=>v=.string (zZ (itoa n))):=by
 have hb: -9223372036854775808≤n∧n≤9223372036854775807:=by simpa [uN]using hn
 refine Fn.of_below (EF.of func65 rfl rfl) fun w hw=>(Go.Proofs.Tryz.strconv_Itoa n hb.1 hb.2 w (hV.tabIs hw)).mono ?_
 rintro e w' ⟨rfl,k,os,rfl⟩;exact⟨_,rfl,MD w k os,fun _ _=>rfl⟩
theorem aGT(s:ByteArray)(hs:s.size≤1000)(D:aC)(hV:mF D):Fn prog 188 #[.string s,.string ⟨#[32]⟩] D (fun D' v=>Sl D' RS 1 v (eA s)):=by
 obtain⟨m,hm⟩:=hV.maxLen;refine Fn.of_alloc (cs:=(eA s).map Value.string) (e:=9) (r:=fun b=>qS b (eA s).length (eA s).length) (EF.of func188 rfl rfl) (fun w hw=>(Go.Proofs.Tryz.strings_Split s ⟨#[32]⟩ m w Yd (hw.cell hm) Yy).mono ?_) fun D' b _ hA=>?_
 ·rintro e w' ⟨rfl,rfl⟩;rw[OW,IR];exact⟨rfl,rfl⟩
 ·have hl:(eA s).length≤1001:=by unfold eA;rw[bAY];exact bBE (GD _) (by show s.size+1≤1001;omega)
  refine⟨_,_,rfl,aZL _,by omega,aYZ ⟨b,0,rfl,fun i x hi=>⟨_,rfl,rfl,fun j v hj=>?_⟩⟩⟩;cases j with
  |zero=>
   obtain rfl:Value.string x=v:=by simpa using hj
   have h:=hA i (.string x) (by rw[aZT,hi];rfl);simpa using h
  |succ j=>simp at hj
theorem aMY(s:ByteArray)(hs:s.size≤1000)(D:aC)(hV:mF D):Fn prog 289 #[.string s] D (fun _ v=>∃m c,v=.tuple #[qI m,c]∧uN .i64 m∧((c=.nilIface∧atoiAll s.data.toList=.ok m)∨((∃t u,c=.iface t u)∧∀x,atoiAll s.data.toList≠.ok x))):=by
 refine Fn.of_below (EF.of func289 rfl rfl) fun w hw=>?_
 rcases h:atoiAll s.data.toList with v|_|_
 ·refine(Go.Proofs.Tryz.strconv_Atoi_ok s Yd v h w).mono ?_;rintro e w' ⟨rfl,hw'⟩;refine⟨_,rfl,?_,fun _ _=>⟨v,_,rfl,by have:=atoiAll_bounds h;simp only[uN];omega,aZE ⟨rfl,rfl⟩⟩⟩
  rcases hw' with rfl|⟨t,rfl⟩
  ·exact .refl _ _
  ·exact IQ w _ t
 ·obtain⟨c,hc,hc'⟩:=hV.esyn;refine(Go.Proofs.Tryz.strconv_Atoi_syntax s Yd h c w (hw.cell hc) hc').mono ?_;rintro e w' ⟨N,rfl,_,_,hb⟩;exact⟨_,rfl,hb,fun _ _=>⟨0,_,rfl,by simp only[uN];omega,aYZ ⟨⟨_,_,rfl⟩,fun x hx=>by cases hx⟩⟩⟩
 ·obtain⟨c,hc,hc'⟩:=hV.erng;refine(Go.Proofs.Tryz.strconv_Atoi_range s Yd h c w (hw.cell hc) hc').mono ?_;rintro e w' ⟨N,rfl,_,_,hb⟩;exact⟨_,rfl,hb,fun _ _=>⟨_,_,rfl,by unfold atoiSat;split<;>simp only[uN]<;>omega,aYZ ⟨⟨_,_,rfl⟩,fun x hx=>by cases hx⟩⟩⟩
theorem aIX{s:ByteArray}{m:Int}{c:Value}(h:(c=.nilIface∧atoiAll s.data.toList=.ok m)∨((∃t u,c=.iface t u)∧∀x,atoiAll s.data.toList≠.ok x)):nY s.data.toList=if(((aBG c&&decide (m≥0))&&decide ((s.size:Int)≤3))&&decide (zZ (itoa m)=s))=true then some m else none:=by
 rw[←UC];unfold aQS;rcases h with⟨rfl,h⟩|⟨⟨t,u,rfl⟩,h⟩
 ·rw[h];have e:s.data.toList.length=s.size:=rfl;have G:(zZ (itoa m)=s) ↔ itoa m=s.data.toList:=⟨fun h=>by rw[←h];rfl,fun h=>by rw[h];exact yE s⟩
  simp only[aBG,bCR,aYT,aZI,e,G,and_assoc];congr 1;simp only[eq_iff_iff];constructor
  ·rintro⟨h1,h2,h3⟩;exact⟨h1,by omega,h3⟩
  ·rintro⟨h1,h2,h3⟩;exact⟨h1,by omega,h3⟩
 ·split
  ·rename_i v hv;exact absurd hv (h v)
  ·rfl
theorem aRY{s:ByteArray}{m:Int}{c:Value}(h:(c=.nilIface∧atoiAll s.data.toList=.ok m)∨((∃t u,c=.iface t u)∧∀x,atoiAll s.data.toList≠.ok x)):(((aBG c&&decide (m≥0))&&decide ((s.size:Int)≤3))&&decide (zZ (itoa m)=s))=true→nY s.data.toList=some m:=fun hb=>by rw[aIX h,aZK hb]
theorem aVB{s:ByteArray}{m:Int}{c:Value}(h:(c=.nilIface∧atoiAll s.data.toList=.ok m)∨((∃t u,c=.iface t u)∧∀x,atoiAll s.data.toList≠.ok x)):(((aBG c&&decide (m≥0))&&decide ((s.size:Int)≤3))&&decide (zZ (itoa m)=s))=false→nY s.data.toList=none:=fun hb=>by rw[aIX h,aZB (by rw[hb];simp)]
theorem aCJ(s:ByteArray)(hs:s.size≤1000)(D:aC)(hV:mF D):Fn prog 191 #[.string s] D (fun _ v=>∃m b,v=.tuple #[qI m,.bool b]∧(b=true→nY s.data.toList=some m)∧(b=false→nY s.data.toList=none)):=by
 refine Zs 29 func191 rfl (fun h0=>aA<|Zg rfl<|Zg rfl<|aL<|Za rfl<|Zv rfl (fun Z I=>aMY s hs _ (hV.up (I _ Ye))) (fun v1 Z I M=>?_));obtain⟨m,c,rfl,O,G⟩:=M;refine Za rfl<|Zaf rfl<|Zaf rfl<|Zg rfl<|Zg rfl<|aL<|Za rfl<|Za rfl<|SD rfl U139 rfl (by rcases G with⟨h,_⟩|⟨h,_⟩;exact Or.inl h;exact Or.inr h) rfl bDY<|Za rfl ?_
 refine' dJ 3 (s:=14) (p:=17) rfl (fun R=>?_) (fun R=>?_) ?_;rotate_left
 ·refine Zb rfl<|tC rfl rfl rfl rfl ⟨_,rfl,rfl⟩<|Zad rfl ?_;exact aQ 2
 ·refine Zf rfl<|Zf rfl<|Zae rfl ?_;exact aQ 2
 refine Za rfl ?_;refine' dJ 4 (s:=18) (p:=22) rfl (fun U=>?_) (fun U=>?_) ?_;rotate_left
 ·refine Zb rfl<|iZ rfl U9 rfl rfl rfl ⟨_,rfl,rfl⟩<|lE rfl rfl rfl rfl ⟨_,rfl,rfl⟩<|Zad rfl ?_;exact aQ 3
 ·refine Zf rfl<|Zf rfl<|Zf rfl<|Zae rfl ?_;exact aQ 3
 refine Za rfl ?_;refine' dJ 5 (s:=23) (p:=28) rfl (fun V=>?_) (fun V=>?_) ?_;rotate_left
 ·refine Zb rfl<|Zd rfl (fun D2 Y=>M7 m O _ (hV.up (Y _ Ye)))<|Zb rfl<|cN rfl rfl rfl rfl ⟨_,rfl,rfl⟩<|Zad rfl ?_;exact aQ 4
 ·refine Zf rfl<|Zf rfl<|Zf rfl<|Zf rfl<|Zae rfl ?_;exact aQ 4
 refine Zg rfl<|Zg rfl<|aG ?_;exact cS (vs:=[_,_]) rfl rfl rfl cQ (fun D hD=>⟨m,_,rfl,aRY G,aVB G⟩)
end L12
end Go.Fs
