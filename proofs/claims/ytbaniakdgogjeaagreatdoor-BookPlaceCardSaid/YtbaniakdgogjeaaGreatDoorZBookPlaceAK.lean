/- Of the proof of BookPlace: Lay, BW17. -/
import Derived.Test.YtbaniakdgogjeaaGreatDoorZBookPlaceAA
import Derived.Shelf.Strings.Builder1
import Derived.Shelf.LaysM
import Derived.Shelf.Strconv.Itoa3
import Derived.Shelf.LaysC
import Derived.Shelf.Strconv.AtoiAll
import Derived.Shelf.Strings.Split
import Derived.Test.YtbaniakdgogjeaaGreatDoorProg
import Derived.Test.YtbaniakdgogjeaaGreatDoorZBookPlaceAJ
namespace Go.Proofs
open Go.Shelf
def Tryz.lays169_ren:Go.Shelf.Ren:=⟨fun|169=>51|n=>n,fun|70=>96|9=>9|0=>0|72=>98|37=>53|127=>197|3=>3|5=>5|n=>n,fun|n=>n⟩
theorem Tryz.lays169:Go.Proofs.Lays.n169 Tryz.prog Tryz.lays169_ren:={
 mixed:=by kernel_rfl
 f169:=Tryz.func51.trans (aKJ some Yg)
 t0:=Tryz.underlying0
 a0:=Tryz.isAgg0
 z0:=Tryz.sizeOf0
 v0:=Tryz.zeroValue0
 t3:=Tryz.underlying3
 a3:=Tryz.isAgg3
 z3:=Tryz.sizeOf3
 v3:=Tryz.zeroValue3
 t9:=Tryz.underlying9
 a9:=Tryz.isAgg9
 z9:=Tryz.sizeOf9
 v9:=Tryz.zeroValue9
 t37:=Tryz.underlying53
 a37:=Tryz.isAgg53
 z37:=Tryz.sizeOf53
 v37:=Tryz.zeroValue53
 t70:=Tryz.underlying96
 a70:=Tryz.isAgg96
 z70:=Tryz.sizeOf96
 v70:=Tryz.zeroValue96
 t72:=Tryz.underlying98
 a72:=Tryz.isAgg98
 z72:=Tryz.sizeOf98
 v72:=Tryz.zeroValue98
 t127:=Tryz.underlying197
 a127:=Tryz.isAgg197
 z127:=Tryz.sizeOf197
 v127:=Tryz.zeroValue197}
theorem Tryz.Builder_Extra_169:Builder.Extra Tryz.prog Tryz.lays169_ren:={
 sizeBuilder:=by kernel_rfl
 liesBuilder:=by kernel_rfl
 t5:=Tryz.underlying5
 a5:=Tryz.isAgg5
 z5:=Tryz.sizeOf5
 v5:=Tryz.zeroValue5
 infoByte:=by kernel_rfl
 cellsByte:=by kernel_rfl
 sizeByte:=by kernel_rfl
 neB5:=by decide}
open Go.RowKit in
theorem Tryz.Builder_String_any(B b:Nat)(l:List UInt8)(w:World)(h:Lib.IsBuilder 98 5 B b (Lib.byteCells l) w)(hBw:B≤w.heap.size):
  Calls Tryz.prog 51 #[.pointer (some ⟨b,0,none⟩)] w fun e w'=>e=.returned (.string ⟨l.toArray⟩)∧Below B w w':=Any.Builder_String_any Tryz.lays169 Tryz.Builder_Extra_169 B b l w h hBw
def Tryz.laysM171_ren:Go.Shelf.Ren:=⟨fun|171=>42|243=>71|246=>114|283=>190|284=>191|285=>192|286=>193|129=>253|317=>252|318=>254|319=>255|320=>256|337=>280|338=>281|n=>n,fun|3=>3|9=>9|2=>2|4=>4|171=>298|0=>0|53=>299|37=>53|5=>5|173=>302|212=>344|51=>345|20=>20|213=>346|46=>347|232=>373|233=>374|n=>n,fun|17=>0|18=>4|19=>5|n=>n⟩
theorem Tryz.laysM171:Go.Proofs.LaysM.n171 Tryz.prog Tryz.laysM171_ren:={
 mixed:=by kernel_rfl
 f129:=Tryz.func253.trans (aKJ some Yg)
 f171:=Tryz.func42.trans (aKJ some Yg)
 f243:=Tryz.func71.trans (aKJ some Yg)
 f246:=Tryz.func114.trans (aKJ some Yg)
 f283:=Tryz.func190.trans (aKJ some Yg)
 f284:=Tryz.func191.trans (aKJ some Yg)
 f285:=Tryz.func192.trans (aKJ some Yg)
 f286:=Tryz.func193.trans (aKJ some Yg)
 f317:=Tryz.func252.trans (aKJ some Yg)
 f318:=Tryz.func254.trans (aKJ some Yg)
 f319:=Tryz.func255.trans (aKJ some Yg)
 f320:=Tryz.func256.trans (aKJ some Yg)
 f337:=Tryz.func280.trans (aKJ some Yg)
 f338:=Tryz.func281.trans (aKJ some Yg)
 t0:=Tryz.underlying0
 a0:=Tryz.isAgg0
 z0:=Tryz.sizeOf0
 v0:=Tryz.zeroValue0
 t2:=Tryz.underlying2
 a2:=Tryz.isAgg2
 z2:=Tryz.sizeOf2
 v2:=Tryz.zeroValue2
 t3:=Tryz.underlying3
 a3:=Tryz.isAgg3
 z3:=Tryz.sizeOf3
 v3:=Tryz.zeroValue3
 t4:=Tryz.underlying4
 a4:=Tryz.isAgg4
 z4:=Tryz.sizeOf4
 v4:=Tryz.zeroValue4
 t5:=Tryz.underlying5
 a5:=Tryz.isAgg5
 z5:=Tryz.sizeOf5
 v5:=Tryz.zeroValue5
 t9:=Tryz.underlying9
 a9:=Tryz.isAgg9
 z9:=Tryz.sizeOf9
 v9:=Tryz.zeroValue9
 t20:=Tryz.underlying20
 a20:=Tryz.isAgg20
 z20:=Tryz.sizeOf20
 v20:=Tryz.zeroValue20
 t37:=Tryz.underlying53
 a37:=Tryz.isAgg53
 z37:=Tryz.sizeOf53
 v37:=Tryz.zeroValue53
 t46:=Tryz.underlying347
 a46:=Tryz.isAgg347
 z46:=Tryz.sizeOf347
 v46:=Tryz.zeroValue347
 t51:=Tryz.underlying345
 a51:=Tryz.isAgg345
 z51:=Tryz.sizeOf345
 v51:=Tryz.zeroValue345
 t53:=Tryz.underlying299
 a53:=Tryz.isAgg299
 z53:=Tryz.sizeOf299
 v53:=Tryz.zeroValue299
 t171:=Tryz.underlying298
 a171:=Tryz.isAgg298
 z171:=Tryz.sizeOf298
 v171:=Tryz.zeroValue298
 t173:=Tryz.underlying302
 a173:=Tryz.isAgg302
 z173:=Tryz.sizeOf302
 v173:=Tryz.zeroValue302
 t212:=Tryz.underlying344
 a212:=Tryz.isAgg344
 z212:=Tryz.sizeOf344
 v212:=Tryz.zeroValue344
 t213:=Tryz.underlying346
 a213:=Tryz.isAgg346
 z213:=Tryz.sizeOf346
 t232:=Tryz.underlying373
 a232:=Tryz.isAgg373
 z232:=Tryz.sizeOf373
 v232:=Tryz.zeroValue373
 t233:=Tryz.underlying374
 a233:=Tryz.isAgg374
 z233:=Tryz.sizeOf374
 v233:=Tryz.zeroValue374
 g17:=by kernel_rfl
 g18:=by kernel_rfl
 g19:=by kernel_rfl
 i0:=by kernel_rfl
 i2:=by kernel_rfl
 i3:=by kernel_rfl
 i4:=by kernel_rfl
 i5:=by kernel_rfl
 i9:=by kernel_rfl
 i20:=by kernel_rfl
 i37:=by kernel_rfl
 i46:=by kernel_rfl
 i51:=by kernel_rfl
 i53:=by kernel_rfl
 i171:=by kernel_rfl
 i173:=by kernel_rfl
 i212:=by kernel_rfl
 i232:=by kernel_rfl
 i233:=by kernel_rfl
 m17:=by kernel_rfl
 m18:=by kernel_rfl
 m19:=by kernel_rfl}
open Go.RowKit Go.Sort Go.Lib in
theorem Tryz.strconv_Itoa(n:Int)(h0: -9223372036854775808≤n)(h1:n≤9223372036854775807)(w:World)(htab:Lib.TabIs Tryz.prog w "internal/strconv.uint64pow10" .u64 Lib.pow10Tab):
  Calls Tryz.prog 42 #[.int .i64 n] w fun e w'=>e=.returned (.string ⟨(Lib.itoa n).toArray⟩)∧∃k os,w'=grow (w.drewN k) os:=Any.strconv_Itoa Tryz.laysM171 n h0 h1 w htab
def Tryz.laysC172_ren:Go.Shelf.Ren:=⟨fun|172=>176|244=>245|245=>246|247=>275|279=>276|280=>277|281=>278|282=>279|287=>290|316=>291|171=>42|205=>292|321=>295|322=>296|243=>71|246=>114|283=>190|284=>191|285=>192|286=>193|129=>253|317=>252|318=>254|319=>255|320=>256|337=>280|338=>281|n=>n,fun|9=>9|3=>3|75=>100|76=>101|4=>4|5=>5|167=>358|37=>53|0=>0|85=>359|2=>2|168=>361|53=>299|175=>367|46=>347|210=>371|127=>197|145=>384|143=>382|21=>21|171=>298|173=>302|212=>344|51=>345|20=>20|213=>346|232=>373|233=>374|80=>120|n=>n,fun|15=>2|16=>3|17=>0|18=>4|19=>5|n=>n⟩
theorem Tryz.laysC172:Go.Proofs.LaysC.n172 Tryz.prog Tryz.laysC172_ren:={
 mixed:=by kernel_rfl
 f129:=Tryz.func253.trans (aKJ some Yg)
 f171:=Tryz.func42.trans (aKJ some Yg)
 f172:=Tryz.func176.trans (aKJ some Yg)
 f205:=Tryz.func292.trans (aKJ some Yg)
 f243:=Tryz.func71.trans (aKJ some Yg)
 f244:=Tryz.func245.trans (aKJ some Yg)
 f245:=Tryz.func246.trans (aKJ some Yg)
 f246:=Tryz.func114.trans (aKJ some Yg)
 f247:=Tryz.func275.trans (aKJ some Yg)
 f279:=Tryz.func276.trans (aKJ some Yg)
 f280:=Tryz.func277.trans (aKJ some Yg)
 f281:=Tryz.func278.trans (aKJ some Yg)
 f282:=Tryz.func279.trans (aKJ some Yg)
 f283:=Tryz.func190.trans (aKJ some Yg)
 f284:=Tryz.func191.trans (aKJ some Yg)
 f285:=Tryz.func192.trans (aKJ some Yg)
 f286:=Tryz.func193.trans (aKJ some Yg)
 f287:=Tryz.func290.trans (aKJ some Yg)
 f316:=Tryz.func291.trans (aKJ some Yg)
 f317:=Tryz.func252.trans (aKJ some Yg)
 f318:=Tryz.func254.trans (aKJ some Yg)
 f319:=Tryz.func255.trans (aKJ some Yg)
 f320:=Tryz.func256.trans (aKJ some Yg)
 f321:=Tryz.func295.trans (aKJ some Yg)
 f322:=Tryz.func296.trans (aKJ some Yg)
 f337:=Tryz.func280.trans (aKJ some Yg)
 f338:=Tryz.func281.trans (aKJ some Yg)
 t0:=Tryz.underlying0
 a0:=Tryz.isAgg0
 z0:=Tryz.sizeOf0
 v0:=Tryz.zeroValue0
 t2:=Tryz.underlying2
 a2:=Tryz.isAgg2
 z2:=Tryz.sizeOf2
 v2:=Tryz.zeroValue2
 t3:=Tryz.underlying3
 a3:=Tryz.isAgg3
 z3:=Tryz.sizeOf3
 v3:=Tryz.zeroValue3
 t4:=Tryz.underlying4
 a4:=Tryz.isAgg4
 z4:=Tryz.sizeOf4
 v4:=Tryz.zeroValue4
 t5:=Tryz.underlying5
 a5:=Tryz.isAgg5
 z5:=Tryz.sizeOf5
 v5:=Tryz.zeroValue5
 t9:=Tryz.underlying9
 a9:=Tryz.isAgg9
 z9:=Tryz.sizeOf9
 v9:=Tryz.zeroValue9
 t20:=Tryz.underlying20
 a20:=Tryz.isAgg20
 z20:=Tryz.sizeOf20
 v20:=Tryz.zeroValue20
 t21:=Tryz.underlying21
 a21:=Tryz.isAgg21
 z21:=Tryz.sizeOf21
 v21:=Tryz.zeroValue21
 t37:=Tryz.underlying53
 a37:=Tryz.isAgg53
 z37:=Tryz.sizeOf53
 v37:=Tryz.zeroValue53
 t46:=Tryz.underlying347
 a46:=Tryz.isAgg347
 z46:=Tryz.sizeOf347
 v46:=Tryz.zeroValue347
 t51:=Tryz.underlying345
 a51:=Tryz.isAgg345
 z51:=Tryz.sizeOf345
 v51:=Tryz.zeroValue345
 t53:=Tryz.underlying299
 a53:=Tryz.isAgg299
 z53:=Tryz.sizeOf299
 v53:=Tryz.zeroValue299
 t75:=Tryz.underlying100
 a75:=Tryz.isAgg100
 z75:=Tryz.sizeOf100
 v75:=Tryz.zeroValue100
 t76:=Tryz.underlying101
 a76:=Tryz.isAgg101
 z76:=Tryz.sizeOf101
 v76:=Tryz.zeroValue101
 t85:=Tryz.underlying359
 a85:=Tryz.isAgg359
 z85:=Tryz.sizeOf359
 v85:=Tryz.zeroValue359
 t127:=Tryz.underlying197
 a127:=Tryz.isAgg197
 z127:=Tryz.sizeOf197
 v127:=Tryz.zeroValue197
 t143:=Tryz.underlying382
 a143:=Tryz.isAgg382
 z143:=Tryz.sizeOf382
 v143:=Tryz.zeroValue382
 t145:=Tryz.underlying384
 a145:=Tryz.isAgg384
 z145:=Tryz.sizeOf384
 v145:=Tryz.zeroValue384
 t167:=Tryz.underlying358
 a167:=Tryz.isAgg358
 z167:=Tryz.sizeOf358
 v167:=Tryz.zeroValue358
 t168:=Tryz.underlying361
 a168:=Tryz.isAgg361
 z168:=Tryz.sizeOf361
 v168:=Tryz.zeroValue361
 t171:=Tryz.underlying298
 a171:=Tryz.isAgg298
 z171:=Tryz.sizeOf298
 v171:=Tryz.zeroValue298
 t173:=Tryz.underlying302
 a173:=Tryz.isAgg302
 z173:=Tryz.sizeOf302
 v173:=Tryz.zeroValue302
 t175:=Tryz.underlying367
 a175:=Tryz.isAgg367
 z175:=Tryz.sizeOf367
 v175:=Tryz.zeroValue367
 t210:=Tryz.underlying371
 a210:=Tryz.isAgg371
 z210:=Tryz.sizeOf371
 v210:=Tryz.zeroValue371
 t212:=Tryz.underlying344
 a212:=Tryz.isAgg344
 z212:=Tryz.sizeOf344
 v212:=Tryz.zeroValue344
 t213:=Tryz.underlying346
 a213:=Tryz.isAgg346
 z213:=Tryz.sizeOf346
 t232:=Tryz.underlying373
 a232:=Tryz.isAgg373
 z232:=Tryz.sizeOf373
 v232:=Tryz.zeroValue373
 t233:=Tryz.underlying374
 a233:=Tryz.isAgg374
 z233:=Tryz.sizeOf374
 v233:=Tryz.zeroValue374
 g15:=by kernel_rfl
 g16:=by kernel_rfl
 g17:=by kernel_rfl
 g18:=by kernel_rfl
 g19:=by kernel_rfl
 t80:=Tryz.underlying120
 a80:=Tryz.isAgg120
 z80:=Tryz.sizeOf120
 v80:=Tryz.zeroValue120
 i0:=by kernel_rfl
 i2:=by kernel_rfl
 i3:=by kernel_rfl
 i4:=by kernel_rfl
 i5:=by kernel_rfl
 i9:=by kernel_rfl
 i20:=by kernel_rfl
 i21:=by kernel_rfl
 i37:=by kernel_rfl
 i46:=by kernel_rfl
 i51:=by kernel_rfl
 i53:=by kernel_rfl
 i75:=by kernel_rfl
 i76:=by kernel_rfl
 i80:=by kernel_rfl
 i85:=by kernel_rfl
 i127:=by kernel_rfl
 i143:=by kernel_rfl
 i145:=by kernel_rfl
 i167:=by kernel_rfl
 i168:=by kernel_rfl
 i171:=by kernel_rfl
 i173:=by kernel_rfl
 i175:=by kernel_rfl
 i210:=by kernel_rfl
 i212:=by kernel_rfl
 i232:=by kernel_rfl
 i233:=by kernel_rfl
 m15:=by kernel_rfl
 m16:=by kernel_rfl
 m17:=by kernel_rfl
 m18:=by kernel_rfl
 m19:=by kernel_rfl
 c0:=by kernel_rfl
 c2:=by kernel_rfl
 c3:=by kernel_rfl
 c4:=by kernel_rfl
 c5:=by kernel_rfl
 c9:=by kernel_rfl
 c20:=by kernel_rfl
 c21:=by kernel_rfl
 c37:=by kernel_rfl
 c46:=by kernel_rfl
 c51:=by kernel_rfl
 c53:=by kernel_rfl
 c75:=by kernel_rfl
 c76:=by kernel_rfl
 c80:=by kernel_rfl
 c85:=by kernel_rfl
 c127:=by kernel_rfl
 c143:=by kernel_rfl
 c145:=by kernel_rfl
 c167:=by kernel_rfl
 c168:=by kernel_rfl
 c171:=by kernel_rfl
 c173:=by kernel_rfl
 c175:=by kernel_rfl
 c210:=by kernel_rfl
 c212:=by kernel_rfl
 c213:=by kernel_rfl
 c232:=by kernel_rfl
 c233:=by kernel_rfl}
open Go.RowKit in
theorem Tryz.strconv_Atoi_ok(s:ByteArray)(hmax:s.size≤9223372036854775806)(v:Int)(h:Lib.atoiAll s.data.toList=.ok v)(w:World):
  Calls Tryz.prog 176 #[.string s] w fun e w'=>e=.returned (.tuple #[.int .i64 v,.nilIface])∧(w'=w∨∃t,w'=Lib.bytesWorld w 5 t):=Any.strconv_Atoi_ok Tryz.laysC172 s hmax v h w
open Go.RowKit in
theorem Tryz.strconv_Atoi_syntax(s:ByteArray)(hlim:s.size≤281474976710656)(h:Lib.atoiAll s.data.toList=Lib.atoiAll [])(ev:Value)(w:World)(hv:w.cell? ⟨2,0,none⟩=some ev)(hev:ev=.nilIface∨∃te pe,ev=.iface te pe):
  Calls Tryz.prog 176 #[.string s] w fun e w'=>∃N,e=.returned (.tuple #[.int .i64 (0),.iface 361 (.pointer (some ⟨N,0,none⟩))])∧w.heap.size≤N∧w'.heap[N]?= some (.cells #[.string ⟨#[65,116,111,105]⟩,.string s,ev] 371 (0,0))∧Below w.heap.size w w':=Any.strconv_Atoi_syntax Tryz.laysC172 s hlim h ev w hv hev
open Go.RowKit in
theorem Tryz.strconv_Atoi_range(s:ByteArray)(hlim:s.size≤281474976710656)(h:Lib.atoiAll s.data.toList=.range)(ev:Value)(w:World)(hv:w.cell? ⟨3,0,none⟩=some ev)(hev:ev=.nilIface∨∃te pe,ev=.iface te pe):
  Calls Tryz.prog 176 #[.string s] w fun e w'=>∃N,e=.returned (.tuple #[.int .i64 (Lib.atoiSat s.data.toList),.iface 361 (.pointer (some ⟨N,0,none⟩))])∧w.heap.size≤N∧w'.heap[N]?= some (.cells #[.string ⟨#[65,116,111,105]⟩,.string s,ev] 371 (0,0))∧Below w.heap.size w w':=Any.strconv_Atoi_range Tryz.laysC172 s hlim h ev w hv hev
def Tryz.lays146_ren:Go.Shelf.Ren:=⟨fun|146=>99|221=>152|268=>231|138=>232|143=>233|195=>271|197=>272|218=>273|219=>274|260=>285|217=>286|225=>287|224=>288|267=>289|266=>293|314=>294|n=>n,fun|9=>9|31=>22|3=>3|4=>4|0=>0|105=>355|21=>21|5=>5|46=>347|119=>375|139=>378|138=>377|146=>379|51=>345|n=>n,fun|1=>1|3=>6|4=>7|n=>n⟩
theorem Tryz.lays146:Go.Proofs.Lays.n146 Tryz.prog Tryz.lays146_ren:={
 mixed:=by kernel_rfl
 f138:=Tryz.func232.trans (aKJ some Yg)
 f143:=Tryz.func233.trans (aKJ some Yg)
 f146:=Tryz.func99.trans (aKJ some Yg)
 f195:=Tryz.func271.trans (aKJ some Yg)
 f197:=Tryz.func272.trans (aKJ some Yg)
 f217:=Tryz.func286.trans (aKJ some Yg)
 f218:=Tryz.func273.trans (aKJ some Yg)
 f219:=Tryz.func274.trans (aKJ some Yg)
 f221:=Tryz.func152.trans (aKJ some Yg)
 f224:=Tryz.func288.trans (aKJ some Yg)
 f225:=Tryz.func287.trans (aKJ some Yg)
 f260:=Tryz.func285.trans (aKJ some Yg)
 f266:=Tryz.func293.trans (aKJ some Yg)
 f267:=Tryz.func289.trans (aKJ some Yg)
 f268:=Tryz.func231.trans (aKJ some Yg)
 f314:=Tryz.func294.trans (aKJ some Yg)
 t0:=Tryz.underlying0
 a0:=Tryz.isAgg0
 z0:=Tryz.sizeOf0
 v0:=Tryz.zeroValue0
 t3:=Tryz.underlying3
 a3:=Tryz.isAgg3
 z3:=Tryz.sizeOf3
 v3:=Tryz.zeroValue3
 t4:=Tryz.underlying4
 a4:=Tryz.isAgg4
 z4:=Tryz.sizeOf4
 v4:=Tryz.zeroValue4
 t5:=Tryz.underlying5
 a5:=Tryz.isAgg5
 z5:=Tryz.sizeOf5
 v5:=Tryz.zeroValue5
 t9:=Tryz.underlying9
 a9:=Tryz.isAgg9
 z9:=Tryz.sizeOf9
 v9:=Tryz.zeroValue9
 t21:=Tryz.underlying21
 a21:=Tryz.isAgg21
 z21:=Tryz.sizeOf21
 v21:=Tryz.zeroValue21
 t31:=Tryz.underlying22
 a31:=Tryz.isAgg22
 z31:=Tryz.sizeOf22
 v31:=Tryz.zeroValue22
 t46:=Tryz.underlying347
 a46:=Tryz.isAgg347
 z46:=Tryz.sizeOf347
 v46:=Tryz.zeroValue347
 t51:=Tryz.underlying345
 a51:=Tryz.isAgg345
 z51:=Tryz.sizeOf345
 v51:=Tryz.zeroValue345
 t105:=Tryz.underlying355
 a105:=Tryz.isAgg355
 z105:=Tryz.sizeOf355
 v105:=Tryz.zeroValue355
 t119:=Tryz.underlying375
 a119:=Tryz.isAgg375
 z119:=Tryz.sizeOf375
 t138:=Tryz.underlying377
 a138:=Tryz.isAgg377
 z138:=Tryz.sizeOf377
 v138:=Tryz.zeroValue377
 t139:=Tryz.underlying378
 a139:=Tryz.isAgg378
 z139:=Tryz.sizeOf378
 v139:=Tryz.zeroValue378
 t146:=Tryz.underlying379
 a146:=Tryz.isAgg379
 z146:=Tryz.sizeOf379
 v146:=Tryz.zeroValue379
 g1:=by kernel_rfl
 g3:=by kernel_rfl
 g4:=by kernel_rfl}
open Go.RowKit Go.Lib in
theorem Tryz.strings_Split(s sep:ByteArray)(m:Int)(w:World)(hs:s.size<4294967281)(hm:w.cell? ⟨1,0,none⟩=some (.int .i64 m))(h1:1≤sep.size):
  Calls Tryz.prog 99 #[.string s,.string sep] w fun e w'=>
   e=.returned (.slice (some ⟨w.heap.size,0,none⟩) (Lib.countB s sep+1) (Lib.countB s sep+1))∧w'=w.alloc (.cells ((Lib.splitB sep 0 (Lib.countB s sep) s).map Value.string).toArray 9):=Any.strings_Split Tryz.lays146 Yg s sep m w hs hm h1
end Go.Proofs
namespace Go.Fs
open Go.Proofs
namespace L12
open C12 Go.Lib
structure kG(D:aA):Prop where
 tab:D 0=pow10Tab.map (Value.int .u64)
 maxLen:∃m,(D 1)[0]?= some (.int .i64 m)
 esyn:∃c,(D 2)[0]?= some c∧(c=.nilIface∨∃t u,c=.iface t u)
 erng:∃c,(D 3)[0]?= some c∧(c=.nilIface∨∃t u,c=.iface t u)
theorem kG.up{D D':aA}(h:kG D)(hl:Le D D'):kG D':=by
 obtain⟨h1,⟨m,h2⟩,⟨c,h3,h3'⟩,⟨e,h4,h4'⟩⟩:=h;exact⟨hl.2.trans h1,⟨m,hl.get h2⟩,⟨c,hl.get h3,h3'⟩,⟨e,hl.get h4,h4'⟩⟩
theorem kG.tabIs{D:aA}(h:kG D){w:World}(hw:dS D w):TabIs Tryz.prog w "internal/strconv.uint64pow10" .u64 pow10Tab:=by
 have hg:Tryz.prog.globalNamed "internal/strconv.uint64pow10" =some 0:=by kernel_rfl
 obtain⟨-, -,e,fz,h0⟩:=hw;unfold TabIs World.var?;rw[hg,Option.bind_some,h0,h.tab]
theorem p5(w:World)(e:TypeId)(t:ByteArray):Go.RowKit.Below w.heap.size w (bytesWorld w e t):=⟨rfl,rfl,rfl,by rw[bytesWorld_size];omega,fun b hb=>bytesWorld_at_old w e t b hb⟩
theorem o7(w:World)(k:Nat)(os:Array Obj):Go.RowKit.Below w.heap.size w (Go.Sort.grow (w.drewN k) os):=
 ⟨rfl,rfl,rfl,by show w.heap.size≤(w.heap++os).size;rw[Array.size_append];omega,fun b hb=>by show(w.heap++os)[b]?= _;rw[aMS hb]⟩
theorem xK(n:Int)(hn:rP .i64 n)(D:aA)(hV:kG D):Fn Tryz.prog 42 #[.int .i64 n] D (fun _ v=>v=.string (f8 (itoa n))):=by
 have hb: -9223372036854775808≤n∧n≤9223372036854775807:=by simpa [rP]using hn
 refine Fn.of_below (EF.of Tryz.func42 rfl rfl) fun w hw=>(Go.Proofs.Tryz.strconv_Itoa n hb.1 hb.2 w (hV.tabIs hw)).mono ?_
 rintro e w' ⟨rfl,k,os,rfl⟩;exact⟨_,rfl,o7 w k os,fun _ _=>rfl⟩
theorem SL(s:ByteArray)(hs:s.size≤1000)(D:aA)(hV:kG D):Fn Tryz.prog 99 #[.string s,.string ⟨#[32]⟩] D (fun D' v=>Sl D' RS 1 v (dB s)):=by
 obtain⟨m,hm⟩:=hV.maxLen;refine Fn.of_alloc (cs:=(dB s).map Value.string) (e:=9) (r:=fun b=>.slice (some ⟨b,0,none⟩) (dB s).length (dB s).length) (EF.of Tryz.func99 rfl rfl) (fun w hw=>(Go.Proofs.Tryz.strings_Split s ⟨#[32]⟩ m w Yd (hw.cell hm) Yah).mono ?_) fun D' b _ hA=>?_
 ·rintro e w' ⟨rfl,rfl⟩;rw[ET,o6];exact⟨rfl,rfl⟩
 ·have hl:(dB s).length≤1001:=by unfold dB;rw[aMI];exact aMU (b9 _) (by show s.size+1≤1001;omega)
  refine⟨_,_,rfl,aKR _,by omega,aKB ⟨b,0,rfl,fun i x hi=>⟨_,rfl,rfl,fun j v hj=>?_⟩⟩⟩;cases j with
  |zero=>
   obtain rfl:Value.string x=v:=by simpa using hj
   have h:=hA i (.string x) (by rw[aLC,hi];rfl);simpa using h
  |succ j=>simp at hj
theorem YS(s:ByteArray)(hs:s.size≤1000)(D:aA)(hV:kG D):Fn Tryz.prog 176 #[.string s] D (fun _ v=>∃m c,v=.tuple #[.int .i64 m,c]∧rP .i64 m∧((c=.nilIface∧atoiAll s.data.toList=.ok m)∨((∃t u,c=.iface t u)∧∀x,atoiAll s.data.toList≠.ok x))):=by
 refine Fn.of_below (EF.of Tryz.func176 rfl rfl) fun w hw=>?_
 rcases h:atoiAll s.data.toList with v|_|_
 ·refine(Go.Proofs.Tryz.strconv_Atoi_ok s Yd v h w).mono ?_;rintro e w' ⟨rfl,hw'⟩;refine⟨_,rfl,?_,fun _ _=>⟨v,_,rfl,by have:=atoiAll_bounds h;simp only[rP];omega,aKP ⟨rfl,rfl⟩⟩⟩
  rcases hw' with rfl|⟨t,rfl⟩
  ·exact .refl _ _
  ·exact p5 w _ t
 ·obtain⟨c,hc,hc'⟩:=hV.esyn;refine(Go.Proofs.Tryz.strconv_Atoi_syntax s Yd h c w (hw.cell hc) hc').mono ?_;rintro e w' ⟨N,rfl,_,_,hb⟩;exact⟨_,rfl,hb,fun _ _=>⟨0,_,rfl,by simp only[rP];omega,aKB ⟨⟨_,_,rfl⟩,fun x hx=>by cases hx⟩⟩⟩
 ·obtain⟨c,hc,hc'⟩:=hV.erng;refine(Go.Proofs.Tryz.strconv_Atoi_range s Yd h c w (hw.cell hc) hc').mono ?_;rintro e w' ⟨N,rfl,_,_,hb⟩;exact⟨_,rfl,hb,fun _ _=>⟨_,_,rfl,by unfold atoiSat;split<;>simp only[rP]<;>omega,aKB ⟨⟨_,_,rfl⟩,fun x hx=>by cases hx⟩⟩⟩
theorem PZ{s:ByteArray}{m:Int}{c:Value}(h:(c=.nilIface∧atoiAll s.data.toList=.ok m)∨((∃t u,c=.iface t u)∧∀x,atoiAll s.data.toList≠.ok x)):lM s.data.toList=if(((KW c&&decide (m≥0))&&decide ((s.size:Int)≤3))&&decide (f8 (itoa m)=s))=true then some m else none:=by
 rw[←HG];unfold WB;rcases h with⟨rfl,h⟩|⟨⟨t,u,rfl⟩,h⟩
 ·rw[h];have e:s.data.toList.length=s.size:=rfl;have e2:(f8 (itoa m)=s) ↔ itoa m=s.data.toList:=⟨fun h=>by rw[←h];rfl,fun h=>by rw[h];exact sH s⟩
  simp only[KW,aNI,aKG,aKU,e,e2,and_assoc];congr 1;simp only[eq_iff_iff];constructor
  ·rintro⟨h1,h2,h3⟩;exact⟨h1,by omega,h3⟩
  ·rintro⟨h1,h2,h3⟩;exact⟨h1,by omega,h3⟩
 ·split
  ·rename_i v hv;exact absurd hv (h v)
  ·rfl
theorem WA{s:ByteArray}{m:Int}{c:Value}(h:(c=.nilIface∧atoiAll s.data.toList=.ok m)∨((∃t u,c=.iface t u)∧∀x,atoiAll s.data.toList≠.ok x)):(((KW c&&decide (m≥0))&&decide ((s.size:Int)≤3))&&decide (f8 (itoa m)=s))=true→lM s.data.toList=some m:=fun hb=>by rw[PZ h,aKS hb]
theorem aBM{s:ByteArray}{m:Int}{c:Value}(h:(c=.nilIface∧atoiAll s.data.toList=.ok m)∨((∃t u,c=.iface t u)∧∀x,atoiAll s.data.toList≠.ok x)):(((KW c&&decide (m≥0))&&decide ((s.size:Int)≤3))&&decide (f8 (itoa m)=s))=false→lM s.data.toList=none:=fun hb=>by rw[PZ h,aKO (by rw[hb];simp)]
theorem LD(s:ByteArray)(hs:s.size≤1000)(D:aA)(hV:kG D):Fn Tryz.prog 102 #[.string s] D (fun _ v=>∃m b,v=.tuple #[.int .i64 m,.bool b]∧(b=true→lM s.data.toList=some m)∧(b=false→lM s.data.toList=none)):=by
 refine enter 29 Tryz.func102 rfl rfl rfl rfl fun h0=>C.s1<|Zi rfl<|Zi rfl<|L.n3<|Za rfl<|bU rfl rfl rfl (fun D1 hD1=>YS s hs _ (hV.up (hD1 _ Ye))) rfl aGL (fun v1 D1 hD1 hp1=>?_)
 obtain⟨m,c,rfl,hm2,hm3⟩:=hp1;refine Za rfl<|Zaa rfl<|Zaa rfl<|Zi rfl<|Zi rfl<|L.n3<|Za rfl<|Za rfl<|BO rfl U100 rfl (by rcases hm3 with⟨h,_⟩|⟨h,_⟩;exact Or.inl h;exact Or.inr h) rfl trivial<|Za rfl ?_
 refine' cQ [(false,4),(false,5),(false,6)] [(false,7),(false,8),(false,9),(false,10),(false,11),(false,12),(false,13),(false,14),(false,15),(false,16),(false,17),(false,18),(false,19)] (s:=14) (p:=17) rfl rfl (fun hg1=>?_) (fun hg1=>?_) ?_;rotate_left
 ·refine Zb rfl<|nI rfl rfl rfl rfl ⟨_,rfl,rfl⟩<|Zac rfl ?_;exact L.cu 2
 ·refine Zl rfl<|Zl rfl<|Zad rfl ?_;exact L.cu 2
 refine Za rfl ?_;refine' cQ [(false,8),(false,9),(false,10),(false,11)] [(false,12),(false,13),(false,14),(false,15),(false,16),(false,17),(false,18),(false,19)] (s:=18) (p:=22) rfl rfl (fun hg2=>?_) (fun hg2=>?_) ?_;rotate_left
 ·refine Zb rfl<|gH rfl U9 rfl rfl rfl ⟨_,rfl,rfl⟩<|iM rfl rfl rfl rfl ⟨_,rfl,rfl⟩<|Zac rfl ?_;exact L.cu 3
 ·refine Zl rfl<|Zl rfl<|Zl rfl<|Zad rfl ?_;exact L.cu 3
 refine Za rfl ?_;refine' cQ [(false,13),(false,14),(false,15),(false,16),(false,17)] [(false,18),(false,19)] (s:=23) (p:=28) rfl rfl (fun hg3=>?_) (fun hg3=>?_) ?_;rotate_left
 ·refine Zb rfl<|Ze rfl (fun D2 hD2=>xK m hm2 _ (hV.up (hD2 _ Ye)))<|Zb rfl<|cB rfl rfl rfl rfl ⟨_,rfl,rfl⟩<|Zac rfl ?_;exact L.cu 4
 ·refine Zl rfl<|Zl rfl<|Zl rfl<|Zl rfl<|Zad rfl ?_;exact L.cu 4
 refine Zi rfl<|Zi rfl<|L.n5 ?_;exact Zc [_,_] rfl C.rs (fun D hD=>⟨m,_,rfl,WA hm3,aBM hm3⟩)
end L12
end Go.Fs
