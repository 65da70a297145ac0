/- Of the proof of BookWrites: Str, Lay, BW17. -/
import Derived.Test.YtelhnbcdablgoaaGreatDoorZBookWritesAJ
import Derived.Laws.Concat
import Derived.Laws.Strings
import Derived.WideShapes
import Derived.Below
import Derived.Test.YtelhnbcdablgoaaGreatDoorZBookWritesAA
import Derived.Shelf.Strings.Builder1
import Derived.Shelf.LaysM
import Derived.Shelf.Strconv.Itoa3
import Derived.Shelf.LaysC
import Derived.Shelf.Strconv.AtoiAll
import Derived.Shelf.Strings.Split
import Derived.Test.YtelhnbcdablgoaaGreatDoorProg
namespace Go.Fs
variable{P:Program}{X:Cx}{γb:Type}[Membership Nat γb]{bad:γb}{all:Array Oper}{K:Act→World→Prop}{Q:Exit→Act→World→Prop}
variable{σ:bQ}{μ:aC}{Ds:List aA}{os:List (Bool×Nat)}{fl:Bool}{ix:Nat}
variable{d:Nat}{x y z:Operand}{u v:Value}{ty:TypeId}{pos:String}{aft:Array Edge}{g:Option (Nat×Bool)}
theorem X2(a b:ByteArray):(a.toList==b.toList)=decide (a=b):=by
 rw[aJO];simp only[aKV,aGZ];rw[ByteArray.toList_eq,ByteArray.toList_eq];exact⟨fun h=>Go.WideShapes.bytes_inj h,fun h=>by rw[h]⟩
theorem dZ{t t':TypeId}{a b:ByteArray}(ho:all[ix]?= some ⟨some d,.binOp .add t x y t',ty,pos,aft,g⟩)(hx:ev σ x=some (.string a))(hy:ev σ y=some (.string b))(hl:a.size+b.size≤9223372036854775807)(hN:Nat.blt d X.N=true)(hg:cS all σ g)
  (kk:WL P X bad all K Q os ((d,.string (a++b))::σ) μ Ds):WL P X bad all K Q ((fl,ix)::os) σ μ Ds:=
 bH ho rfl rfl hN hg (fun ρ hρ w'=>by
  have:((do eqGuard .add t x y (.string a) (.string b);binOp .add t (.string a) (.string b)):Sem Value).run P w'=.ok (.string (a++b)) w':=by
   rw[Sem.run_bind];have h1:(eqGuard .add t x y (.string a) (.string b)).run P w'=.ok () w':=rfl;rw[h1];show(binOp .add t (.string a) (.string b)).run P w'=_;rw[binOp_string_add];exact run_string_add_sum _ a b hl
  simp only[execOp,hρ x _ hx,hρ y _ hy];rw[Sem.run_bind,this];rfl) kk
theorem tB{t t':TypeId}{a b:ByteArray}(ho:all[ix]?= some ⟨some d,.binOp .eql t x y t',ty,pos,aft,g⟩)(hx:ev σ x=some (.string a))(hy:ev σ y=some (.string b))(hN:Nat.blt d X.N=true)(hg:cS all σ g)
  (kk:WL P X bad all K Q os ((d,.bool (decide (a=b)))::σ) μ Ds):WL P X bad all K Q ((fl,ix)::os) σ μ Ds:=
 sX ho (fun w=>by
  rw[Sem.run_bind];have h1:(eqGuard .eql t x y (.string a) (.string b)).run P w=.ok () w:=rfl;rw[h1,←X2];show(binOp .eql t (.string a) (.string b)).run P w=_;rw[binOp_string_eql];rfl) hx hy hN hg kk
theorem TJ{t t':TypeId}{a b:ByteArray}(ho:all[ix]?= some ⟨some d,.binOp .neq t x y t',ty,pos,aft,g⟩)(hx:ev σ x=some (.string a))(hy:ev σ y=some (.string b))(hN:Nat.blt d X.N=true)(hg:cS all σ g)
  (kk:WL P X bad all K Q os ((d,.bool (!decide (a=b)))::σ) μ Ds):WL P X bad all K Q ((fl,ix)::os) σ μ Ds:=
 d6 ho (fun w=>by
  rw[Sem.run_bind];have h1:(eqGuard .neq t x y (.string a) (.string b)).run P w=.ok () w:=rfl;rw[h1,←X2];show(binOp .neq t (.string a) (.string b)).run P w=_;rw[binOp_string_neq];rfl) hx hy hN hg kk
theorem N4{t:TypeId}{s:ByteArray}{k:IntKind}{i:Int}{c:UInt8}(ho:all[ix]?= some ⟨some d,.index t x y,ty,pos,aft,g⟩)(ht:P.underlying t=some .string)(hx:ev σ x=some (.string s))(hy:ev σ y=some (.int k i))(h0:0≤i)(hc:s[i.toNat]?= some c)(hN:Nat.blt d X.N=true)(hg:cS all σ g)
  (kk:WL P X bad all K Q os ((d,.int .u8 c.toNat)::σ) μ Ds):WL P X bad all K Q ((fl,ix)::os) σ μ Ds:=
 bH ho rfl rfl hN hg (fun ρ hρ w'=>by
  simp only[execOp,hρ x _ hx,hρ y _ hy];unfold Instr.index asIntOf;simp only[Sem.run_bind,TU.of ht w',Result.andThen_ok,Sem.run_pure,pure_bind,h0,aII,hc]) kk
theorem CX{t:TypeId}{s:ByteArray}{k1 k2:IntKind}{i j:Int}(ho:all[ix]?= some ⟨some d,.slice t x (some y) (some z) none,ty,pos,aft,g⟩)(ht:P.underlying t=some .string)(hx:ev σ x=some (.string s))(hy:ev σ y=some (.int k1 i))(hz:ev σ z=some (.int k2 j))(h0:0≤i)(h1:i≤j)(h2:j≤(s.size:Int))(hN:Nat.blt d X.N=true)(hg:cS all σ g)
  (kk:WL P X bad all K Q os ((d,.string (s.extract i.toNat j.toNat))::σ) μ Ds):WL P X bad all K Q ((fl,ix)::os) σ μ Ds:=
 bH ho rfl rfl hN hg (fun ρ hρ w'=>by
  simp only[execOp,hρ x _ hx,hρ y _ hy,hρ z _ hz,aIK,aHM];unfold Instr.sliceAt Instr.slice Instr.sliceBounds Instr.sliceBound asIntOf;have a1:0≤i∧i≤((j.toNat:Nat):Int):=by omega
  have a2:0≤j∧j≤(s.size:Int):=by omega
  simp only[Sem.run_bind,TU.of ht w',Result.andThen_ok,Sem.run_pure,pure_bind,a1,a2,aLA,aII,Option.isSome_none,aHL,aIL]) kk
def JJ:Value→Bool
 |.nilIface=>true
 |_=>false
theorem EL{t t':TypeId}{c:Value}{ms:Array (String×TypeId)}(ho:all[ix]?= some ⟨some d,.binOp .eql t x (.const .nilIface) t',ty,pos,aft,g⟩)(ht:P.underlying t=some (.interface ms))(hx:ev σ x=some c)(hc:c=.nilIface∨∃t u,c=.iface t u)(hN:Nat.blt d X.N=true)(hg:cS all σ g)
  (kk:WL P X bad all K Q os ((d,.bool (JJ c))::σ) μ Ds):WL P X bad all K Q ((fl,ix)::os) σ μ Ds:=
 sX ho (fun w=>by
  have h1:(eqGuard .eql t x (.const .nilIface) c .nilIface).run P w=.ok () w:=by
   rcases hc with rfl|⟨_,_,rfl⟩
   ·simp only[eqGuard];cases x<;>rfl
   ·rfl
  have h2:(Op.equal t c .nilIface).run P w=.ok (JJ c) w:=by
   show(Op.equalIn (9999+1) t c .nilIface).run P w=_;rw[Op.equalIn,Sem.run_bind,TU.of ht w];rcases hc with rfl|⟨_,_,rfl⟩<;>rfl
  rw[Sem.run_bind,h1];have h3:(binOp .eql t c .nilIface).run P w=((do Pure.pure (Value.bool (←Op.equal t c .nilIface))):Sem Value).run P w:=by rcases hc with rfl|⟨_,_,rfl⟩<;>rfl
  show(binOp .eql t c .nilIface).run P w=_;rw[h3,Sem.run_bind,h2];rfl) hx rfl hN hg kk
theorem NG{t t':TypeId}{fs:Array Field}(ho:all[ix]?= some ⟨some d,.typeAssert x t' t true,ty,pos,aft,g⟩)(ht:P.underlying t=some (.struct fs))(hx:ev σ x=some (.iface t v))(hN:Nat.blt d X.N=true)(hg:cS all σ g)
  (kk:WL P X bad all K Q os ((d,.tuple #[v,.bool true])::σ) μ Ds):WL P X bad all K Q ((fl,ix)::os) σ μ Ds:=
 bH ho rfl rfl hN hg (fun ρ hρ w'=>by
  simp only[execOp,hρ x _ hx];unfold Instr.typeAssert;simp only[Sem.run_bind,TU.of ht w',Result.andThen_ok,aII,Sem.run_pure]) kk

theorem Fn.of_below{f:FuncId}{args:Array Value}{D:aA}{post:aA→Value→Prop}(hEF:EF P f)(h:∀w,dQ D w→Calls P f args w fun en w'=>∃r,en=.returned r∧Go.RowKit.Below w.heap.size w w'∧∀D',Le D D'→post D' r):Fn P f args D post:=by
 refine⟨hEF,fun w hw=>(h w hw).mono ?_⟩;rintro en w' ⟨r,he,hb,hp⟩;refine⟨r,D,he,⟨aGW _,hb.size,fun b hl _=>hb.block b hl,fun _ _=>rfl,hw.of (fun b hb'=>?_) rfl (hb.block 0 hw.pos),(fun p hp=>by cases hp),aID,(fun p hp=>by cases hp),fun e he=>by rw[←aHC he];exact Prod.ext hb.os hb.output⟩,hp D (Le.refl _)⟩
 obtain⟨cs,e,fz,h1,h2⟩:=hw.1 b hb';exact⟨cs,e,fz,by rw[hb.block b (aY h1)];exact h1,h2⟩
theorem tH{α:Type}{R:Rd α}{t e:TypeId}{D₁:aA}{ad:Option Addr}{n cap j:Nat}{k:IntKind}{xs:List α}(ho:all[ix]?= some ⟨some d,.slice t x (some y) none none,ty,pos,aft,g⟩)(ht:P.underlying t=some (.slice e))(hs:TS P e 1)(hx:ev σ x=some (.slice ad n cap))(hS:Sl D₁ R 1 (.slice ad n cap) xs)(hy:ev σ y=some (.int k (j:Int)))(hj:j≤n)
  (hN:Nat.blt d X.N=true) (hg:cS all σ g) (kk:∀a',Sl D₁ R 1 (.slice a' (n-j) (cap-j)) (xs.drop j)→WL P X bad all K Q os ((d,.slice a' (n-j) (cap-j))::σ) μ Ds):WL P X bad all K Q ((fl,ix)::os) σ μ Ds:=by
 obtain⟨a,c,hv,h1,h2,h3⟩:=hS;cases hv;refine bH (v:=.slice (if cap=j then ad else ad.map (·.add (j*1))) (xs.length-j) (cap-j)) ho rfl rfl hN hg (fun ρ hρ w'=>?_) (kk _ ⟨_,_,by rw[aHU],by rw[aHU];omega,by rw[aHU];omega,?_⟩)
 ·simp only[execOp,aIK,aHM,hρ x _ hx,hρ y _ hy];unfold Instr.sliceAt Instr.slice Instr.sliceBounds Instr.sliceBound asIntOf;have hle:(0:Int)≤(j:Int)∧(j:Int)≤(xs.length:Nat):=by omega
  simp only[Sem.run_bind,TU.of ht w',Result.andThen_ok,Sem.run_pure,pure_bind,hs w',hle,aLA,aII,aIH]
 ·by_cases he:xs.length=j
  ·exact aGR (aHO Yd)
  ·rcases h3 with h3|⟨b,o,rfl,h3⟩
   ·subst h3;simp at he hj;omega
   ·refine aGH ⟨b,o+j,by rw[aGQ Yd];simp[dW],fun i z hi=>?_⟩;rw[aIQ]at hi;obtain⟨cs,hr,hc,hA⟩:=h3 _ _ hi;exact⟨cs,hr,hc,by rw[show o+j+i*1=o+(j+i)*1 by omega];exact hA⟩
end Go.Fs
namespace Go.Proofs
open Go.Shelf
def Tryz.lays169_ren:Go.Shelf.Ren:=⟨fun|169=>53|n=>n,fun|70=>113|9=>9|0=>0|72=>115|37=>51|127=>224|3=>3|5=>5|n=>n,fun|n=>n⟩
theorem Tryz.lays169:Go.Proofs.Lays.n169 Tryz.prog Tryz.lays169_ren:={
 mixed:=by kernel_rfl
 f169:=Tryz.func53.trans (aGV some Yg)
 t0:=Tryz.underlying0
 a0:=Tryz.isAgg0
 z0:=Tryz.sizeOf0
 v0:=Tryz.zeroValue0
 t3:=Tryz.underlying3
 a3:=Tryz.isAgg3
 z3:=Tryz.sizeOf3
 v3:=Tryz.zeroValue3
 t9:=Tryz.underlying9
 a9:=Tryz.isAgg9
 z9:=Tryz.sizeOf9
 v9:=Tryz.zeroValue9
 t37:=Tryz.underlying51
 a37:=Tryz.isAgg51
 z37:=Tryz.sizeOf51
 v37:=Tryz.zeroValue51
 t70:=Tryz.underlying113
 a70:=Tryz.isAgg113
 z70:=Tryz.sizeOf113
 v70:=Tryz.zeroValue113
 t72:=Tryz.underlying115
 a72:=Tryz.isAgg115
 z72:=Tryz.sizeOf115
 v72:=Tryz.zeroValue115
 t127:=Tryz.underlying224
 a127:=Tryz.isAgg224
 z127:=Tryz.sizeOf224
 v127:=Tryz.zeroValue224}
theorem Tryz.Builder_Extra_169:Builder.Extra Tryz.prog Tryz.lays169_ren:={
 sizeBuilder:=by kernel_rfl
 liesBuilder:=by kernel_rfl
 t5:=Tryz.underlying5
 a5:=Tryz.isAgg5
 z5:=Tryz.sizeOf5
 v5:=Tryz.zeroValue5
 infoByte:=by kernel_rfl
 cellsByte:=by kernel_rfl
 sizeByte:=by kernel_rfl
 neB5:=by decide}
open Go.RowKit in
theorem Tryz.Builder_String_any(B b:Nat)(l:List UInt8)(w:World)(h:Lib.IsBuilder 115 5 B b (Lib.byteCells l) w)(hBw:B≤w.heap.size):
  Calls Tryz.prog 53 #[.pointer (some ⟨b,0,none⟩)] w fun e w'=>e=.returned (.string ⟨l.toArray⟩)∧Below B w w':=Any.Builder_String_any Tryz.lays169 Tryz.Builder_Extra_169 B b l w h hBw
def Tryz.laysM171_ren:Go.Shelf.Ren:=⟨fun|171=>42|243=>72|246=>125|283=>202|284=>203|285=>204|286=>205|129=>267|317=>266|318=>268|319=>269|320=>270|337=>296|338=>297|n=>n,fun|3=>3|9=>9|2=>2|4=>4|171=>339|0=>0|53=>340|37=>51|5=>5|173=>343|212=>388|51=>389|20=>20|213=>390|46=>391|232=>417|233=>418|n=>n,fun|17=>0|18=>4|19=>5|n=>n⟩
theorem Tryz.laysM171:Go.Proofs.LaysM.n171 Tryz.prog Tryz.laysM171_ren:={
 mixed:=by kernel_rfl
 f129:=Tryz.func267.trans (aGV some Yg)
 f171:=Tryz.func42.trans (aGV some Yg)
 f243:=Tryz.func72.trans (aGV some Yg)
 f246:=Tryz.func125.trans (aGV some Yg)
 f283:=Tryz.func202.trans (aGV some Yg)
 f284:=Tryz.func203.trans (aGV some Yg)
 f285:=Tryz.func204.trans (aGV some Yg)
 f286:=Tryz.func205.trans (aGV some Yg)
 f317:=Tryz.func266.trans (aGV some Yg)
 f318:=Tryz.func268.trans (aGV some Yg)
 f319:=Tryz.func269.trans (aGV some Yg)
 f320:=Tryz.func270.trans (aGV some Yg)
 f337:=Tryz.func296.trans (aGV some Yg)
 f338:=Tryz.func297.trans (aGV some Yg)
 t0:=Tryz.underlying0
 a0:=Tryz.isAgg0
 z0:=Tryz.sizeOf0
 v0:=Tryz.zeroValue0
 t2:=Tryz.underlying2
 a2:=Tryz.isAgg2
 z2:=Tryz.sizeOf2
 v2:=Tryz.zeroValue2
 t3:=Tryz.underlying3
 a3:=Tryz.isAgg3
 z3:=Tryz.sizeOf3
 v3:=Tryz.zeroValue3
 t4:=Tryz.underlying4
 a4:=Tryz.isAgg4
 z4:=Tryz.sizeOf4
 v4:=Tryz.zeroValue4
 t5:=Tryz.underlying5
 a5:=Tryz.isAgg5
 z5:=Tryz.sizeOf5
 v5:=Tryz.zeroValue5
 t9:=Tryz.underlying9
 a9:=Tryz.isAgg9
 z9:=Tryz.sizeOf9
 v9:=Tryz.zeroValue9
 t20:=Tryz.underlying20
 a20:=Tryz.isAgg20
 z20:=Tryz.sizeOf20
 v20:=Tryz.zeroValue20
 t37:=Tryz.underlying51
 a37:=Tryz.isAgg51
 z37:=Tryz.sizeOf51
 v37:=Tryz.zeroValue51
 t46:=Tryz.underlying391
 a46:=Tryz.isAgg391
 z46:=Tryz.sizeOf391
 v46:=Tryz.zeroValue391
 t51:=Tryz.underlying389
 a51:=Tryz.isAgg389
 z51:=Tryz.sizeOf389
 v51:=Tryz.zeroValue389
 t53:=Tryz.underlying340
 a53:=Tryz.isAgg340
 z53:=Tryz.sizeOf340
 v53:=Tryz.zeroValue340
 t171:=Tryz.underlying339
 a171:=Tryz.isAgg339
 z171:=Tryz.sizeOf339
 v171:=Tryz.zeroValue339
 t173:=Tryz.underlying343
 a173:=Tryz.isAgg343
 z173:=Tryz.sizeOf343
 v173:=Tryz.zeroValue343
 t212:=Tryz.underlying388
 a212:=Tryz.isAgg388
 z212:=Tryz.sizeOf388
 v212:=Tryz.zeroValue388
 t213:=Tryz.underlying390
 a213:=Tryz.isAgg390
 z213:=Tryz.sizeOf390
 t232:=Tryz.underlying417
 a232:=Tryz.isAgg417
 z232:=Tryz.sizeOf417
 v232:=Tryz.zeroValue417
 t233:=Tryz.underlying418
 a233:=Tryz.isAgg418
 z233:=Tryz.sizeOf418
 v233:=Tryz.zeroValue418
 g17:=by kernel_rfl
 g18:=by kernel_rfl
 g19:=by kernel_rfl
 i0:=by kernel_rfl
 i2:=by kernel_rfl
 i3:=by kernel_rfl
 i4:=by kernel_rfl
 i5:=by kernel_rfl
 i9:=by kernel_rfl
 i20:=by kernel_rfl
 i37:=by kernel_rfl
 i46:=by kernel_rfl
 i51:=by kernel_rfl
 i53:=by kernel_rfl
 i171:=by kernel_rfl
 i173:=by kernel_rfl
 i212:=by kernel_rfl
 i232:=by kernel_rfl
 i233:=by kernel_rfl
 m17:=by kernel_rfl
 m18:=by kernel_rfl
 m19:=by kernel_rfl}
open Go.RowKit Go.Sort Go.Lib in
theorem Tryz.strconv_Itoa(n:Int)(h0: -9223372036854775808≤n)(h1:n≤9223372036854775807)(w:World)(htab:Lib.TabIs Tryz.prog w "internal/strconv.uint64pow10" .u64 Lib.pow10Tab):
  Calls Tryz.prog 42 #[.int .i64 n] w fun e w'=>e=.returned (.string ⟨(Lib.itoa n).toArray⟩)∧∃k os,w'=grow (w.drewN k) os:=Any.strconv_Itoa Tryz.laysM171 n h0 h1 w htab
def Tryz.laysC172_ren:Go.Shelf.Ren:=⟨fun|172=>191|244=>261|245=>262|247=>291|279=>292|280=>293|281=>294|282=>295|287=>306|316=>307|171=>42|205=>308|321=>311|322=>312|243=>72|246=>125|283=>202|284=>203|285=>204|286=>205|129=>267|317=>266|318=>268|319=>269|320=>270|337=>296|338=>297|n=>n,fun|9=>9|3=>3|75=>117|76=>118|4=>4|5=>5|167=>402|37=>51|0=>0|85=>403|2=>2|168=>405|53=>340|175=>411|46=>391|210=>415|127=>224|145=>428|143=>426|21=>21|171=>339|173=>343|212=>388|51=>389|20=>20|213=>390|232=>417|233=>418|80=>139|n=>n,fun|15=>2|16=>3|17=>0|18=>4|19=>5|n=>n⟩
theorem Tryz.laysC172:Go.Proofs.LaysC.n172 Tryz.prog Tryz.laysC172_ren:={
 mixed:=by kernel_rfl
 f129:=Tryz.func267.trans (aGV some Yg)
 f171:=Tryz.func42.trans (aGV some Yg)
 f172:=Tryz.func191.trans (aGV some Yg)
 f205:=Tryz.func308.trans (aGV some Yg)
 f243:=Tryz.func72.trans (aGV some Yg)
 f244:=Tryz.func261.trans (aGV some Yg)
 f245:=Tryz.func262.trans (aGV some Yg)
 f246:=Tryz.func125.trans (aGV some Yg)
 f247:=Tryz.func291.trans (aGV some Yg)
 f279:=Tryz.func292.trans (aGV some Yg)
 f280:=Tryz.func293.trans (aGV some Yg)
 f281:=Tryz.func294.trans (aGV some Yg)
 f282:=Tryz.func295.trans (aGV some Yg)
 f283:=Tryz.func202.trans (aGV some Yg)
 f284:=Tryz.func203.trans (aGV some Yg)
 f285:=Tryz.func204.trans (aGV some Yg)
 f286:=Tryz.func205.trans (aGV some Yg)
 f287:=Tryz.func306.trans (aGV some Yg)
 f316:=Tryz.func307.trans (aGV some Yg)
 f317:=Tryz.func266.trans (aGV some Yg)
 f318:=Tryz.func268.trans (aGV some Yg)
 f319:=Tryz.func269.trans (aGV some Yg)
 f320:=Tryz.func270.trans (aGV some Yg)
 f321:=Tryz.func311.trans (aGV some Yg)
 f322:=Tryz.func312.trans (aGV some Yg)
 f337:=Tryz.func296.trans (aGV some Yg)
 f338:=Tryz.func297.trans (aGV some Yg)
 t0:=Tryz.underlying0
 a0:=Tryz.isAgg0
 z0:=Tryz.sizeOf0
 v0:=Tryz.zeroValue0
 t2:=Tryz.underlying2
 a2:=Tryz.isAgg2
 z2:=Tryz.sizeOf2
 v2:=Tryz.zeroValue2
 t3:=Tryz.underlying3
 a3:=Tryz.isAgg3
 z3:=Tryz.sizeOf3
 v3:=Tryz.zeroValue3
 t4:=Tryz.underlying4
 a4:=Tryz.isAgg4
 z4:=Tryz.sizeOf4
 v4:=Tryz.zeroValue4
 t5:=Tryz.underlying5
 a5:=Tryz.isAgg5
 z5:=Tryz.sizeOf5
 v5:=Tryz.zeroValue5
 t9:=Tryz.underlying9
 a9:=Tryz.isAgg9
 z9:=Tryz.sizeOf9
 v9:=Tryz.zeroValue9
 t20:=Tryz.underlying20
 a20:=Tryz.isAgg20
 z20:=Tryz.sizeOf20
 v20:=Tryz.zeroValue20
 t21:=Tryz.underlying21
 a21:=Tryz.isAgg21
 z21:=Tryz.sizeOf21
 v21:=Tryz.zeroValue21
 t37:=Tryz.underlying51
 a37:=Tryz.isAgg51
 z37:=Tryz.sizeOf51
 v37:=Tryz.zeroValue51
 t46:=Tryz.underlying391
 a46:=Tryz.isAgg391
 z46:=Tryz.sizeOf391
 v46:=Tryz.zeroValue391
 t51:=Tryz.underlying389
 a51:=Tryz.isAgg389
 z51:=Tryz.sizeOf389
 v51:=Tryz.zeroValue389
 t53:=Tryz.underlying340
 a53:=Tryz.isAgg340
 z53:=Tryz.sizeOf340
 v53:=Tryz.zeroValue340
 t75:=Tryz.underlying117
 a75:=Tryz.isAgg117
 z75:=Tryz.sizeOf117
 v75:=Tryz.zeroValue117
 t76:=Tryz.underlying118
 a76:=Tryz.isAgg118
 z76:=Tryz.sizeOf118
 v76:=Tryz.zeroValue118
 t85:=Tryz.underlying403
 a85:=Tryz.isAgg403
 z85:=Tryz.sizeOf403
 v85:=Tryz.zeroValue403
 t127:=Tryz.underlying224
 a127:=Tryz.isAgg224
 z127:=Tryz.sizeOf224
 v127:=Tryz.zeroValue224
 t143:=Tryz.underlying426
 a143:=Tryz.isAgg426
 z143:=Tryz.sizeOf426
 v143:=Tryz.zeroValue426
 t145:=Tryz.underlying428
 a145:=Tryz.isAgg428
 z145:=Tryz.sizeOf428
 v145:=Tryz.zeroValue428
 t167:=Tryz.underlying402
 a167:=Tryz.isAgg402
 z167:=Tryz.sizeOf402
 v167:=Tryz.zeroValue402
 t168:=Tryz.underlying405
 a168:=Tryz.isAgg405
 z168:=Tryz.sizeOf405
 v168:=Tryz.zeroValue405
 t171:=Tryz.underlying339
 a171:=Tryz.isAgg339
 z171:=Tryz.sizeOf339
 v171:=Tryz.zeroValue339
 t173:=Tryz.underlying343
 a173:=Tryz.isAgg343
 z173:=Tryz.sizeOf343
 v173:=Tryz.zeroValue343
 t175:=Tryz.underlying411
 a175:=Tryz.isAgg411
 z175:=Tryz.sizeOf411
 v175:=Tryz.zeroValue411
 t210:=Tryz.underlying415
 a210:=Tryz.isAgg415
 z210:=Tryz.sizeOf415
 v210:=Tryz.zeroValue415
 t212:=Tryz.underlying388
 a212:=Tryz.isAgg388
 z212:=Tryz.sizeOf388
 v212:=Tryz.zeroValue388
 t213:=Tryz.underlying390
 a213:=Tryz.isAgg390
 z213:=Tryz.sizeOf390
 t232:=Tryz.underlying417
 a232:=Tryz.isAgg417
 z232:=Tryz.sizeOf417
 v232:=Tryz.zeroValue417
 t233:=Tryz.underlying418
 a233:=Tryz.isAgg418
 z233:=Tryz.sizeOf418
 v233:=Tryz.zeroValue418
 g15:=by kernel_rfl
 g16:=by kernel_rfl
 g17:=by kernel_rfl
 g18:=by kernel_rfl
 g19:=by kernel_rfl
 t80:=Tryz.underlying139
 a80:=Tryz.isAgg139
 z80:=Tryz.sizeOf139
 v80:=Tryz.zeroValue139
 i0:=by kernel_rfl
 i2:=by kernel_rfl
 i3:=by kernel_rfl
 i4:=by kernel_rfl
 i5:=by kernel_rfl
 i9:=by kernel_rfl
 i20:=by kernel_rfl
 i21:=by kernel_rfl
 i37:=by kernel_rfl
 i46:=by kernel_rfl
 i51:=by kernel_rfl
 i53:=by kernel_rfl
 i75:=by kernel_rfl
 i76:=by kernel_rfl
 i80:=by kernel_rfl
 i85:=by kernel_rfl
 i127:=by kernel_rfl
 i143:=by kernel_rfl
 i145:=by kernel_rfl
 i167:=by kernel_rfl
 i168:=by kernel_rfl
 i171:=by kernel_rfl
 i173:=by kernel_rfl
 i175:=by kernel_rfl
 i210:=by kernel_rfl
 i212:=by kernel_rfl
 i232:=by kernel_rfl
 i233:=by kernel_rfl
 m15:=by kernel_rfl
 m16:=by kernel_rfl
 m17:=by kernel_rfl
 m18:=by kernel_rfl
 m19:=by kernel_rfl
 c0:=by kernel_rfl
 c2:=by kernel_rfl
 c3:=by kernel_rfl
 c4:=by kernel_rfl
 c5:=by kernel_rfl
 c9:=by kernel_rfl
 c20:=by kernel_rfl
 c21:=by kernel_rfl
 c37:=by kernel_rfl
 c46:=by kernel_rfl
 c51:=by kernel_rfl
 c53:=by kernel_rfl
 c75:=by kernel_rfl
 c76:=by kernel_rfl
 c80:=by kernel_rfl
 c85:=by kernel_rfl
 c127:=by kernel_rfl
 c143:=by kernel_rfl
 c145:=by kernel_rfl
 c167:=by kernel_rfl
 c168:=by kernel_rfl
 c171:=by kernel_rfl
 c173:=by kernel_rfl
 c175:=by kernel_rfl
 c210:=by kernel_rfl
 c212:=by kernel_rfl
 c213:=by kernel_rfl
 c232:=by kernel_rfl
 c233:=by kernel_rfl}
open Go.RowKit in
theorem Tryz.strconv_Atoi_ok(s:ByteArray)(hmax:s.size≤9223372036854775806)(v:Int)(h:Lib.atoiAll s.data.toList=.ok v)(w:World):
  Calls Tryz.prog 191 #[.string s] w fun e w'=>e=.returned (.tuple #[.int .i64 v,.nilIface])∧(w'=w∨∃t,w'=Lib.bytesWorld w 5 t):=Any.strconv_Atoi_ok Tryz.laysC172 s hmax v h w
open Go.RowKit in
theorem Tryz.strconv_Atoi_syntax(s:ByteArray)(hlim:s.size≤281474976710656)(h:Lib.atoiAll s.data.toList=Lib.atoiAll [])(ev:Value)(w:World)(hv:w.cell? ⟨2,0,none⟩=some ev)(hev:ev=.nilIface∨∃te pe,ev=.iface te pe):
  Calls Tryz.prog 191 #[.string s] w fun e w'=>∃N,e=.returned (.tuple #[.int .i64 (0),.iface 405 (.pointer (some ⟨N,0,none⟩))])∧w.heap.size≤N∧w'.heap[N]?= some (.cells #[.string ⟨#[65,116,111,105]⟩,.string s,ev] 415 (0,0))∧Below w.heap.size w w':=Any.strconv_Atoi_syntax Tryz.laysC172 s hlim h ev w hv hev
open Go.RowKit in
theorem Tryz.strconv_Atoi_range(s:ByteArray)(hlim:s.size≤281474976710656)(h:Lib.atoiAll s.data.toList=.range)(ev:Value)(w:World)(hv:w.cell? ⟨3,0,none⟩=some ev)(hev:ev=.nilIface∨∃te pe,ev=.iface te pe):
  Calls Tryz.prog 191 #[.string s] w fun e w'=>∃N,e=.returned (.tuple #[.int .i64 (Lib.atoiSat s.data.toList),.iface 405 (.pointer (some ⟨N,0,none⟩))])∧w.heap.size≤N∧w'.heap[N]?= some (.cells #[.string ⟨#[65,116,111,105]⟩,.string s,ev] 415 (0,0))∧Below w.heap.size w w':=Any.strconv_Atoi_range Tryz.laysC172 s hlim h ev w hv hev
def Tryz.lays146_ren:Go.Shelf.Ren:=⟨fun|146=>111|221=>167|268=>247|138=>248|143=>249|195=>287|197=>288|218=>289|219=>290|260=>301|217=>302|225=>303|224=>304|267=>305|266=>309|314=>310|n=>n,fun|9=>9|31=>22|3=>3|4=>4|0=>0|105=>399|21=>21|5=>5|46=>391|119=>419|139=>422|138=>421|146=>423|51=>389|n=>n,fun|1=>1|3=>6|4=>7|n=>n⟩
theorem Tryz.lays146:Go.Proofs.Lays.n146 Tryz.prog Tryz.lays146_ren:={
 mixed:=by kernel_rfl
 f138:=Tryz.func248.trans (aGV some Yg)
 f143:=Tryz.func249.trans (aGV some Yg)
 f146:=Tryz.func111.trans (aGV some Yg)
 f195:=Tryz.func287.trans (aGV some Yg)
 f197:=Tryz.func288.trans (aGV some Yg)
 f217:=Tryz.func302.trans (aGV some Yg)
 f218:=Tryz.func289.trans (aGV some Yg)
 f219:=Tryz.func290.trans (aGV some Yg)
 f221:=Tryz.func167.trans (aGV some Yg)
 f224:=Tryz.func304.trans (aGV some Yg)
 f225:=Tryz.func303.trans (aGV some Yg)
 f260:=Tryz.func301.trans (aGV some Yg)
 f266:=Tryz.func309.trans (aGV some Yg)
 f267:=Tryz.func305.trans (aGV some Yg)
 f268:=Tryz.func247.trans (aGV some Yg)
 f314:=Tryz.func310.trans (aGV some Yg)
 t0:=Tryz.underlying0
 a0:=Tryz.isAgg0
 z0:=Tryz.sizeOf0
 v0:=Tryz.zeroValue0
 t3:=Tryz.underlying3
 a3:=Tryz.isAgg3
 z3:=Tryz.sizeOf3
 v3:=Tryz.zeroValue3
 t4:=Tryz.underlying4
 a4:=Tryz.isAgg4
 z4:=Tryz.sizeOf4
 v4:=Tryz.zeroValue4
 t5:=Tryz.underlying5
 a5:=Tryz.isAgg5
 z5:=Tryz.sizeOf5
 v5:=Tryz.zeroValue5
 t9:=Tryz.underlying9
 a9:=Tryz.isAgg9
 z9:=Tryz.sizeOf9
 v9:=Tryz.zeroValue9
 t21:=Tryz.underlying21
 a21:=Tryz.isAgg21
 z21:=Tryz.sizeOf21
 v21:=Tryz.zeroValue21
 t31:=Tryz.underlying22
 a31:=Tryz.isAgg22
 z31:=Tryz.sizeOf22
 v31:=Tryz.zeroValue22
 t46:=Tryz.underlying391
 a46:=Tryz.isAgg391
 z46:=Tryz.sizeOf391
 v46:=Tryz.zeroValue391
 t51:=Tryz.underlying389
 a51:=Tryz.isAgg389
 z51:=Tryz.sizeOf389
 v51:=Tryz.zeroValue389
 t105:=Tryz.underlying399
 a105:=Tryz.isAgg399
 z105:=Tryz.sizeOf399
 v105:=Tryz.zeroValue399
 t119:=Tryz.underlying419
 a119:=Tryz.isAgg419
 z119:=Tryz.sizeOf419
 t138:=Tryz.underlying421
 a138:=Tryz.isAgg421
 z138:=Tryz.sizeOf421
 v138:=Tryz.zeroValue421
 t139:=Tryz.underlying422
 a139:=Tryz.isAgg422
 z139:=Tryz.sizeOf422
 v139:=Tryz.zeroValue422
 t146:=Tryz.underlying423
 a146:=Tryz.isAgg423
 z146:=Tryz.sizeOf423
 v146:=Tryz.zeroValue423
 g1:=by kernel_rfl
 g3:=by kernel_rfl
 g4:=by kernel_rfl}
open Go.RowKit Go.Lib in
theorem Tryz.strings_Split(s sep:ByteArray)(m:Int)(w:World)(hs:s.size<4294967281)(hm:w.cell? ⟨1,0,none⟩=some (.int .i64 m))(h1:1≤sep.size):
  Calls Tryz.prog 111 #[.string s,.string sep] w fun e w'=>
   e=.returned (.slice (some ⟨w.heap.size,0,none⟩) (Lib.countB s sep+1) (Lib.countB s sep+1))∧w'=w.alloc (.cells ((Lib.splitB sep 0 (Lib.countB s sep) s).map Value.string).toArray 9):=Any.strings_Split Tryz.lays146 Yg s sep m w hs hm h1
end Go.Proofs
namespace Go.Fs
open Go.Proofs
namespace L12
open C12 Go.Lib
structure kC(D:aA):Prop where
 tab:D 0=pow10Tab.map (Value.int .u64)
 maxLen:∃m,(D 1)[0]?= some (.int .i64 m)
 esyn:∃c,(D 2)[0]?= some c∧(c=.nilIface∨∃t u,c=.iface t u)
 erng:∃c,(D 3)[0]?= some c∧(c=.nilIface∨∃t u,c=.iface t u)
theorem kC.up{D D':aA}(h:kC D)(hl:Le D D'):kC D':=by
 obtain⟨h1,⟨m,h2⟩,⟨c,h3,h3'⟩,⟨e,h4,h4'⟩⟩:=h;exact⟨hl.2.trans h1,⟨m,hl.get h2⟩,⟨c,hl.get h3,h3'⟩,⟨e,hl.get h4,h4'⟩⟩
theorem kC.tabIs{D:aA}(h:kC D){w:World}(hw:dQ D w):TabIs Tryz.prog w "internal/strconv.uint64pow10" .u64 pow10Tab:=by
 have hg:Tryz.prog.globalNamed "internal/strconv.uint64pow10" =some 0:=by kernel_rfl
 obtain⟨-, -,e,fz,h0⟩:=hw;unfold TabIs World.var?;rw[hg,Option.bind_some,h0,h.tab]
theorem s7(w:World)(e:TypeId)(t:ByteArray):Go.RowKit.Below w.heap.size w (bytesWorld w e t):=⟨rfl,rfl,rfl,by rw[bytesWorld_size];omega,fun b hb=>bytesWorld_at_old w e t b hb⟩
theorem AR(w:World)(k:Nat)(os:Array Obj):Go.RowKit.Below w.heap.size w (Go.Sort.grow (w.drewN k) os):=
 ⟨rfl,rfl,rfl,by show w.heap.size≤(w.heap++os).size;rw[Array.size_append];omega,fun b hb=>by show(w.heap++os)[b]?= _;rw[aIX hb]⟩
theorem xH(n:Int)(hn:rJ .i64 n)(D:aA)(hV:kC D):Fn Tryz.prog 42 #[.int .i64 n] D (fun _ v=>v=.string (kY (itoa n))):=by
 have hb: -9223372036854775808≤n∧n≤9223372036854775807:=by simpa [rJ]using hn
 refine Fn.of_below (EF.of Tryz.func42 rfl rfl) fun w hw=>(Go.Proofs.Tryz.strconv_Itoa n hb.1 hb.2 w (hV.tabIs hw)).mono ?_
 rintro e w' ⟨rfl,k,os,rfl⟩;exact⟨_,rfl,AR w k os,fun _ _=>rfl⟩
theorem RN(s:ByteArray)(hs:s.size≤1000)(D:aA)(hV:kC D):Fn Tryz.prog 111 #[.string s,.string ⟨#[32]⟩] D (fun D' v=>Sl D' RS 1 v (fV s)):=by
 obtain⟨m,hm⟩:=hV.maxLen;refine Fn.of_alloc (cs:=(fV s).map Value.string) (e:=9) (r:=fun b=>.slice (some ⟨b,0,none⟩) (fV s).length (fV s).length) (EF.of Tryz.func111 rfl rfl) (fun w hw=>(Go.Proofs.Tryz.strings_Split s ⟨#[32]⟩ m w Yd (hw.cell hm) Yag).mono ?_) fun D' b _ hA=>?_
 ·rintro e w' ⟨rfl,rfl⟩;rw[CU,BL];exact⟨rfl,rfl⟩
 ·have hl:(fV s).length≤1001:=by unfold fV;rw[aHR];exact aJB (GI _) (by show s.size+1≤1001;omega)
  refine⟨_,_,rfl,aGW _,by omega,aGH ⟨b,0,rfl,fun i x hi=>⟨_,rfl,rfl,fun j v hj=>?_⟩⟩⟩;cases j with
  |zero=>
   obtain rfl:Value.string x=v:=by simpa using hj
   have h:=hA i (.string x) (by rw[aHD,hi];rfl);simpa using h
  |succ j=>simp at hj
theorem YT(s:ByteArray)(hs:s.size≤1000)(D:aA)(hV:kC D):Fn Tryz.prog 191 #[.string s] D (fun _ v=>∃m c,v=.tuple #[.int .i64 m,c]∧rJ .i64 m∧((c=.nilIface∧atoiAll s.data.toList=.ok m)∨((∃t u,c=.iface t u)∧∀x,atoiAll s.data.toList≠.ok x))):=by
 refine Fn.of_below (EF.of Tryz.func191 rfl rfl) fun w hw=>?_
 rcases h:atoiAll s.data.toList with v|_|_
 ·refine(Go.Proofs.Tryz.strconv_Atoi_ok s Yd v h w).mono ?_;rintro e w' ⟨rfl,hw'⟩;refine⟨_,rfl,?_,fun _ _=>⟨v,_,rfl,by have:=atoiAll_bounds h;simp only[rJ];omega,aGR ⟨rfl,rfl⟩⟩⟩
  rcases hw' with rfl|⟨t,rfl⟩
  ·exact .refl _ _
  ·exact s7 w _ t
 ·obtain⟨c,hc,hc'⟩:=hV.esyn;refine(Go.Proofs.Tryz.strconv_Atoi_syntax s Yd h c w (hw.cell hc) hc').mono ?_;rintro e w' ⟨N,rfl,_,_,hb⟩;exact⟨_,rfl,hb,fun _ _=>⟨0,_,rfl,by simp only[rJ];omega,aGH ⟨⟨_,_,rfl⟩,fun x hx=>by cases hx⟩⟩⟩
 ·obtain⟨c,hc,hc'⟩:=hV.erng;refine(Go.Proofs.Tryz.strconv_Atoi_range s Yd h c w (hw.cell hc) hc').mono ?_;rintro e w' ⟨N,rfl,_,_,hb⟩;exact⟨_,rfl,hb,fun _ _=>⟨_,_,rfl,by unfold atoiSat;split<;>simp only[rJ]<;>omega,aGH ⟨⟨_,_,rfl⟩,fun x hx=>by cases hx⟩⟩⟩
theorem UC{s:ByteArray}{m:Int}{c:Value}(h:(c=.nilIface∧atoiAll s.data.toList=.ok m)∨((∃t u,c=.iface t u)∧∀x,atoiAll s.data.toList≠.ok x)):yA s.data.toList=if(((JJ c&&decide (m≥0))&&decide ((s.size:Int)≤3))&&decide (kY (itoa m)=s))=true then some m else none:=by
 rw[←HU];unfold XH;rcases h with⟨rfl,h⟩|⟨⟨t,u,rfl⟩,h⟩
 ·rw[h];have e:s.data.toList.length=s.size:=rfl;have e2:(kY (itoa m)=s) ↔ itoa m=s.data.toList:=⟨fun h=>by rw[←h];rfl,fun h=>by rw[h];exact CC s⟩
  simp only[JJ,aKB,aGO,aGZ,e,e2,and_assoc];congr 1;simp only[eq_iff_iff];constructor
  ·rintro⟨h1,h2,h3⟩;exact⟨h1,by omega,h3⟩
  ·rintro⟨h1,h2,h3⟩;exact⟨h1,by omega,h3⟩
 ·split
  ·rename_i v hv;exact absurd hv (h v)
  ·rfl
theorem XA{s:ByteArray}{m:Int}{c:Value}(h:(c=.nilIface∧atoiAll s.data.toList=.ok m)∨((∃t u,c=.iface t u)∧∀x,atoiAll s.data.toList≠.ok x)):(((JJ c&&decide (m≥0))&&decide ((s.size:Int)≤3))&&decide (kY (itoa m)=s))=true→yA s.data.toList=some m:=fun hb=>by rw[UC h,aGX hb]
theorem aCX{s:ByteArray}{m:Int}{c:Value}(h:(c=.nilIface∧atoiAll s.data.toList=.ok m)∨((∃t u,c=.iface t u)∧∀x,atoiAll s.data.toList≠.ok x)):(((JJ c&&decide (m≥0))&&decide ((s.size:Int)≤3))&&decide (kY (itoa m)=s))=false→yA s.data.toList=none:=fun hb=>by rw[UC h,aGQ (by rw[hb];simp)]
theorem JE(s:ByteArray)(hs:s.size≤1000)(D:aA)(hV:kC D):Fn Tryz.prog 114 #[.string s] D (fun _ v=>∃m b,v=.tuple #[.int .i64 m,.bool b]∧(b=true→yA s.data.toList=some m)∧(b=false→yA s.data.toList=none)):=by
 refine enter 29 Tryz.func114 rfl rfl rfl rfl fun h0=>C.s1<|Zh rfl<|Zh rfl<|L.n3<|Za rfl<|cB rfl rfl rfl (fun D1 hD1=>YT s hs _ (hV.up (hD1 _ Ye))) rfl aLJ (fun v1 D1 hD1 hp1=>?_)
 obtain⟨m,c,rfl,hm2,hm3⟩:=hp1;refine Za rfl<|Zaa rfl<|Zaa rfl<|Zh rfl<|Zh rfl<|L.n3<|Za rfl<|Za rfl<|EL rfl U117 rfl (by rcases hm3 with⟨h,_⟩|⟨h,_⟩;exact Or.inl h;exact Or.inr h) rfl trivial<|Za rfl ?_
 refine' L.anK 3 (s:=14) (p:=17) rfl (fun hg1=>?_) (fun hg1=>?_) ?_;rotate_left
 ·refine Zb rfl<|nJ rfl rfl rfl rfl ⟨_,rfl,rfl⟩<|Zab rfl ?_;exact L.cu 2
 ·refine Zk rfl<|Zk rfl<|Zac rfl ?_;exact L.cu 2
 refine Za rfl ?_;refine' L.anK 4 (s:=18) (p:=22) rfl (fun hg2=>?_) (fun hg2=>?_) ?_;rotate_left
 ·refine Zb rfl<|gE rfl U9 rfl rfl rfl ⟨_,rfl,rfl⟩<|hP rfl rfl rfl rfl ⟨_,rfl,rfl⟩<|Zab rfl ?_;exact L.cu 3
 ·refine Zk rfl<|Zk rfl<|Zk rfl<|Zac rfl ?_;exact L.cu 3
 refine Za rfl ?_;refine' L.anK 5 (s:=23) (p:=28) rfl (fun hg3=>?_) (fun hg3=>?_) ?_;rotate_left
 ·refine Zb rfl<|Zd rfl (fun D2 hD2=>xH m hm2 _ (hV.up (hD2 _ Ye)))<|Zb rfl<|tB rfl rfl rfl rfl ⟨_,rfl,rfl⟩<|Zab rfl ?_;exact L.cu 4
 ·refine Zk rfl<|Zk rfl<|Zk rfl<|Zk rfl<|Zac rfl ?_;exact L.cu 4
 refine Zh rfl<|Zh rfl<|L.n5 ?_;exact Zm [_,_] rfl C.rs (fun D hD=>⟨m,_,rfl,XA hm3,aCX hm3⟩)
end L12
end Go.Fs
