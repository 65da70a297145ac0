/- Of the proof of BookUndone: Str, Lay, BW17. -/
import Derived.Test.YtecfofnchcbojaaGreatDoorZBookUndoneAJ
import Derived.Laws.Concat
import Derived.Laws.Strings
import Derived.WideShapes
import Derived.Below
import Derived.Test.YtecfofnchcbojaaGreatDoorZBookUndoneAA
import Derived.Shelf.Strings.Builder1
import Derived.Shelf.LaysM
import Derived.Shelf.Strconv.Itoa3
import Derived.Shelf.LaysC
import Derived.Shelf.Strconv.AtoiAll
import Derived.Shelf.Strings.Split
import Derived.Test.YtecfofnchcbojaaGreatDoorProg
namespace Go.Fs
variable{P:Program}{X:Cx}{γb:Type}[Membership Nat γb]{bad:γb}{all:Array Oper}{K:Act→World→Prop}{Q:Exit→Act→World→Prop}
variable{σ:bT}{μ:aC}{Ds:List aA}{os:List (Bool×Nat)}{fl:Bool}{ix:Nat}
variable{d:Nat}{x y z:Operand}{u v:Value}{ty:TypeId}{pos:String}{aft:Array Edge}{g:Option (Nat×Bool)}
theorem MU(a b:ByteArray):(a.toList==b.toList)=decide (a=b):=by
 rw[aNR];simp only[aJK,aKU];rw[ByteArray.toList_eq,ByteArray.toList_eq];exact⟨fun h=>Go.WideShapes.bytes_inj h,fun h=>by rw[h]⟩
theorem kU{t t':TypeId}{a b:ByteArray}(ho:all[ix]?= some ⟨some d,.binOp .add t x y t',ty,pos,aft,g⟩)(hx:ev σ x=some (.string a))(hy:ev σ y=some (.string b))(hl:a.size+b.size≤9223372036854775807)(hN:Nat.blt d X.N=true)(hg:cW all σ g)
  (kk:WL P X bad all K Q os ((d,.string (a++b))::σ) μ Ds):WL P X bad all K Q ((fl,ix)::os) σ μ Ds:=
 bL ho rfl rfl hN hg (fun ρ hρ w'=>by
  have:((do eqGuard .add t x y (.string a) (.string b);binOp .add t (.string a) (.string b)):Sem Value).run P w'=.ok (.string (a++b)) w':=by
   rw[Sem.run_bind];have h1:(eqGuard .add t x y (.string a) (.string b)).run P w'=.ok () w':=rfl;rw[h1];show(binOp .add t (.string a) (.string b)).run P w'=_;rw[binOp_string_add];exact run_string_add_sum _ a b hl
  simp only[execOp,hρ x _ hx,hρ y _ hy];rw[Sem.run_bind,this];rfl) kk
theorem cB{t t':TypeId}{a b:ByteArray}(ho:all[ix]?= some ⟨some d,.binOp .eql t x y t',ty,pos,aft,g⟩)(hx:ev σ x=some (.string a))(hy:ev σ y=some (.string b))(hN:Nat.blt d X.N=true)(hg:cW all σ g)
  (kk:WL P X bad all K Q os ((d,.bool (decide (a=b)))::σ) μ Ds):WL P X bad all K Q ((fl,ix)::os) σ μ Ds:=
 vB ho (fun w=>by
  rw[Sem.run_bind];have h1:(eqGuard .eql t x y (.string a) (.string b)).run P w=.ok () w:=rfl;rw[h1,←MU];show(binOp .eql t (.string a) (.string b)).run P w=_;rw[binOp_string_eql];rfl) hx hy hN hg kk
theorem lF{t:TypeId}{s:ByteArray}{k:IntKind}{i:Int}{c:UInt8}(ho:all[ix]?= some ⟨some d,.index t x y,ty,pos,aft,g⟩)(ht:P.underlying t=some .string)(hx:ev σ x=some (.string s))(hy:ev σ y=some (.int k i))(h0:0≤i)(hc:s[i.toNat]?= some c)(hN:Nat.blt d X.N=true)(hg:cW all σ g)
  (kk:WL P X bad all K Q os ((d,.int .u8 c.toNat)::σ) μ Ds):WL P X bad all K Q ((fl,ix)::os) σ μ Ds:=
 bL ho rfl rfl hN hg (fun ρ hρ w'=>by
  simp only[execOp,hρ x _ hx,hρ y _ hy];unfold Instr.index asIntOf;simp only[Sem.run_bind,TU.of ht w',Result.andThen_ok,Sem.run_pure,pure_bind,h0,aMG,hc]) kk
theorem DC{t:TypeId}{s:ByteArray}{k1 k2:IntKind}{i j:Int}(ho:all[ix]?= some ⟨some d,.slice t x (some y) (some z) none,ty,pos,aft,g⟩)(ht:P.underlying t=some .string)(hx:ev σ x=some (.string s))(hy:ev σ y=some (.int k1 i))(hz:ev σ z=some (.int k2 j))(h0:0≤i)(h1:i≤j)(h2:j≤(s.size:Int))(hN:Nat.blt d X.N=true)(hg:cW all σ g)
  (kk:WL P X bad all K Q os ((d,.string (s.extract i.toNat j.toNat))::σ) μ Ds):WL P X bad all K Q ((fl,ix)::os) σ μ Ds:=
 bL ho rfl rfl hN hg (fun ρ hρ w'=>by
  simp only[execOp,hρ x _ hx,hρ y _ hy,hρ z _ hz,aMH,aLK];unfold Instr.sliceAt Instr.slice Instr.sliceBounds Instr.sliceBound asIntOf;have a1:0≤i∧i≤((j.toNat:Nat):Int):=by omega
  have a2:0≤j∧j≤(s.size:Int):=by omega
  simp only[Sem.run_bind,TU.of ht w',Result.andThen_ok,Sem.run_pure,pure_bind,a1,a2,aJG,aMG,Option.isSome_none,aLI,aMN]) kk
theorem BE{t:TypeId}{s:ByteArray}{k1:IntKind}{i:Int}(ho:all[ix]?= some ⟨some d,.slice t x (some y) none none,ty,pos,aft,g⟩)(ht:P.underlying t=some .string)(hx:ev σ x=some (.string s))(hy:ev σ y=some (.int k1 i))(h0:0≤i)(h2:i≤(s.size:Int))(hN:Nat.blt d X.N=true)(hg:cW all σ g)
  (kk:WL P X bad all K Q os ((d,.string (s.extract i.toNat s.size))::σ) μ Ds):WL P X bad all K Q ((fl,ix)::os) σ μ Ds:=
 bL ho rfl rfl hN hg (fun ρ hρ w'=>by
  simp only[execOp,hρ x _ hx,hρ y _ hy,aMH,aLK];unfold Instr.sliceAt Instr.slice Instr.sliceBounds Instr.sliceBound asIntOf;have a1:0≤i∧i≤((s.size:Nat):Int):=by omega
  simp only[Sem.run_bind,TU.of ht w',Result.andThen_ok,Sem.run_pure,pure_bind,a1,aJG,aMG,Option.isSome_none,aLI,aMN]) kk
def KW:Value→Bool
 |.nilIface=>true
 |_=>false
theorem BO{t t':TypeId}{c:Value}{ms:Array (String×TypeId)}(ho:all[ix]?= some ⟨some d,.binOp .eql t x (.const .nilIface) t',ty,pos,aft,g⟩)(ht:P.underlying t=some (.interface ms))(hx:ev σ x=some c)(hc:c=.nilIface∨∃t u,c=.iface t u)(hN:Nat.blt d X.N=true)(hg:cW all σ g)
  (kk:WL P X bad all K Q os ((d,.bool (KW c))::σ) μ Ds):WL P X bad all K Q ((fl,ix)::os) σ μ Ds:=
 vB ho (fun w=>by
  have h1:(eqGuard .eql t x (.const .nilIface) c .nilIface).run P w=.ok () w:=by
   rcases hc with rfl|⟨_,_,rfl⟩
   ·simp only[eqGuard];cases x<;>rfl
   ·rfl
  have h2:(Op.equal t c .nilIface).run P w=.ok (KW c) w:=by
   show(Op.equalIn (9999+1) t c .nilIface).run P w=_;rw[Op.equalIn,Sem.run_bind,TU.of ht w];rcases hc with rfl|⟨_,_,rfl⟩<;>rfl
  rw[Sem.run_bind,h1];have h3:(binOp .eql t c .nilIface).run P w=((do Pure.pure (Value.bool (←Op.equal t c .nilIface))):Sem Value).run P w:=by rcases hc with rfl|⟨_,_,rfl⟩<;>rfl
  show(binOp .eql t c .nilIface).run P w=_;rw[h3,Sem.run_bind,h2];rfl) hx rfl hN hg kk
theorem MD{t t':TypeId}{fs:Array Field}(ho:all[ix]?= some ⟨some d,.typeAssert x t' t true,ty,pos,aft,g⟩)(ht:P.underlying t=some (.struct fs))(hx:ev σ x=some (.iface t v))(hN:Nat.blt d X.N=true)(hg:cW all σ g)
  (kk:WL P X bad all K Q os ((d,.tuple #[v,.bool true])::σ) μ Ds):WL P X bad all K Q ((fl,ix)::os) σ μ Ds:=
 bL ho rfl rfl hN hg (fun ρ hρ w'=>by
  simp only[execOp,hρ x _ hx];unfold Instr.typeAssert;simp only[Sem.run_bind,TU.of ht w',Result.andThen_ok,aMG,Sem.run_pure]) kk

theorem Fn.of_below{f:FuncId}{args:Array Value}{D:aA}{post:aA→Value→Prop}(hEF:EF P f)(h:∀w,dS D w→Calls P f args w fun en w'=>∃r,en=.returned r∧Go.RowKit.Below w.heap.size w w'∧∀D',Le D D'→post D' r):Fn P f args D post:=by
 refine⟨hEF,fun w hw=>(h w hw).mono ?_⟩;rintro en w' ⟨r,he,hb,hp⟩;refine⟨r,D,he,⟨aKR _,hb.size,fun b hl _=>hb.block b hl,fun _ _=>rfl,hw.of (fun b hb'=>?_) rfl (hb.block 0 hw.pos),(fun p hp=>by cases hp),aMC,(fun p hp=>by cases hp),fun e he=>by rw[←aKZ he];exact Prod.ext hb.os hb.output⟩,hp D (Le.refl _)⟩
 obtain⟨cs,e,fz,h1,h2⟩:=hw.1 b hb';exact⟨cs,e,fz,by rw[hb.block b (bC h1)];exact h1,h2⟩
theorem Q2{α:Type}{R:Rd α}{t e:TypeId}{D₁:aA}{ad:Option Addr}{n cap j:Nat}{k:IntKind}{xs:List α}(ho:all[ix]?= some ⟨some d,.slice t x (some y) none none,ty,pos,aft,g⟩)(ht:P.underlying t=some (.slice e))(hs:TS P e 1)(hx:ev σ x=some (.slice ad n cap))(hS:Sl D₁ R 1 (.slice ad n cap) xs)(hy:ev σ y=some (.int k (j:Int)))(hj:j≤n)
  (hN:Nat.blt d X.N=true) (hg:cW all σ g) (kk:∀a',Sl D₁ R 1 (.slice a' (n-j) (cap-j)) (xs.drop j)→WL P X bad all K Q os ((d,.slice a' (n-j) (cap-j))::σ) μ Ds):WL P X bad all K Q ((fl,ix)::os) σ μ Ds:=by
 obtain⟨a,c,hv,h1,h2,h3⟩:=hS;cases hv;refine bL (v:=.slice (if cap=j then ad else ad.map (·.add (j*1))) (xs.length-j) (cap-j)) ho rfl rfl hN hg (fun ρ hρ w'=>?_) (kk _ ⟨_,_,by rw[aMR],by rw[aMR];omega,by rw[aMR];omega,?_⟩)
 ·simp only[execOp,aMH,aLK,hρ x _ hx,hρ y _ hy];unfold Instr.sliceAt Instr.slice Instr.sliceBounds Instr.sliceBound asIntOf;have hle:(0:Int)≤(j:Int)∧(j:Int)≤(xs.length:Nat):=by omega
  simp only[Sem.run_bind,TU.of ht w',Result.andThen_ok,Sem.run_pure,pure_bind,hs w',hle,aJG,aMG,aLX]
 ·by_cases he:xs.length=j
  ·exact aKP (aLJ Yd)
  ·rcases h3 with h3|⟨b,o,rfl,h3⟩
   ·subst h3;simp at he hj;omega
   ·refine aKB ⟨b,o+j,by rw[aKO Yd];simp[eK],fun i z hi=>?_⟩;rw[aMW]at hi;obtain⟨cs,hr,hc,hA⟩:=h3 _ _ hi;exact⟨cs,hr,hc,by rw[show o+j+i*1=o+(j+i)*1 by omega];exact hA⟩
end Go.Fs
namespace Go.Proofs
open Go.Shelf
def Tryz.lays169_ren:Go.Shelf.Ren:=⟨fun|169=>44|n=>n,fun|70=>86|9=>9|0=>0|72=>88|37=>64|127=>183|3=>3|5=>5|n=>n,fun|n=>n⟩
theorem Tryz.lays169:Go.Proofs.Lays.n169 Tryz.prog Tryz.lays169_ren:={
 mixed:=by kernel_rfl
 f169:=Tryz.func44.trans (aKJ some Yg)
 t0:=Tryz.underlying0
 a0:=Tryz.isAgg0
 z0:=Tryz.sizeOf0
 v0:=Tryz.zeroValue0
 t3:=Tryz.underlying3
 a3:=Tryz.isAgg3
 z3:=Tryz.sizeOf3
 v3:=Tryz.zeroValue3
 t9:=Tryz.underlying9
 a9:=Tryz.isAgg9
 z9:=Tryz.sizeOf9
 v9:=Tryz.zeroValue9
 t37:=Tryz.underlying64
 a37:=Tryz.isAgg64
 z37:=Tryz.sizeOf64
 v37:=Tryz.zeroValue64
 t70:=Tryz.underlying86
 a70:=Tryz.isAgg86
 z70:=Tryz.sizeOf86
 v70:=Tryz.zeroValue86
 t72:=Tryz.underlying88
 a72:=Tryz.isAgg88
 z72:=Tryz.sizeOf88
 v72:=Tryz.zeroValue88
 t127:=Tryz.underlying183
 a127:=Tryz.isAgg183
 z127:=Tryz.sizeOf183
 v127:=Tryz.zeroValue183}
theorem Tryz.Builder_Extra_169:Builder.Extra Tryz.prog Tryz.lays169_ren:={
 sizeBuilder:=by kernel_rfl
 liesBuilder:=by kernel_rfl
 t5:=Tryz.underlying5
 a5:=Tryz.isAgg5
 z5:=Tryz.sizeOf5
 v5:=Tryz.zeroValue5
 infoByte:=by kernel_rfl
 cellsByte:=by kernel_rfl
 sizeByte:=by kernel_rfl
 neB5:=by decide}
open Go.RowKit in
theorem Tryz.Builder_String_any(B b:Nat)(l:List UInt8)(w:World)(h:Lib.IsBuilder 88 5 B b (Lib.byteCells l) w)(hBw:B≤w.heap.size):
  Calls Tryz.prog 44 #[.pointer (some ⟨b,0,none⟩)] w fun e w'=>e=.returned (.string ⟨l.toArray⟩)∧Below B w w':=Any.Builder_String_any Tryz.lays169 Tryz.Builder_Extra_169 B b l w h hBw
def Tryz.laysM171_ren:Go.Shelf.Ren:=⟨fun|171=>35|243=>61|246=>102|283=>179|284=>180|285=>181|286=>182|129=>243|317=>242|318=>244|319=>245|320=>246|337=>270|338=>271|n=>n,fun|3=>3|9=>9|2=>2|4=>4|171=>284|0=>0|53=>285|37=>64|5=>5|173=>288|212=>331|51=>332|20=>20|213=>333|46=>334|232=>360|233=>361|n=>n,fun|17=>0|18=>4|19=>5|n=>n⟩
theorem Tryz.laysM171:Go.Proofs.LaysM.n171 Tryz.prog Tryz.laysM171_ren:={
 mixed:=by kernel_rfl
 f129:=Tryz.func243.trans (aKJ some Yg)
 f171:=Tryz.func35.trans (aKJ some Yg)
 f243:=Tryz.func61.trans (aKJ some Yg)
 f246:=Tryz.func102.trans (aKJ some Yg)
 f283:=Tryz.func179.trans (aKJ some Yg)
 f284:=Tryz.func180.trans (aKJ some Yg)
 f285:=Tryz.func181.trans (aKJ some Yg)
 f286:=Tryz.func182.trans (aKJ some Yg)
 f317:=Tryz.func242.trans (aKJ some Yg)
 f318:=Tryz.func244.trans (aKJ some Yg)
 f319:=Tryz.func245.trans (aKJ some Yg)
 f320:=Tryz.func246.trans (aKJ some Yg)
 f337:=Tryz.func270.trans (aKJ some Yg)
 f338:=Tryz.func271.trans (aKJ some Yg)
 t0:=Tryz.underlying0
 a0:=Tryz.isAgg0
 z0:=Tryz.sizeOf0
 v0:=Tryz.zeroValue0
 t2:=Tryz.underlying2
 a2:=Tryz.isAgg2
 z2:=Tryz.sizeOf2
 v2:=Tryz.zeroValue2
 t3:=Tryz.underlying3
 a3:=Tryz.isAgg3
 z3:=Tryz.sizeOf3
 v3:=Tryz.zeroValue3
 t4:=Tryz.underlying4
 a4:=Tryz.isAgg4
 z4:=Tryz.sizeOf4
 v4:=Tryz.zeroValue4
 t5:=Tryz.underlying5
 a5:=Tryz.isAgg5
 z5:=Tryz.sizeOf5
 v5:=Tryz.zeroValue5
 t9:=Tryz.underlying9
 a9:=Tryz.isAgg9
 z9:=Tryz.sizeOf9
 v9:=Tryz.zeroValue9
 t20:=Tryz.underlying20
 a20:=Tryz.isAgg20
 z20:=Tryz.sizeOf20
 v20:=Tryz.zeroValue20
 t37:=Tryz.underlying64
 a37:=Tryz.isAgg64
 z37:=Tryz.sizeOf64
 v37:=Tryz.zeroValue64
 t46:=Tryz.underlying334
 a46:=Tryz.isAgg334
 z46:=Tryz.sizeOf334
 v46:=Tryz.zeroValue334
 t51:=Tryz.underlying332
 a51:=Tryz.isAgg332
 z51:=Tryz.sizeOf332
 v51:=Tryz.zeroValue332
 t53:=Tryz.underlying285
 a53:=Tryz.isAgg285
 z53:=Tryz.sizeOf285
 v53:=Tryz.zeroValue285
 t171:=Tryz.underlying284
 a171:=Tryz.isAgg284
 z171:=Tryz.sizeOf284
 v171:=Tryz.zeroValue284
 t173:=Tryz.underlying288
 a173:=Tryz.isAgg288
 z173:=Tryz.sizeOf288
 v173:=Tryz.zeroValue288
 t212:=Tryz.underlying331
 a212:=Tryz.isAgg331
 z212:=Tryz.sizeOf331
 v212:=Tryz.zeroValue331
 t213:=Tryz.underlying333
 a213:=Tryz.isAgg333
 z213:=Tryz.sizeOf333
 t232:=Tryz.underlying360
 a232:=Tryz.isAgg360
 z232:=Tryz.sizeOf360
 v232:=Tryz.zeroValue360
 t233:=Tryz.underlying361
 a233:=Tryz.isAgg361
 z233:=Tryz.sizeOf361
 v233:=Tryz.zeroValue361
 g17:=by kernel_rfl
 g18:=by kernel_rfl
 g19:=by kernel_rfl
 i0:=by kernel_rfl
 i2:=by kernel_rfl
 i3:=by kernel_rfl
 i4:=by kernel_rfl
 i5:=by kernel_rfl
 i9:=by kernel_rfl
 i20:=by kernel_rfl
 i37:=by kernel_rfl
 i46:=by kernel_rfl
 i51:=by kernel_rfl
 i53:=by kernel_rfl
 i171:=by kernel_rfl
 i173:=by kernel_rfl
 i212:=by kernel_rfl
 i232:=by kernel_rfl
 i233:=by kernel_rfl
 m17:=by kernel_rfl
 m18:=by kernel_rfl
 m19:=by kernel_rfl}
open Go.RowKit Go.Sort Go.Lib in
theorem Tryz.strconv_Itoa(n:Int)(h0: -9223372036854775808≤n)(h1:n≤9223372036854775807)(w:World)(htab:Lib.TabIs Tryz.prog w "internal/strconv.uint64pow10" .u64 Lib.pow10Tab):
  Calls Tryz.prog 35 #[.int .i64 n] w fun e w'=>e=.returned (.string ⟨(Lib.itoa n).toArray⟩)∧∃k os,w'=grow (w.drewN k) os:=Any.strconv_Itoa Tryz.laysM171 n h0 h1 w htab
def Tryz.laysC172_ren:Go.Shelf.Ren:=⟨fun|172=>166|244=>235|245=>236|247=>265|279=>266|280=>267|281=>268|282=>269|287=>280|316=>281|171=>35|205=>282|321=>285|322=>286|243=>61|246=>102|283=>179|284=>180|285=>181|286=>182|129=>243|317=>242|318=>244|319=>245|320=>246|337=>270|338=>271|n=>n,fun|9=>9|3=>3|75=>90|76=>91|4=>4|5=>5|167=>345|37=>64|0=>0|85=>346|2=>2|168=>348|53=>285|175=>354|46=>334|210=>358|127=>183|145=>371|143=>369|21=>21|171=>284|173=>288|212=>331|51=>332|20=>20|213=>333|232=>360|233=>361|80=>109|n=>n,fun|15=>2|16=>3|17=>0|18=>4|19=>5|n=>n⟩
theorem Tryz.laysC172:Go.Proofs.LaysC.n172 Tryz.prog Tryz.laysC172_ren:={
 mixed:=by kernel_rfl
 f129:=Tryz.func243.trans (aKJ some Yg)
 f171:=Tryz.func35.trans (aKJ some Yg)
 f172:=Tryz.func166.trans (aKJ some Yg)
 f205:=Tryz.func282.trans (aKJ some Yg)
 f243:=Tryz.func61.trans (aKJ some Yg)
 f244:=Tryz.func235.trans (aKJ some Yg)
 f245:=Tryz.func236.trans (aKJ some Yg)
 f246:=Tryz.func102.trans (aKJ some Yg)
 f247:=Tryz.func265.trans (aKJ some Yg)
 f279:=Tryz.func266.trans (aKJ some Yg)
 f280:=Tryz.func267.trans (aKJ some Yg)
 f281:=Tryz.func268.trans (aKJ some Yg)
 f282:=Tryz.func269.trans (aKJ some Yg)
 f283:=Tryz.func179.trans (aKJ some Yg)
 f284:=Tryz.func180.trans (aKJ some Yg)
 f285:=Tryz.func181.trans (aKJ some Yg)
 f286:=Tryz.func182.trans (aKJ some Yg)
 f287:=Tryz.func280.trans (aKJ some Yg)
 f316:=Tryz.func281.trans (aKJ some Yg)
 f317:=Tryz.func242.trans (aKJ some Yg)
 f318:=Tryz.func244.trans (aKJ some Yg)
 f319:=Tryz.func245.trans (aKJ some Yg)
 f320:=Tryz.func246.trans (aKJ some Yg)
 f321:=Tryz.func285.trans (aKJ some Yg)
 f322:=Tryz.func286.trans (aKJ some Yg)
 f337:=Tryz.func270.trans (aKJ some Yg)
 f338:=Tryz.func271.trans (aKJ some Yg)
 t0:=Tryz.underlying0
 a0:=Tryz.isAgg0
 z0:=Tryz.sizeOf0
 v0:=Tryz.zeroValue0
 t2:=Tryz.underlying2
 a2:=Tryz.isAgg2
 z2:=Tryz.sizeOf2
 v2:=Tryz.zeroValue2
 t3:=Tryz.underlying3
 a3:=Tryz.isAgg3
 z3:=Tryz.sizeOf3
 v3:=Tryz.zeroValue3
 t4:=Tryz.underlying4
 a4:=Tryz.isAgg4
 z4:=Tryz.sizeOf4
 v4:=Tryz.zeroValue4
 t5:=Tryz.underlying5
 a5:=Tryz.isAgg5
 z5:=Tryz.sizeOf5
 v5:=Tryz.zeroValue5
 t9:=Tryz.underlying9
 a9:=Tryz.isAgg9
 z9:=Tryz.sizeOf9
 v9:=Tryz.zeroValue9
 t20:=Tryz.underlying20
 a20:=Tryz.isAgg20
 z20:=Tryz.sizeOf20
 v20:=Tryz.zeroValue20
 t21:=Tryz.underlying21
 a21:=Tryz.isAgg21
 z21:=Tryz.sizeOf21
 v21:=Tryz.zeroValue21
 t37:=Tryz.underlying64
 a37:=Tryz.isAgg64
 z37:=Tryz.sizeOf64
 v37:=Tryz.zeroValue64
 t46:=Tryz.underlying334
 a46:=Tryz.isAgg334
 z46:=Tryz.sizeOf334
 v46:=Tryz.zeroValue334
 t51:=Tryz.underlying332
 a51:=Tryz.isAgg332
 z51:=Tryz.sizeOf332
 v51:=Tryz.zeroValue332
 t53:=Tryz.underlying285
 a53:=Tryz.isAgg285
 z53:=Tryz.sizeOf285
 v53:=Tryz.zeroValue285
 t75:=Tryz.underlying90
 a75:=Tryz.isAgg90
 z75:=Tryz.sizeOf90
 v75:=Tryz.zeroValue90
 t76:=Tryz.underlying91
 a76:=Tryz.isAgg91
 z76:=Tryz.sizeOf91
 v76:=Tryz.zeroValue91
 t85:=Tryz.underlying346
 a85:=Tryz.isAgg346
 z85:=Tryz.sizeOf346
 v85:=Tryz.zeroValue346
 t127:=Tryz.underlying183
 a127:=Tryz.isAgg183
 z127:=Tryz.sizeOf183
 v127:=Tryz.zeroValue183
 t143:=Tryz.underlying369
 a143:=Tryz.isAgg369
 z143:=Tryz.sizeOf369
 v143:=Tryz.zeroValue369
 t145:=Tryz.underlying371
 a145:=Tryz.isAgg371
 z145:=Tryz.sizeOf371
 v145:=Tryz.zeroValue371
 t167:=Tryz.underlying345
 a167:=Tryz.isAgg345
 z167:=Tryz.sizeOf345
 v167:=Tryz.zeroValue345
 t168:=Tryz.underlying348
 a168:=Tryz.isAgg348
 z168:=Tryz.sizeOf348
 v168:=Tryz.zeroValue348
 t171:=Tryz.underlying284
 a171:=Tryz.isAgg284
 z171:=Tryz.sizeOf284
 v171:=Tryz.zeroValue284
 t173:=Tryz.underlying288
 a173:=Tryz.isAgg288
 z173:=Tryz.sizeOf288
 v173:=Tryz.zeroValue288
 t175:=Tryz.underlying354
 a175:=Tryz.isAgg354
 z175:=Tryz.sizeOf354
 v175:=Tryz.zeroValue354
 t210:=Tryz.underlying358
 a210:=Tryz.isAgg358
 z210:=Tryz.sizeOf358
 v210:=Tryz.zeroValue358
 t212:=Tryz.underlying331
 a212:=Tryz.isAgg331
 z212:=Tryz.sizeOf331
 v212:=Tryz.zeroValue331
 t213:=Tryz.underlying333
 a213:=Tryz.isAgg333
 z213:=Tryz.sizeOf333
 t232:=Tryz.underlying360
 a232:=Tryz.isAgg360
 z232:=Tryz.sizeOf360
 v232:=Tryz.zeroValue360
 t233:=Tryz.underlying361
 a233:=Tryz.isAgg361
 z233:=Tryz.sizeOf361
 v233:=Tryz.zeroValue361
 g15:=by kernel_rfl
 g16:=by kernel_rfl
 g17:=by kernel_rfl
 g18:=by kernel_rfl
 g19:=by kernel_rfl
 t80:=Tryz.underlying109
 a80:=Tryz.isAgg109
 z80:=Tryz.sizeOf109
 v80:=Tryz.zeroValue109
 i0:=by kernel_rfl
 i2:=by kernel_rfl
 i3:=by kernel_rfl
 i4:=by kernel_rfl
 i5:=by kernel_rfl
 i9:=by kernel_rfl
 i20:=by kernel_rfl
 i21:=by kernel_rfl
 i37:=by kernel_rfl
 i46:=by kernel_rfl
 i51:=by kernel_rfl
 i53:=by kernel_rfl
 i75:=by kernel_rfl
 i76:=by kernel_rfl
 i80:=by kernel_rfl
 i85:=by kernel_rfl
 i127:=by kernel_rfl
 i143:=by kernel_rfl
 i145:=by kernel_rfl
 i167:=by kernel_rfl
 i168:=by kernel_rfl
 i171:=by kernel_rfl
 i173:=by kernel_rfl
 i175:=by kernel_rfl
 i210:=by kernel_rfl
 i212:=by kernel_rfl
 i232:=by kernel_rfl
 i233:=by kernel_rfl
 m15:=by kernel_rfl
 m16:=by kernel_rfl
 m17:=by kernel_rfl
 m18:=by kernel_rfl
 m19:=by kernel_rfl
 c0:=by kernel_rfl
 c2:=by kernel_rfl
 c3:=by kernel_rfl
 c4:=by kernel_rfl
 c5:=by kernel_rfl
 c9:=by kernel_rfl
 c20:=by kernel_rfl
 c21:=by kernel_rfl
 c37:=by kernel_rfl
 c46:=by kernel_rfl
 c51:=by kernel_rfl
 c53:=by kernel_rfl
 c75:=by kernel_rfl
 c76:=by kernel_rfl
 c80:=by kernel_rfl
 c85:=by kernel_rfl
 c127:=by kernel_rfl
 c143:=by kernel_rfl
 c145:=by kernel_rfl
 c167:=by kernel_rfl
 c168:=by kernel_rfl
 c171:=by kernel_rfl
 c173:=by kernel_rfl
 c175:=by kernel_rfl
 c210:=by kernel_rfl
 c212:=by kernel_rfl
 c213:=by kernel_rfl
 c232:=by kernel_rfl
 c233:=by kernel_rfl}
open Go.RowKit in
theorem Tryz.strconv_Atoi_ok(s:ByteArray)(hmax:s.size≤9223372036854775806)(v:Int)(h:Lib.atoiAll s.data.toList=.ok v)(w:World):
  Calls Tryz.prog 166 #[.string s] w fun e w'=>e=.returned (.tuple #[.int .i64 v,.nilIface])∧(w'=w∨∃t,w'=Lib.bytesWorld w 5 t):=Any.strconv_Atoi_ok Tryz.laysC172 s hmax v h w
open Go.RowKit in
theorem Tryz.strconv_Atoi_syntax(s:ByteArray)(hlim:s.size≤281474976710656)(h:Lib.atoiAll s.data.toList=Lib.atoiAll [])(ev:Value)(w:World)(hv:w.cell? ⟨2,0,none⟩=some ev)(hev:ev=.nilIface∨∃te pe,ev=.iface te pe):
  Calls Tryz.prog 166 #[.string s] w fun e w'=>∃N,e=.returned (.tuple #[.int .i64 (0),.iface 348 (.pointer (some ⟨N,0,none⟩))])∧w.heap.size≤N∧w'.heap[N]?= some (.cells #[.string ⟨#[65,116,111,105]⟩,.string s,ev] 358 (0,0))∧Below w.heap.size w w':=Any.strconv_Atoi_syntax Tryz.laysC172 s hlim h ev w hv hev
open Go.RowKit in
theorem Tryz.strconv_Atoi_range(s:ByteArray)(hlim:s.size≤281474976710656)(h:Lib.atoiAll s.data.toList=.range)(ev:Value)(w:World)(hv:w.cell? ⟨3,0,none⟩=some ev)(hev:ev=.nilIface∨∃te pe,ev=.iface te pe):
  Calls Tryz.prog 166 #[.string s] w fun e w'=>∃N,e=.returned (.tuple #[.int .i64 (Lib.atoiSat s.data.toList),.iface 348 (.pointer (some ⟨N,0,none⟩))])∧w.heap.size≤N∧w'.heap[N]?= some (.cells #[.string ⟨#[65,116,111,105]⟩,.string s,ev] 358 (0,0))∧Below w.heap.size w w':=Any.strconv_Atoi_range Tryz.laysC172 s hlim h ev w hv hev
def Tryz.lays146_ren:Go.Shelf.Ren:=⟨fun|146=>90|221=>142|268=>221|138=>222|143=>223|195=>261|197=>262|218=>263|219=>264|260=>275|217=>276|225=>277|224=>278|267=>279|266=>283|314=>284|n=>n,fun|9=>9|31=>22|3=>3|4=>4|0=>0|105=>342|21=>21|5=>5|46=>334|119=>362|139=>365|138=>364|146=>366|51=>332|n=>n,fun|1=>1|3=>6|4=>7|n=>n⟩
theorem Tryz.lays146:Go.Proofs.Lays.n146 Tryz.prog Tryz.lays146_ren:={
 mixed:=by kernel_rfl
 f138:=Tryz.func222.trans (aKJ some Yg)
 f143:=Tryz.func223.trans (aKJ some Yg)
 f146:=Tryz.func90.trans (aKJ some Yg)
 f195:=Tryz.func261.trans (aKJ some Yg)
 f197:=Tryz.func262.trans (aKJ some Yg)
 f217:=Tryz.func276.trans (aKJ some Yg)
 f218:=Tryz.func263.trans (aKJ some Yg)
 f219:=Tryz.func264.trans (aKJ some Yg)
 f221:=Tryz.func142.trans (aKJ some Yg)
 f224:=Tryz.func278.trans (aKJ some Yg)
 f225:=Tryz.func277.trans (aKJ some Yg)
 f260:=Tryz.func275.trans (aKJ some Yg)
 f266:=Tryz.func283.trans (aKJ some Yg)
 f267:=Tryz.func279.trans (aKJ some Yg)
 f268:=Tryz.func221.trans (aKJ some Yg)
 f314:=Tryz.func284.trans (aKJ some Yg)
 t0:=Tryz.underlying0
 a0:=Tryz.isAgg0
 z0:=Tryz.sizeOf0
 v0:=Tryz.zeroValue0
 t3:=Tryz.underlying3
 a3:=Tryz.isAgg3
 z3:=Tryz.sizeOf3
 v3:=Tryz.zeroValue3
 t4:=Tryz.underlying4
 a4:=Tryz.isAgg4
 z4:=Tryz.sizeOf4
 v4:=Tryz.zeroValue4
 t5:=Tryz.underlying5
 a5:=Tryz.isAgg5
 z5:=Tryz.sizeOf5
 v5:=Tryz.zeroValue5
 t9:=Tryz.underlying9
 a9:=Tryz.isAgg9
 z9:=Tryz.sizeOf9
 v9:=Tryz.zeroValue9
 t21:=Tryz.underlying21
 a21:=Tryz.isAgg21
 z21:=Tryz.sizeOf21
 v21:=Tryz.zeroValue21
 t31:=Tryz.underlying22
 a31:=Tryz.isAgg22
 z31:=Tryz.sizeOf22
 v31:=Tryz.zeroValue22
 t46:=Tryz.underlying334
 a46:=Tryz.isAgg334
 z46:=Tryz.sizeOf334
 v46:=Tryz.zeroValue334
 t51:=Tryz.underlying332
 a51:=Tryz.isAgg332
 z51:=Tryz.sizeOf332
 v51:=Tryz.zeroValue332
 t105:=Tryz.underlying342
 a105:=Tryz.isAgg342
 z105:=Tryz.sizeOf342
 v105:=Tryz.zeroValue342
 t119:=Tryz.underlying362
 a119:=Tryz.isAgg362
 z119:=Tryz.sizeOf362
 t138:=Tryz.underlying364
 a138:=Tryz.isAgg364
 z138:=Tryz.sizeOf364
 v138:=Tryz.zeroValue364
 t139:=Tryz.underlying365
 a139:=Tryz.isAgg365
 z139:=Tryz.sizeOf365
 v139:=Tryz.zeroValue365
 t146:=Tryz.underlying366
 a146:=Tryz.isAgg366
 z146:=Tryz.sizeOf366
 v146:=Tryz.zeroValue366
 g1:=by kernel_rfl
 g3:=by kernel_rfl
 g4:=by kernel_rfl}
open Go.RowKit Go.Lib in
theorem Tryz.strings_Split(s sep:ByteArray)(m:Int)(w:World)(hs:s.size<4294967281)(hm:w.cell? ⟨1,0,none⟩=some (.int .i64 m))(h1:1≤sep.size):
  Calls Tryz.prog 90 #[.string s,.string sep] w fun e w'=>
   e=.returned (.slice (some ⟨w.heap.size,0,none⟩) (Lib.countB s sep+1) (Lib.countB s sep+1))∧w'=w.alloc (.cells ((Lib.splitB sep 0 (Lib.countB s sep) s).map Value.string).toArray 9):=Any.strings_Split Tryz.lays146 Yg s sep m w hs hm h1
end Go.Proofs
namespace Go.Fs
open Go.Proofs
namespace L12
open C12 Go.Lib
structure kG(D:aA):Prop where
 tab:D 0=pow10Tab.map (Value.int .u64)
 maxLen:∃m,(D 1)[0]?= some (.int .i64 m)
 esyn:∃c,(D 2)[0]?= some c∧(c=.nilIface∨∃t u,c=.iface t u)
 erng:∃c,(D 3)[0]?= some c∧(c=.nilIface∨∃t u,c=.iface t u)
theorem kG.up{D D':aA}(h:kG D)(hl:Le D D'):kG D':=by
 obtain⟨h1,⟨m,h2⟩,⟨c,h3,h3'⟩,⟨e,h4,h4'⟩⟩:=h;exact⟨hl.2.trans h1,⟨m,hl.get h2⟩,⟨c,hl.get h3,h3'⟩,⟨e,hl.get h4,h4'⟩⟩
theorem kG.tabIs{D:aA}(h:kG D){w:World}(hw:dS D w):TabIs Tryz.prog w "internal/strconv.uint64pow10" .u64 pow10Tab:=by
 have hg:Tryz.prog.globalNamed "internal/strconv.uint64pow10" =some 0:=by kernel_rfl
 obtain⟨-, -,e,fz,h0⟩:=hw;unfold TabIs World.var?;rw[hg,Option.bind_some,h0,h.tab]
theorem p5(w:World)(e:TypeId)(t:ByteArray):Go.RowKit.Below w.heap.size w (bytesWorld w e t):=⟨rfl,rfl,rfl,by rw[bytesWorld_size];omega,fun b hb=>bytesWorld_at_old w e t b hb⟩
theorem o7(w:World)(k:Nat)(os:Array Obj):Go.RowKit.Below w.heap.size w (Go.Sort.grow (w.drewN k) os):=
 ⟨rfl,rfl,rfl,by show w.heap.size≤(w.heap++os).size;rw[Array.size_append];omega,fun b hb=>by show(w.heap++os)[b]?= _;rw[aMS hb]⟩
theorem xK(n:Int)(hn:rP .i64 n)(D:aA)(hV:kG D):Fn Tryz.prog 35 #[.int .i64 n] D (fun _ v=>v=.string (f8 (itoa n))):=by
 have hb: -9223372036854775808≤n∧n≤9223372036854775807:=by simpa [rP]using hn
 refine Fn.of_below (EF.of Tryz.func35 rfl rfl) fun w hw=>(Go.Proofs.Tryz.strconv_Itoa n hb.1 hb.2 w (hV.tabIs hw)).mono ?_
 rintro e w' ⟨rfl,k,os,rfl⟩;exact⟨_,rfl,o7 w k os,fun _ _=>rfl⟩
theorem SL(s:ByteArray)(hs:s.size≤1000)(D:aA)(hV:kG D):Fn Tryz.prog 90 #[.string s,.string ⟨#[32]⟩] D (fun D' v=>Sl D' RS 1 v (dB s)):=by
 obtain⟨m,hm⟩:=hV.maxLen;refine Fn.of_alloc (cs:=(dB s).map Value.string) (e:=9) (r:=fun b=>.slice (some ⟨b,0,none⟩) (dB s).length (dB s).length) (EF.of Tryz.func90 rfl rfl) (fun w hw=>(Go.Proofs.Tryz.strings_Split s ⟨#[32]⟩ m w Yd (hw.cell hm) Yah).mono ?_) fun D' b _ hA=>?_
 ·rintro e w' ⟨rfl,rfl⟩;rw[ET,o6];exact⟨rfl,rfl⟩
 ·have hl:(dB s).length≤1001:=by unfold dB;rw[aMI];exact aMU (b9 _) (by show s.size+1≤1001;omega)
  refine⟨_,_,rfl,aKR _,by omega,aKB ⟨b,0,rfl,fun i x hi=>⟨_,rfl,rfl,fun j v hj=>?_⟩⟩⟩;cases j with
  |zero=>
   obtain rfl:Value.string x=v:=by simpa using hj
   have h:=hA i (.string x) (by rw[aLC,hi];rfl);simpa using h
  |succ j=>simp at hj
theorem YS(s:ByteArray)(hs:s.size≤1000)(D:aA)(hV:kG D):Fn Tryz.prog 166 #[.string s] D (fun _ v=>∃m c,v=.tuple #[.int .i64 m,c]∧rP .i64 m∧((c=.nilIface∧atoiAll s.data.toList=.ok m)∨((∃t u,c=.iface t u)∧∀x,atoiAll s.data.toList≠.ok x))):=by
 refine Fn.of_below (EF.of Tryz.func166 rfl rfl) fun w hw=>?_
 rcases h:atoiAll s.data.toList with v|_|_
 ·refine(Go.Proofs.Tryz.strconv_Atoi_ok s Yd v h w).mono ?_;rintro e w' ⟨rfl,hw'⟩;refine⟨_,rfl,?_,fun _ _=>⟨v,_,rfl,by have:=atoiAll_bounds h;simp only[rP];omega,aKP ⟨rfl,rfl⟩⟩⟩
  rcases hw' with rfl|⟨t,rfl⟩
  ·exact .refl _ _
  ·exact p5 w _ t
 ·obtain⟨c,hc,hc'⟩:=hV.esyn;refine(Go.Proofs.Tryz.strconv_Atoi_syntax s Yd h c w (hw.cell hc) hc').mono ?_;rintro e w' ⟨N,rfl,_,_,hb⟩;exact⟨_,rfl,hb,fun _ _=>⟨0,_,rfl,by simp only[rP];omega,aKB ⟨⟨_,_,rfl⟩,fun x hx=>by cases hx⟩⟩⟩
 ·obtain⟨c,hc,hc'⟩:=hV.erng;refine(Go.Proofs.Tryz.strconv_Atoi_range s Yd h c w (hw.cell hc) hc').mono ?_;rintro e w' ⟨N,rfl,_,_,hb⟩;exact⟨_,rfl,hb,fun _ _=>⟨_,_,rfl,by unfold atoiSat;split<;>simp only[rP]<;>omega,aKB ⟨⟨_,_,rfl⟩,fun x hx=>by cases hx⟩⟩⟩
theorem PZ{s:ByteArray}{m:Int}{c:Value}(h:(c=.nilIface∧atoiAll s.data.toList=.ok m)∨((∃t u,c=.iface t u)∧∀x,atoiAll s.data.toList≠.ok x)):lM s.data.toList=if(((KW c&&decide (m≥0))&&decide ((s.size:Int)≤3))&&decide (f8 (itoa m)=s))=true then some m else none:=by
 rw[←HG];unfold WB;rcases h with⟨rfl,h⟩|⟨⟨t,u,rfl⟩,h⟩
 ·rw[h];have e:s.data.toList.length=s.size:=rfl;have e2:(f8 (itoa m)=s) ↔ itoa m=s.data.toList:=⟨fun h=>by rw[←h];rfl,fun h=>by rw[h];exact sH s⟩
  simp only[KW,aNI,aKG,aKU,e,e2,and_assoc];congr 1;simp only[eq_iff_iff];constructor
  ·rintro⟨h1,h2,h3⟩;exact⟨h1,by omega,h3⟩
  ·rintro⟨h1,h2,h3⟩;exact⟨h1,by omega,h3⟩
 ·split
  ·rename_i v hv;exact absurd hv (h v)
  ·rfl
theorem WA{s:ByteArray}{m:Int}{c:Value}(h:(c=.nilIface∧atoiAll s.data.toList=.ok m)∨((∃t u,c=.iface t u)∧∀x,atoiAll s.data.toList≠.ok x)):(((KW c&&decide (m≥0))&&decide ((s.size:Int)≤3))&&decide (f8 (itoa m)=s))=true→lM s.data.toList=some m:=fun hb=>by rw[PZ h,aKS hb]
theorem aBM{s:ByteArray}{m:Int}{c:Value}(h:(c=.nilIface∧atoiAll s.data.toList=.ok m)∨((∃t u,c=.iface t u)∧∀x,atoiAll s.data.toList≠.ok x)):(((KW c&&decide (m≥0))&&decide ((s.size:Int)≤3))&&decide (f8 (itoa m)=s))=false→lM s.data.toList=none:=fun hb=>by rw[PZ h,aKO (by rw[hb];simp)]
theorem LD(s:ByteArray)(hs:s.size≤1000)(D:aA)(hV:kG D):Fn Tryz.prog 93 #[.string s] D (fun _ v=>∃m b,v=.tuple #[.int .i64 m,.bool b]∧(b=true→lM s.data.toList=some m)∧(b=false→lM s.data.toList=none)):=by
 refine enter 29 Tryz.func93 rfl rfl rfl rfl fun h0=>C.s1<|Zj rfl<|Zj rfl<|L.n3<|Zb rfl<|bU rfl rfl rfl (fun D1 hD1=>YS s hs _ (hV.up (hD1 _ Ye))) rfl aOQ (fun v1 D1 hD1 hp1=>?_)
 obtain⟨m,c,rfl,hm2,hm3⟩:=hp1;refine Zb rfl<|Zz rfl<|Zz rfl<|Zj rfl<|Zj rfl<|L.n3<|Zb rfl<|Zb rfl<|BO rfl U90 rfl (by rcases hm3 with⟨h,_⟩|⟨h,_⟩;exact Or.inl h;exact Or.inr h) rfl trivial<|Zb rfl ?_
 refine' cQ [(false,4),(false,5),(false,6)] [(false,7),(false,8),(false,9),(false,10),(false,11),(false,12),(false,13),(false,14),(false,15),(false,16),(false,17),(false,18),(false,19)] (s:=14) (p:=17) rfl rfl (fun hg1=>?_) (fun hg1=>?_) ?_;rotate_left
 ·refine Zc rfl<|nI rfl rfl rfl rfl ⟨_,rfl,rfl⟩<|Zaa rfl ?_;exact L.cu 2
 ·refine Zi rfl<|Zi rfl<|Zab rfl ?_;exact L.cu 2
 refine Zb rfl ?_;refine' cQ [(false,8),(false,9),(false,10),(false,11)] [(false,12),(false,13),(false,14),(false,15),(false,16),(false,17),(false,18),(false,19)] (s:=18) (p:=22) rfl rfl (fun hg2=>?_) (fun hg2=>?_) ?_;rotate_left
 ·refine Zc rfl<|gH rfl U9 rfl rfl rfl ⟨_,rfl,rfl⟩<|iM rfl rfl rfl rfl ⟨_,rfl,rfl⟩<|Zaa rfl ?_;exact L.cu 3
 ·refine Zi rfl<|Zi rfl<|Zi rfl<|Zab rfl ?_;exact L.cu 3
 refine Zb rfl ?_;refine' cQ [(false,13),(false,14),(false,15),(false,16),(false,17)] [(false,18),(false,19)] (s:=23) (p:=28) rfl rfl (fun hg3=>?_) (fun hg3=>?_) ?_;rotate_left
 ·refine Zc rfl<|Zg rfl (fun D2 hD2=>xK m hm2 _ (hV.up (hD2 _ Ye)))<|Zc rfl<|cB rfl rfl rfl rfl ⟨_,rfl,rfl⟩<|Zaa rfl ?_;exact L.cu 4
 ·refine Zi rfl<|Zi rfl<|Zi rfl<|Zi rfl<|Zab rfl ?_;exact L.cu 4
 refine Zj rfl<|Zj rfl<|L.n5 ?_;exact Za [_,_] rfl C.rs (fun D hD=>⟨m,_,rfl,WA hm3,aBM hm3⟩)
end L12
end Go.Fs
