/- Of BookReports. -/
import Derived.Test.YtmmdpkkcedmgoaaGreatDoorZBookReportsAE
import Derived.Laws.Concat
import Derived.Laws.Strings
import Derived.Below
import Derived.Shelf.Strings.Builder1
import Derived.Shelf.LaysM
import Derived.Shelf.Strconv.Itoa3
import Derived.Shelf.LaysC
import Derived.Shelf.Strconv.AtoiAll
import Derived.Shelf.Strings.Split
namespace Go.Fs
variable{P:Program}{X:Cx}{γb:Type}[Membership Nat γb]{H:γb}{G:Array Oper}{K:Act→Δ→Prop}{Q:Exit→Act→Δ→Prop}
variable{T:bZ}{L:aF}{W:List aC}{os:List (Bool×Nat)}{fl:Bool}{ix:Nat}
variable{d:Nat}{x y z:Operand}{u v:Γ}{ty:Θ}{pos:String}{aft:Array Edge}{g:Option (Nat×Bool)}
theorem Hv(a b:Λ):(a.toList==b.toList)=decide (a=b):=by
 rw[vv];simp only[th,LE];rw[ByteArray.toList_eq,ByteArray.toList_eq];exact⟨λh=>Go.WideShapes.bytes_inj h,λh=>by rw[h]⟩
theorem oP{t t':Θ}{a b:Λ}(ho:G[ix]?= some ⟨some d,.binOp .add t x y t',ty,pos,aft,g⟩)(hx:ev T x=some (.string a))(hy:ev T y=some (.string b))(hl:a.size+b.size≤9223372036854775807)(hN:Nat.blt d X.N=true)(hg:dF G T g)
  (kk:WL P X H G K Q os ((d,.string (a++b))::T) L W):WL P X H G K Q ((fl,ix)::os) T L W:=
 cB ho C C hN hg (λρ hρ w'=>by
  have:((do eqGuard .add t x y (.string a) (.string b);binOp .add t (.string a) (.string b)):Sem Γ).run P w'=.ok (.string (a++b)) w':=by
   rw[Ω];have h1:(eqGuard .add t x y (.string a) (.string b)).run P w'=.ok () w':=rfl;rw[h1];show(binOp .add t (.string a) (.string b)).run P w'=_;rw[binOp_string_add];exact run_string_add_sum _ a b hl
  simp only[execOp,hρ x _ hx,hρ y _ hy];rw[Ω,this];rfl) kk
theorem _root_.Go.Fs.Zaz{t:Θ}{t':Θ}{a:Λ}{b:Λ}(e9:(G[ix]?,ev T x,ev T y)=(some ⟨some d,.binOp .add t x y t',ty,pos,aft,g⟩,some (.string a),some (.string b)))(kk:WL P X H G K Q os ((d,.string (a++b))::T) L W)(hl:a.size+b.size≤9223372036854775807:=by exact Yk)(hN:Nat.blt d X.N=true:=by exact C)(hg:dF G T g:=by exact zy):WL P X H G K Q ((fl,ix)::os) T L W:=oP (zn (λz=>z.1) e9) (zn (λz=>z.2.1) e9) (zn (λz=>z.2.2) e9) hl hN hg kk
theorem mR{t t':Θ}{a b:Λ}(ho:G[ix]?= some ⟨some d,.binOp .eql t x y t',ty,pos,aft,g⟩)(hx:ev T x=some (.string a))(hy:ev T y=some (.string b))(hN:Nat.blt d X.N=true)(hg:dF G T g)
  (kk:WL P X H G K Q os ((d,.bool (decide (a=b)))::T) L W):WL P X H G K Q ((fl,ix)::os) T L W:=
 j3 ho (λw=>by
  rw[Ω];have h1:(eqGuard .eql t x y (.string a) (.string b)).run P w=.ok () w:=rfl;rw[h1,←Hv];show(binOp .eql t (.string a) (.string b)).run P w=_;rw[binOp_string_eql];rfl) hx hy hN hg kk
theorem _root_.Go.Fs.Zay{t:Θ}{t':Θ}{a:Λ}{b:Λ}(e9:(G[ix]?,ev T x,ev T y)=(some ⟨some d,.binOp .eql t x y t',ty,pos,aft,g⟩,some (.string a),some (.string b)))(kk:WL P X H G K Q os ((d,.bool (decide (a=b)))::T) L W)(hN:Nat.blt d X.N=true:=by exact C)(hg:dF G T g:=by exact zy):WL P X H G K Q ((fl,ix)::os) T L W:=mR (zn (λz=>z.1) e9) (zn (λz=>z.2.1) e9) (zn (λz=>z.2.2) e9) hN hg kk
theorem sW{t:Θ}{s:Λ}{k:IntKind}{i:Int}{c:UInt8}(ho:G[ix]?= some ⟨some d,.index t x y,ty,pos,aft,g⟩)(ht:P.underlying t=some .string)(hx:ev T x=some (.string s))(hy:ev T y=some (.int k i))(h0:0≤i)(hc:s[i.toNat]?= some c)(hN:Nat.blt d X.N=true)(hg:dF G T g)
  (kk:WL P X H G K Q os ((d,.int .u8 c.toNat)::T) L W):WL P X H G K Q ((fl,ix)::os) T L W:=
 cB ho C C hN hg (λρ hρ w'=>by
  simp only[execOp,hρ x _ hx,hρ y _ hy];unfold Instr.index asIntOf;simp only[Ω,TU.of ht w',Ξ,ε,pure_bind,h0,yo,hc]) kk
theorem Lz{t:Θ}{s:Λ}{I k2:IntKind}{i j:Int}(ho:G[ix]?= some ⟨some d,.slice t x (some y) (some z) none,ty,pos,aft,g⟩)(ht:P.underlying t=some .string)(hx:ev T x=some (.string s))(hy:ev T y=some (.int I i))(hz:ev T z=some (.int k2 j))(h0:0≤i)(h1:i≤j)(h2:j≤(s.size:Int))(hN:Nat.blt d X.N=true)(hg:dF G T g)
  (kk:WL P X H G K Q os ((d,.string (s.extract i.toNat j.toNat))::T) L W):WL P X H G K Q ((fl,ix)::os) T L W:=
 cB ho C C hN hg (λρ hρ w'=>by
  simp only[execOp,hρ x _ hx,hρ y _ hy,hρ z _ hz,vy,xo];unfold Instr.sliceAt Instr.slice Instr.sliceBounds Instr.sliceBound asIntOf;have O:0≤i∧i≤((j.toNat:Nat):Int):=Yd
  have a2:0≤j∧j≤(s.size:Int):=Yd
  simp only[Ω,TU.of ht w',Ξ,ε,pure_bind,O,a2,vl,yo,Option.isSome_none,wt,xx]) kk
theorem VN{t:Θ}{s:Λ}{I:IntKind}{i:Int}(ho:G[ix]?= some ⟨some d,.slice t x (some y) none none,ty,pos,aft,g⟩)(ht:P.underlying t=some .string)(hx:ev T x=some (.string s))(hy:ev T y=some (.int I i))(h0:0≤i)(h2:i≤(s.size:Int))(hN:Nat.blt d X.N=true)(hg:dF G T g)
  (kk:WL P X H G K Q os ((d,.string (s.extract i.toNat s.size))::T) L W):WL P X H G K Q ((fl,ix)::os) T L W:=
 cB ho C C hN hg (λρ hρ w'=>by
  simp only[execOp,hρ x _ hx,hρ y _ hy,vy,xo];unfold Instr.sliceAt Instr.slice Instr.sliceBounds Instr.sliceBound asIntOf;have O:0≤i∧i≤((s.size:Nat):Int):=Yd
  simp only[Ω,TU.of ht w',Ξ,ε,pure_bind,O,vl,yo,Option.isSome_none,wt,xx]) kk
def ma:Γ→Bool
 |.nilIface=>true
 |_=>false
theorem ep{t t':Θ}{c:Γ}{ms:Array (String×Θ)}(ho:G[ix]?= some ⟨some d,.binOp .eql t x (.const .nilIface) t',ty,pos,aft,g⟩)(ht:P.underlying t=some (.interface ms))(hx:ev T x=some c)(hc:c=.nilIface∨∃t u,c=.iface t u)(hN:Nat.blt d X.N=true)(hg:dF G T g)
  (kk:WL P X H G K Q os ((d,.bool (ma c))::T) L W):WL P X H G K Q ((fl,ix)::os) T L W:=
 j3 ho (λw=>by
  have h1:(eqGuard .eql t x (.const .nilIface) c .nilIface).run P w=.ok () w:=by
   rcases hc with rfl|⟨_,_,rfl⟩
   ·simp only[eqGuard];cases x<;>rfl
   ·rfl
  have h2:(Op.equal t c .nilIface).run P w=.ok (ma c) w:=by
   show(Op.equalIn (9999+1) t c .nilIface).run P w=_;rw[Op.equalIn,Ω,TU.of ht w];rcases hc with rfl|⟨_,_,rfl⟩<;>rfl
  rw[Ω,h1];have h3:(binOp .eql t c .nilIface).run P w=((do Pure.pure (Value.bool (←Op.equal t c .nilIface))):Sem Γ).run P w:=by rcases hc with rfl|⟨_,_,rfl⟩<;>rfl
  show(binOp .eql t c .nilIface).run P w=_;rw[h3,Ω,h2];rfl) hx C hN hg kk
theorem Iu{t t':Θ}{fs:Array Field}(ho:G[ix]?= some ⟨some d,.typeAssert x t' t true,ty,pos,aft,g⟩)(ht:P.underlying t=some (.struct fs))(hx:ev T x=some (.iface t v))(hN:Nat.blt d X.N=true)(hg:dF G T g)
  (kk:WL P X H G K Q os ((d,.tuple #[v,.bool true])::T) L W):WL P X H G K Q ((fl,ix)::os) T L W:=
 cB ho C C hN hg (λρ hρ w'=>by
  simp only[execOp,hρ x _ hx];unfold Instr.typeAssert;simp only[Ω,TU.of ht w',Ξ,yo,ε]) kk

theorem Fn.of_below{f:FuncId}{args:Array Γ}{D:aC}{post:aC→Γ→Prop}(hEF:EF P f)(h:∀w,gI D w→Calls P f args w λen w'=>∃r,en=.returned r∧Go.RowKit.Below w.heap.size w w'∧∀D',Le D D'→post D' r):Fn P f args D post:=by
 refine⟨hEF,λw hw=>(h w hw).mono ?_⟩;rintro en w' ⟨r,he,hb,hp⟩;refine⟨r,D,he,⟨zk _,hb.size,λb hl _=>hb.block b hl,λ_ _=>C,hw.of (λb hb'=>?_) C (hb.block 0 hw.pos),Yi,wz,Yi,λe he=>by rw[←yi he];exact Prod.ext hb.os hb.output⟩,hp D (Le.refl _)⟩
 obtain⟨cs,e,fz,h1,h2⟩:=hw.1 b hb';exact⟨cs,e,fz,by rw[hb.block b (bR h1)];exact h1,h2⟩
theorem OM{α:Type}{R:Rd α}{t e:Θ}{D₁:aC}{ad:Option Addr}{n cap j:Nat}{k:IntKind}{xs:List α}(ho:G[ix]?= some ⟨some d,.slice t x (some y) none none,ty,pos,aft,g⟩)(ht:P.underlying t=some (.slice e))(hs:TS P e 1)(hx:ev T x=some (.slice ad n cap))(hS:Sl D₁ R 1 (.slice ad n cap) xs)(hy:ev T y=some (.int k (j:Int)))(hj:j≤n)
  (hN:Nat.blt d X.N=true) (hg:dF G T g) (kk:∀a',Sl D₁ R 1 (.slice a' (n-j) (cap-j)) (xs.drop j)→WL P X H G K Q os ((d,.slice a' (n-j) (cap-j))::T) L W):WL P X H G K Q ((fl,ix)::os) T L W:=by
 obtain⟨a,c,hv,h1,h2,h3⟩:=hS;cases hv;refine cB (v:=.slice (if cap=j then ad else ad.map (·.add (j*1))) (xs.length-j) (cap-j)) ho C C hN hg (λρ hρ w'=>?_) (kk _ ⟨_,_,by rw[vq],by rw[vq];omega,by rw[vq];omega,?_⟩)
 ·simp only[execOp,vy,xo,hρ x _ hx,hρ y _ hy];unfold Instr.sliceAt Instr.slice Instr.sliceBounds Instr.sliceBound asIntOf;have hle:(0:Int)≤(j:Int)∧(j:Int)≤(xs.length:Nat):=Yd
  simp only[Ω,TU.of ht w',Ξ,ε,pure_bind,hs w',hle,vl,yo,xr]
 ·by_cases he:xs.length=j
  ·exact zq (wl Yd)
  ·rcases h3 with h3|⟨b,o,rfl,h3⟩
   ·subst h3;simp at he hj;omega
   ·refine zt ⟨b,o+j,by rw[zv Yd];simp[iL],λi z hi=>?_⟩;rw[vb]at hi;obtain⟨cs,hr,hc,hA⟩:=h3 _ _ hi;exact⟨cs,hr,hc,by rw[show o+j+i*1=o+(j+i)*1 by omega];exact hA⟩
end Go.Fs
namespace Go.Proofs
open Go.Shelf
def Tryz.lays169_ren:Go.Shelf.Ren:=⟨fun|169=>52|n=>n,fun|70=>110|9=>9|0=>0|72=>112|37=>70|127=>226|3=>3|5=>5|n=>n,fun|n=>n⟩
theorem Tryz.lays169:Go.Proofs.Lays.n169 Tryz.prog Tryz.lays169_ren:={
 mixed:=by kernel_rfl
 f169:=Tryz.func52.trans (zn some Yg)
 t0:=Tryz.underlying0
 a0:=Tryz.isAgg0
 z0:=Tryz.sizeOf0
 v0:=Tryz.zeroValue0
 t3:=Tryz.underlying3
 a3:=Tryz.isAgg3
 z3:=Tryz.sizeOf3
 v3:=Tryz.zeroValue3
 t9:=Tryz.underlying9
 a9:=Tryz.isAgg9
 z9:=Tryz.sizeOf9
 v9:=Tryz.zeroValue9
 t37:=Tryz.underlying70
 a37:=Tryz.isAgg70
 z37:=Tryz.sizeOf70
 v37:=Tryz.zeroValue70
 t70:=Tryz.underlying110
 a70:=Tryz.isAgg110
 z70:=Tryz.sizeOf110
 v70:=Tryz.zeroValue110
 t72:=Tryz.underlying112
 a72:=Tryz.isAgg112
 z72:=Tryz.sizeOf112
 v72:=Tryz.zeroValue112
 t127:=Tryz.underlying226
 a127:=Tryz.isAgg226
 z127:=Tryz.sizeOf226
 v127:=Tryz.zeroValue226}
theorem Tryz.Builder_Extra_169:Builder.Extra Tryz.prog Tryz.lays169_ren:={
 sizeBuilder:=by kernel_rfl
 liesBuilder:=by kernel_rfl
 t5:=Tryz.underlying5
 a5:=Tryz.isAgg5
 z5:=Tryz.sizeOf5
 v5:=Tryz.zeroValue5
 infoByte:=by kernel_rfl
 cellsByte:=by kernel_rfl
 sizeByte:=by kernel_rfl
 neB5:=by decide}
open Go.RowKit in
theorem Tryz.Builder_String_any(B b:Nat)(l:List UInt8)(w:World)(h:Lib.IsBuilder 112 5 B b (Lib.byteCells l) w)(hBw:B≤w.heap.size):
  Calls Tryz.prog 52 #[.pointer (some ⟨b,0,none⟩)] w fun e w'=>e=.returned (.string ⟨l.toArray⟩)∧Below B w w':=Any.Builder_String_any Tryz.lays169 Tryz.Builder_Extra_169 B b l w h hBw
def Tryz.laysM171_ren:Go.Shelf.Ren:=⟨fun|171=>43|243=>91|246=>152|283=>214|284=>215|285=>216|286=>217|129=>297|317=>296|318=>298|319=>299|320=>300|337=>335|338=>336|n=>n,fun|3=>3|9=>9|2=>2|4=>4|171=>363|0=>0|53=>364|37=>70|5=>5|173=>367|212=>410|51=>411|20=>20|213=>412|46=>336|232=>451|233=>452|n=>n,fun|17=>0|18=>1|19=>2|n=>n⟩
theorem Tryz.laysM171:Go.Proofs.LaysM.n171 Tryz.prog Tryz.laysM171_ren:={
 mixed:=by kernel_rfl
 f129:=Tryz.func297.trans (zn some Yg)
 f171:=Tryz.func43.trans (zn some Yg)
 f243:=Tryz.func91.trans (zn some Yg)
 f246:=Tryz.func152.trans (zn some Yg)
 f283:=Tryz.func214.trans (zn some Yg)
 f284:=Tryz.func215.trans (zn some Yg)
 f285:=Tryz.func216.trans (zn some Yg)
 f286:=Tryz.func217.trans (zn some Yg)
 f317:=Tryz.func296.trans (zn some Yg)
 f318:=Tryz.func298.trans (zn some Yg)
 f319:=Tryz.func299.trans (zn some Yg)
 f320:=Tryz.func300.trans (zn some Yg)
 f337:=Tryz.func335.trans (zn some Yg)
 f338:=Tryz.func336.trans (zn some Yg)
 t0:=Tryz.underlying0
 a0:=Tryz.isAgg0
 z0:=Tryz.sizeOf0
 v0:=Tryz.zeroValue0
 t2:=Tryz.underlying2
 a2:=Tryz.isAgg2
 z2:=Tryz.sizeOf2
 v2:=Tryz.zeroValue2
 t3:=Tryz.underlying3
 a3:=Tryz.isAgg3
 z3:=Tryz.sizeOf3
 v3:=Tryz.zeroValue3
 t4:=Tryz.underlying4
 a4:=Tryz.isAgg4
 z4:=Tryz.sizeOf4
 v4:=Tryz.zeroValue4
 t5:=Tryz.underlying5
 a5:=Tryz.isAgg5
 z5:=Tryz.sizeOf5
 v5:=Tryz.zeroValue5
 t9:=Tryz.underlying9
 a9:=Tryz.isAgg9
 z9:=Tryz.sizeOf9
 v9:=Tryz.zeroValue9
 t20:=Tryz.underlying20
 a20:=Tryz.isAgg20
 z20:=Tryz.sizeOf20
 v20:=Tryz.zeroValue20
 t37:=Tryz.underlying70
 a37:=Tryz.isAgg70
 z37:=Tryz.sizeOf70
 v37:=Tryz.zeroValue70
 t46:=Tryz.underlying336
 a46:=Tryz.isAgg336
 z46:=Tryz.sizeOf336
 v46:=Tryz.zeroValue336
 t51:=Tryz.underlying411
 a51:=Tryz.isAgg411
 z51:=Tryz.sizeOf411
 v51:=Tryz.zeroValue411
 t53:=Tryz.underlying364
 a53:=Tryz.isAgg364
 z53:=Tryz.sizeOf364
 v53:=Tryz.zeroValue364
 t171:=Tryz.underlying363
 a171:=Tryz.isAgg363
 z171:=Tryz.sizeOf363
 v171:=Tryz.zeroValue363
 t173:=Tryz.underlying367
 a173:=Tryz.isAgg367
 z173:=Tryz.sizeOf367
 v173:=Tryz.zeroValue367
 t212:=Tryz.underlying410
 a212:=Tryz.isAgg410
 z212:=Tryz.sizeOf410
 v212:=Tryz.zeroValue410
 t213:=Tryz.underlying412
 a213:=Tryz.isAgg412
 z213:=Tryz.sizeOf412
 t232:=Tryz.underlying451
 a232:=Tryz.isAgg451
 z232:=Tryz.sizeOf451
 v232:=Tryz.zeroValue451
 t233:=Tryz.underlying452
 a233:=Tryz.isAgg452
 z233:=Tryz.sizeOf452
 v233:=Tryz.zeroValue452
 g17:=by kernel_rfl
 g18:=by kernel_rfl
 g19:=by kernel_rfl
 i0:=by kernel_rfl
 i2:=by kernel_rfl
 i3:=by kernel_rfl
 i4:=by kernel_rfl
 i5:=by kernel_rfl
 i9:=by kernel_rfl
 i20:=by kernel_rfl
 i37:=by kernel_rfl
 i46:=by kernel_rfl
 i51:=by kernel_rfl
 i53:=by kernel_rfl
 i171:=by kernel_rfl
 i173:=by kernel_rfl
 i212:=by kernel_rfl
 i232:=by kernel_rfl
 i233:=by kernel_rfl
 m17:=by kernel_rfl
 m18:=by kernel_rfl
 m19:=by kernel_rfl}
open Go.RowKit Go.Sort Go.Lib in
theorem Tryz.strconv_Itoa(n:Int)(h0: -9223372036854775808≤n)(h1:n≤9223372036854775807)(w:World)(htab:Lib.TabIs Tryz.prog w "internal/strconv.uint64pow10" .u64 Lib.pow10Tab):
  Calls Tryz.prog 43 #[.int .i64 n] w fun e w'=>e=.returned (.string ⟨(Lib.itoa n).toArray⟩)∧∃k os,w'=grow (w.drewN k) os:=Any.strconv_Itoa Tryz.laysM171 n h0 h1 w htab
def Tryz.laysC172_ren:Go.Shelf.Ren:=⟨fun|172=>285|244=>330|245=>331|247=>344|279=>345|280=>346|281=>347|282=>348|287=>354|316=>355|171=>43|205=>356|321=>359|322=>360|243=>91|246=>152|283=>214|284=>215|285=>216|286=>217|129=>297|317=>296|318=>298|319=>299|320=>300|337=>335|338=>336|n=>n,fun|9=>9|3=>3|75=>114|76=>115|4=>4|5=>5|167=>445|37=>70|0=>0|85=>446|2=>2|168=>448|53=>364|175=>453|46=>336|210=>457|127=>226|145=>468|143=>466|21=>21|171=>363|173=>367|212=>410|51=>411|20=>20|213=>412|232=>451|233=>452|80=>135|n=>n,fun|15=>4|16=>5|17=>0|18=>1|19=>2|n=>n⟩
theorem Tryz.laysC172:Go.Proofs.LaysC.n172 Tryz.prog Tryz.laysC172_ren:={
 mixed:=by kernel_rfl
 f129:=Tryz.func297.trans (zn some Yg)
 f171:=Tryz.func43.trans (zn some Yg)
 f172:=Tryz.func285.trans (zn some Yg)
 f205:=Tryz.func356.trans (zn some Yg)
 f243:=Tryz.func91.trans (zn some Yg)
 f244:=Tryz.func330.trans (zn some Yg)
 f245:=Tryz.func331.trans (zn some Yg)
 f246:=Tryz.func152.trans (zn some Yg)
 f247:=Tryz.func344.trans (zn some Yg)
 f279:=Tryz.func345.trans (zn some Yg)
 f280:=Tryz.func346.trans (zn some Yg)
 f281:=Tryz.func347.trans (zn some Yg)
 f282:=Tryz.func348.trans (zn some Yg)
 f283:=Tryz.func214.trans (zn some Yg)
 f284:=Tryz.func215.trans (zn some Yg)
 f285:=Tryz.func216.trans (zn some Yg)
 f286:=Tryz.func217.trans (zn some Yg)
 f287:=Tryz.func354.trans (zn some Yg)
 f316:=Tryz.func355.trans (zn some Yg)
 f317:=Tryz.func296.trans (zn some Yg)
 f318:=Tryz.func298.trans (zn some Yg)
 f319:=Tryz.func299.trans (zn some Yg)
 f320:=Tryz.func300.trans (zn some Yg)
 f321:=Tryz.func359.trans (zn some Yg)
 f322:=Tryz.func360.trans (zn some Yg)
 f337:=Tryz.func335.trans (zn some Yg)
 f338:=Tryz.func336.trans (zn some Yg)
 t0:=Tryz.underlying0
 a0:=Tryz.isAgg0
 z0:=Tryz.sizeOf0
 v0:=Tryz.zeroValue0
 t2:=Tryz.underlying2
 a2:=Tryz.isAgg2
 z2:=Tryz.sizeOf2
 v2:=Tryz.zeroValue2
 t3:=Tryz.underlying3
 a3:=Tryz.isAgg3
 z3:=Tryz.sizeOf3
 v3:=Tryz.zeroValue3
 t4:=Tryz.underlying4
 a4:=Tryz.isAgg4
 z4:=Tryz.sizeOf4
 v4:=Tryz.zeroValue4
 t5:=Tryz.underlying5
 a5:=Tryz.isAgg5
 z5:=Tryz.sizeOf5
 v5:=Tryz.zeroValue5
 t9:=Tryz.underlying9
 a9:=Tryz.isAgg9
 z9:=Tryz.sizeOf9
 v9:=Tryz.zeroValue9
 t20:=Tryz.underlying20
 a20:=Tryz.isAgg20
 z20:=Tryz.sizeOf20
 v20:=Tryz.zeroValue20
 t21:=Tryz.underlying21
 a21:=Tryz.isAgg21
 z21:=Tryz.sizeOf21
 v21:=Tryz.zeroValue21
 t37:=Tryz.underlying70
 a37:=Tryz.isAgg70
 z37:=Tryz.sizeOf70
 v37:=Tryz.zeroValue70
 t46:=Tryz.underlying336
 a46:=Tryz.isAgg336
 z46:=Tryz.sizeOf336
 v46:=Tryz.zeroValue336
 t51:=Tryz.underlying411
 a51:=Tryz.isAgg411
 z51:=Tryz.sizeOf411
 v51:=Tryz.zeroValue411
 t53:=Tryz.underlying364
 a53:=Tryz.isAgg364
 z53:=Tryz.sizeOf364
 v53:=Tryz.zeroValue364
 t75:=Tryz.underlying114
 a75:=Tryz.isAgg114
 z75:=Tryz.sizeOf114
 v75:=Tryz.zeroValue114
 t76:=Tryz.underlying115
 a76:=Tryz.isAgg115
 z76:=Tryz.sizeOf115
 v76:=Tryz.zeroValue115
 t85:=Tryz.underlying446
 a85:=Tryz.isAgg446
 z85:=Tryz.sizeOf446
 v85:=Tryz.zeroValue446
 t127:=Tryz.underlying226
 a127:=Tryz.isAgg226
 z127:=Tryz.sizeOf226
 v127:=Tryz.zeroValue226
 t143:=Tryz.underlying466
 a143:=Tryz.isAgg466
 z143:=Tryz.sizeOf466
 v143:=Tryz.zeroValue466
 t145:=Tryz.underlying468
 a145:=Tryz.isAgg468
 z145:=Tryz.sizeOf468
 v145:=Tryz.zeroValue468
 t167:=Tryz.underlying445
 a167:=Tryz.isAgg445
 z167:=Tryz.sizeOf445
 v167:=Tryz.zeroValue445
 t168:=Tryz.underlying448
 a168:=Tryz.isAgg448
 z168:=Tryz.sizeOf448
 v168:=Tryz.zeroValue448
 t171:=Tryz.underlying363
 a171:=Tryz.isAgg363
 z171:=Tryz.sizeOf363
 v171:=Tryz.zeroValue363
 t173:=Tryz.underlying367
 a173:=Tryz.isAgg367
 z173:=Tryz.sizeOf367
 v173:=Tryz.zeroValue367
 t175:=Tryz.underlying453
 a175:=Tryz.isAgg453
 z175:=Tryz.sizeOf453
 v175:=Tryz.zeroValue453
 t210:=Tryz.underlying457
 a210:=Tryz.isAgg457
 z210:=Tryz.sizeOf457
 v210:=Tryz.zeroValue457
 t212:=Tryz.underlying410
 a212:=Tryz.isAgg410
 z212:=Tryz.sizeOf410
 v212:=Tryz.zeroValue410
 t213:=Tryz.underlying412
 a213:=Tryz.isAgg412
 z213:=Tryz.sizeOf412
 t232:=Tryz.underlying451
 a232:=Tryz.isAgg451
 z232:=Tryz.sizeOf451
 v232:=Tryz.zeroValue451
 t233:=Tryz.underlying452
 a233:=Tryz.isAgg452
 z233:=Tryz.sizeOf452
 v233:=Tryz.zeroValue452
 g15:=by kernel_rfl
 g16:=by kernel_rfl
 g17:=by kernel_rfl
 g18:=by kernel_rfl
 g19:=by kernel_rfl
 t80:=Tryz.underlying135
 a80:=Tryz.isAgg135
 z80:=Tryz.sizeOf135
 v80:=Tryz.zeroValue135
 i0:=by kernel_rfl
 i2:=by kernel_rfl
 i3:=by kernel_rfl
 i4:=by kernel_rfl
 i5:=by kernel_rfl
 i9:=by kernel_rfl
 i20:=by kernel_rfl
 i21:=by kernel_rfl
 i37:=by kernel_rfl
 i46:=by kernel_rfl
 i51:=by kernel_rfl
 i53:=by kernel_rfl
 i75:=by kernel_rfl
 i76:=by kernel_rfl
 i80:=by kernel_rfl
 i85:=by kernel_rfl
 i127:=by kernel_rfl
 i143:=by kernel_rfl
 i145:=by kernel_rfl
 i167:=by kernel_rfl
 i168:=by kernel_rfl
 i171:=by kernel_rfl
 i173:=by kernel_rfl
 i175:=by kernel_rfl
 i210:=by kernel_rfl
 i212:=by kernel_rfl
 i232:=by kernel_rfl
 i233:=by kernel_rfl
 m15:=by kernel_rfl
 m16:=by kernel_rfl
 m17:=by kernel_rfl
 m18:=by kernel_rfl
 m19:=by kernel_rfl
 c0:=by kernel_rfl
 c2:=by kernel_rfl
 c3:=by kernel_rfl
 c4:=by kernel_rfl
 c5:=by kernel_rfl
 c9:=by kernel_rfl
 c20:=by kernel_rfl
 c21:=by kernel_rfl
 c37:=by kernel_rfl
 c46:=by kernel_rfl
 c51:=by kernel_rfl
 c53:=by kernel_rfl
 c75:=by kernel_rfl
 c76:=by kernel_rfl
 c80:=by kernel_rfl
 c85:=by kernel_rfl
 c127:=by kernel_rfl
 c143:=by kernel_rfl
 c145:=by kernel_rfl
 c167:=by kernel_rfl
 c168:=by kernel_rfl
 c171:=by kernel_rfl
 c173:=by kernel_rfl
 c175:=by kernel_rfl
 c210:=by kernel_rfl
 c212:=by kernel_rfl
 c213:=by kernel_rfl
 c232:=by kernel_rfl
 c233:=by kernel_rfl}
open Go.RowKit in
theorem Tryz.strconv_Atoi_ok(s:ByteArray)(hmax:s.size≤9223372036854775806)(v:Int)(h:Lib.atoiAll s.data.toList=.ok v)(w:World):
  Calls Tryz.prog 285 #[.string s] w fun e w'=>e=.returned (.tuple #[.int .i64 v,.nilIface])∧(w'=w∨∃t,w'=Lib.bytesWorld w 5 t):=Any.strconv_Atoi_ok Tryz.laysC172 s hmax v h w
open Go.RowKit in
theorem Tryz.strconv_Atoi_syntax(s:ByteArray)(hlim:s.size≤281474976710656)(h:Lib.atoiAll s.data.toList=Lib.atoiAll [])(ev:Value)(w:World)(hv:w.cell? ⟨4,0,none⟩=some ev)(hev:ev=.nilIface∨∃te pe,ev=.iface te pe):
  Calls Tryz.prog 285 #[.string s] w fun e w'=>∃N,e=.returned (.tuple #[.int .i64 (0),.iface 448 (.pointer (some ⟨N,0,none⟩))])∧w.heap.size≤N∧w'.heap[N]?= some (.cells #[.string ⟨#[65,116,111,105]⟩,.string s,ev] 457 (0,0))∧Below w.heap.size w w':=Any.strconv_Atoi_syntax Tryz.laysC172 s hlim h ev w hv hev
open Go.RowKit in
theorem Tryz.strconv_Atoi_range(s:ByteArray)(hlim:s.size≤281474976710656)(h:Lib.atoiAll s.data.toList=.range)(ev:Value)(w:World)(hv:w.cell? ⟨5,0,none⟩=some ev)(hev:ev=.nilIface∨∃te pe,ev=.iface te pe):
  Calls Tryz.prog 285 #[.string s] w fun e w'=>∃N,e=.returned (.tuple #[.int .i64 (Lib.atoiSat s.data.toList),.iface 448 (.pointer (some ⟨N,0,none⟩))])∧w.heap.size≤N∧w'.heap[N]?= some (.cells #[.string ⟨#[65,116,111,105]⟩,.string s,ev] 457 (0,0))∧Below w.heap.size w w':=Any.strconv_Atoi_range Tryz.laysC172 s hlim h ev w hv hev
def Tryz.lays146_ren:Go.Shelf.Ren:=⟨fun|146=>204|221=>261|268=>316|138=>317|143=>318|195=>340|197=>341|218=>342|219=>343|260=>349|217=>350|225=>351|224=>352|267=>353|266=>357|314=>358|n=>n,fun|9=>9|31=>22|3=>3|4=>4|0=>0|105=>442|21=>21|5=>5|46=>336|119=>459|139=>462|138=>461|146=>463|51=>411|n=>n,fun|1=>3|3=>6|4=>7|n=>n⟩
theorem Tryz.lays146:Go.Proofs.Lays.n146 Tryz.prog Tryz.lays146_ren:={
 mixed:=by kernel_rfl
 f138:=Tryz.func317.trans (zn some Yg)
 f143:=Tryz.func318.trans (zn some Yg)
 f146:=Tryz.func204.trans (zn some Yg)
 f195:=Tryz.func340.trans (zn some Yg)
 f197:=Tryz.func341.trans (zn some Yg)
 f217:=Tryz.func350.trans (zn some Yg)
 f218:=Tryz.func342.trans (zn some Yg)
 f219:=Tryz.func343.trans (zn some Yg)
 f221:=Tryz.func261.trans (zn some Yg)
 f224:=Tryz.func352.trans (zn some Yg)
 f225:=Tryz.func351.trans (zn some Yg)
 f260:=Tryz.func349.trans (zn some Yg)
 f266:=Tryz.func357.trans (zn some Yg)
 f267:=Tryz.func353.trans (zn some Yg)
 f268:=Tryz.func316.trans (zn some Yg)
 f314:=Tryz.func358.trans (zn some Yg)
 t0:=Tryz.underlying0
 a0:=Tryz.isAgg0
 z0:=Tryz.sizeOf0
 v0:=Tryz.zeroValue0
 t3:=Tryz.underlying3
 a3:=Tryz.isAgg3
 z3:=Tryz.sizeOf3
 v3:=Tryz.zeroValue3
 t4:=Tryz.underlying4
 a4:=Tryz.isAgg4
 z4:=Tryz.sizeOf4
 v4:=Tryz.zeroValue4
 t5:=Tryz.underlying5
 a5:=Tryz.isAgg5
 z5:=Tryz.sizeOf5
 v5:=Tryz.zeroValue5
 t9:=Tryz.underlying9
 a9:=Tryz.isAgg9
 z9:=Tryz.sizeOf9
 v9:=Tryz.zeroValue9
 t21:=Tryz.underlying21
 a21:=Tryz.isAgg21
 z21:=Tryz.sizeOf21
 v21:=Tryz.zeroValue21
 t31:=Tryz.underlying22
 a31:=Tryz.isAgg22
 z31:=Tryz.sizeOf22
 v31:=Tryz.zeroValue22
 t46:=Tryz.underlying336
 a46:=Tryz.isAgg336
 z46:=Tryz.sizeOf336
 v46:=Tryz.zeroValue336
 t51:=Tryz.underlying411
 a51:=Tryz.isAgg411
 z51:=Tryz.sizeOf411
 v51:=Tryz.zeroValue411
 t105:=Tryz.underlying442
 a105:=Tryz.isAgg442
 z105:=Tryz.sizeOf442
 v105:=Tryz.zeroValue442
 t119:=Tryz.underlying459
 a119:=Tryz.isAgg459
 z119:=Tryz.sizeOf459
 t138:=Tryz.underlying461
 a138:=Tryz.isAgg461
 z138:=Tryz.sizeOf461
 v138:=Tryz.zeroValue461
 t139:=Tryz.underlying462
 a139:=Tryz.isAgg462
 z139:=Tryz.sizeOf462
 v139:=Tryz.zeroValue462
 t146:=Tryz.underlying463
 a146:=Tryz.isAgg463
 z146:=Tryz.sizeOf463
 v146:=Tryz.zeroValue463
 g1:=by kernel_rfl
 g3:=by kernel_rfl
 g4:=by kernel_rfl}
open Go.RowKit Go.Lib in
theorem Tryz.strings_Split(s sep:ByteArray)(m:Int)(w:World)(hs:s.size<4294967281)(hm:w.cell? ⟨3,0,none⟩=some (.int .i64 m))(h1:1≤sep.size):
  Calls Tryz.prog 204 #[.string s,.string sep] w fun e w'=>
   e=.returned (.slice (some ⟨w.heap.size,0,none⟩) (Lib.countB s sep+1) (Lib.countB s sep+1))∧w'=w.alloc (.cells ((Lib.splitB sep 0 (Lib.countB s sep) s).map Value.string).toArray 9):=Any.strings_Split Tryz.lays146 Yg s sep m w hs hm h1
end Go.Proofs
namespace Go.Fs
open Go.Proofs Tryz
namespace L12
open C12 Go.Lib
structure rK(D:aC):Prop where
 tab:D 0=pow10Tab.map (Value.int .u64)
 maxLen:∃m,(D 3)[0]?= some (qI m)
 esyn:∃c,(D 4)[0]?= some c∧(c=.nilIface∨∃t u,c=.iface t u)
 erng:∃c,(D 5)[0]?= some c∧(c=.nilIface∨∃t u,c=.iface t u)
theorem rK.up{D D':aC}(h:rK D)(hl:Le D D'):rK D':=by
 obtain⟨h1,⟨m,h2⟩,⟨c,h3,h3'⟩,⟨e,h4,h4'⟩⟩:=h;exact⟨hl.2.trans h1,⟨m,hl.get h2⟩,⟨c,hl.get h3,h3'⟩,⟨e,hl.get h4,h4'⟩⟩
theorem rK.tabIs{D:aC}(h:rK D){w:Δ}(hw:gI D w):TabIs prog w "internal/strconv.uint64pow10" .u64 pow10Tab:=by
 have hg:prog.globalNamed "internal/strconv.uint64pow10" =some 0:=Yg
 obtain⟨-, -,e,fz,h0⟩:=hw;unfold TabIs World.var?;rw[hg,Option.bind_some,h0,h.tab]
theorem ZZ(w:Δ)(e:Θ)(t:Λ):Go.RowKit.Below w.heap.size w (bytesWorld w e t):=⟨C,C,C,by rw[bytesWorld_size];omega,λb hb=>bytesWorld_at_old w e t b hb⟩
theorem ZK(w:Δ)(k:Nat)(os:Array Obj):Go.RowKit.Below w.heap.size w (Go.Sort.grow (w.drewN k) os):=
 ⟨C,C,C,by show w.heap.size≤(w.heap++os).size;rw[Array.size_append];omega,λb hb=>by show(w.heap++os)[b]?= _;rw[sb hb]⟩
theorem AJ(n:Int)(hn:vE .i64 n)(D:aC)(hV:rK D):Fn prog 43 #[qI n] D (λ_ v=>v=.string (rN (itoa n))):=by
 have hb: -9223372036854775808≤n∧n≤9223372036854775807:=by simpa [vE]using hn
 refine Fn.of_below (EF.of func43 C C) λw hw=>(Go.Proofs.Tryz.strconv_Itoa n hb.1 hb.2 w (hV.tabIs hw)).mono ?_
 rintro e w' ⟨rfl,k,os,rfl⟩;exact⟨_,C,ZK w k os,λ_ _=>C⟩
theorem Ak(s:Λ)(hs:s.size≤1000)(D:aC)(hV:rK D):Fn prog 204 #[.string s,.string ⟨#[32]⟩] D (λD' v=>Sl D' RS 1 v (eH s)):=by
 obtain⟨m,hm⟩:=hV.maxLen;refine Fn.of_alloc (cs:=(eH s).map Value.string) (e:=9) (r:=λb=>qS b (eH s).length (eH s).length) (EF.of func204 C C) (λw hw=>(Go.Proofs.Tryz.strings_Split s ⟨#[32]⟩ m w Yd (hw.cell hm) Yu).mono ?_) λD' b _ hA=>?_
 ·rintro e w' ⟨rfl,rfl⟩;rw[Mw,WX];exact⟨C,C⟩
 ·have hl:(eH s).length≤1001:=by unfold eH;rw[yh];exact xj (RO _) (by show s.size+1≤1001;omega)
  refine⟨_,_,C,zk _,Yd,zt ⟨b,0,C,λi x hi=>⟨_,C,C,λj v hj=>?_⟩⟩⟩;cases j with
  |zero=>
   obtain rfl:Value.string x=v:=qd
   have h:=hA i (.string x) (by rw[xt,hi];rfl);simpa using h
  |succ j=>simp at hj
theorem Yas(s:Λ)(hs:s.size≤1000)(D:aC)(hV:rK D):Fn prog 285 #[.string s] D (λ_ v=>∃m c,v=.tuple #[qI m,c]∧vE .i64 m∧((c=.nilIface∧atoiAll s.data.toList=.ok m)∨((∃t u,c=.iface t u)∧∀x,atoiAll s.data.toList≠.ok x))):=by
 refine Fn.of_below (EF.of func285 C C) λw hw=>?_
 rcases h:atoiAll s.data.toList with v|_|_
 ·refine(Go.Proofs.Tryz.strconv_Atoi_ok s Yd v h w).mono ?_;rintro e w' ⟨rfl,hw'⟩;refine⟨_,C,?_,λ_ _=>⟨v,_,C,by have:=atoiAll_bounds h;simp only[vE];omega,zq ⟨C,C⟩⟩⟩
  rcases hw' with rfl|⟨t,rfl⟩
  ·exact .refl _ _
  ·exact ZZ w _ t
 ·obtain⟨c,hc,hc'⟩:=hV.esyn;refine(Go.Proofs.Tryz.strconv_Atoi_syntax s Yd h c w (hw.cell hc) hc').mono ?_;rintro e w' ⟨N,rfl,_,_,hb⟩;exact⟨_,C,hb,λ_ _=>⟨0,_,C,Ye,zt ⟨⟨_,_,C⟩,λx hx=>by cases hx⟩⟩⟩
 ·obtain⟨c,hc,hc'⟩:=hV.erng;refine(Go.Proofs.Tryz.strconv_Atoi_range s Yd h c w (hw.cell hc) hc').mono ?_;rintro e w' ⟨N,rfl,_,_,hb⟩;exact⟨_,C,hb,λ_ _=>⟨_,_,C,by unfold atoiSat;split<;>simp only[vE]<;>omega,zt ⟨⟨_,_,C⟩,λx hx=>by cases hx⟩⟩⟩
theorem Ps{s:Λ}{m:Int}{c:Γ}(h:(c=.nilIface∧atoiAll s.data.toList=.ok m)∨((∃t u,c=.iface t u)∧∀x,atoiAll s.data.toList≠.ok x)):tI s.data.toList=if(((ma c&&decide (m≥0))&&decide ((s.size:Int)≤3))&&decide (rN (itoa m)=s))=true then some m else none:=by
 rw[←Ug];unfold gj;rcases h with⟨rfl,h⟩|⟨⟨t,u,rfl⟩,h⟩
 ·rw[h];have e:s.data.toList.length=s.size:=rfl;have I:(rN (itoa m)=s) ↔ itoa m=s.data.toList:=⟨λh=>by rw[←h];rfl,λh=>by rw[h];exact zV s⟩
  simp only[ma,v_,zl,LE,e,I,and_assoc];congr 1;simp only[eq_iff_iff];constructor
  ·rintro⟨h1,h2,h3⟩;exact⟨h1,Yd,h3⟩
  ·rintro⟨h1,h2,h3⟩;exact⟨h1,Yd,h3⟩
 ·split
  ·rename_i v hv;exact absurd hv (h v)
  ·rfl
theorem aCI{s:Λ}{m:Int}{c:Γ}(h:(c=.nilIface∧atoiAll s.data.toList=.ok m)∨((∃t u,c=.iface t u)∧∀x,atoiAll s.data.toList≠.ok x)):(((ma c&&decide (m≥0))&&decide ((s.size:Int)≤3))&&decide (rN (itoa m)=s))=true→tI s.data.toList=some m:=λhb=>by rw[Ps h,zo hb]
theorem Xai{s:Λ}{m:Int}{c:Γ}(h:(c=.nilIface∧atoiAll s.data.toList=.ok m)∨((∃t u,c=.iface t u)∧∀x,atoiAll s.data.toList≠.ok x)):(((ma c&&decide (m≥0))&&decide ((s.size:Int)≤3))&&decide (rN (itoa m)=s))=false→tI s.data.toList=none:=λhb=>by rw[Ps h,zv (by rw[hb];simp)]
theorem Fd(s:Λ)(hs:s.size≤1000)(D:aC)(hV:rK D):Fn prog 207 #[.string s] D (λ_ v=>∃m b,v=.tuple #[qI m,.bool b]∧(b=true→tI s.data.toList=some m)∧(b=false→tI s.data.toList=none)):=by
 refine Zx 29 func207 C λh0=>aA<|Zf C<|Zf C<|aJ<|Za C<|Zz C (λD1 O=>Yas s hs _ (hV.up (O _ Yf))) λv1 D1 O R=>?_;obtain⟨m,c,rfl,U,I⟩:=R;refine Za C<|Zar C<|Zar C<|Zf C<|Zf C<|aJ<|Za C<|Za C<|ep C U114 C (by rcases I with⟨h,_⟩|⟨h,_⟩;exact Or.inl h;exact Or.inr h) C zy<|Za C ?_
 refine' bU 3 (s:=14) (p:=17) C (λV=>?_) (λV=>?_) ?_;rotate_left
 ·refine Zb C<|kE C C C C ⟨_,C,C⟩<|Zam C ?_;exact aQ 2
 ·refine ru ?_;exact aQ 2
 refine Za C ?_;refine' bU 4 (s:=18) (p:=22) C (λY=>?_) (λY=>?_) ?_;rotate_left
 ·refine Zb C<|kS C U9 C C C ⟨_,C,C⟩<|Wl ?_;exact aQ 3
 ·refine Wb ?_;exact aQ 3
 refine Za C ?_;refine' bU 5 (s:=23) (p:=28) C (λZ=>?_) (λZ=>?_) ?_;rotate_left
 ·refine Zb C<|Ze C (λD2 hB=>AJ m U _ (hV.up (hB _ Yf)))<|Zb C<|ld ?_;exact aQ 4
 ·refine vw ?_;exact aQ 4
 refine tg ?_;exact Zp [_,_] C cE λD hD=>⟨m,_,C,aCI I,Xai I⟩
end L12
end Go.Fs
