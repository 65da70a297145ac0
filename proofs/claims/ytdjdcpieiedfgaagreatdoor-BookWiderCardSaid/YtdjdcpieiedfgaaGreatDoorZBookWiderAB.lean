/- Of the proof of BookWider: Ops, Mem, More, Append, Iter. -/
import Derived.Test.YtdjdcpieiedfgaaGreatDoorZBookWiderAA
import Derived.RangeFuncLeaves
import Derived.RangeFuncRecord
namespace Go.Fs
variable{P:Program}{X:Cx}{γb:Type}[Membership Nat γb]{bad:γb}{all:Array Oper}{K:Act→World→Prop}{Q:Exit→Act→World→Prop}
variable{σ:bO}{μ:aD}{Ds:List aC}{os:List (Bool×Nat)}{fl:Bool}{ix:Nat}
variable{d:Nat}{x y z:Operand}{u v:Value}{ty:TypeId}{pos:String}{aft:Array Edge}{g:Option (Nat×Bool)}

def uN:IntKind→Int→Prop
 |.i8,n=> -128≤n∧n≤127
 |.i16,n=> -32768≤n∧n≤32767
 |.i32,n=> -2147483648≤n∧n≤2147483647
 |.i64,n=> -9223372036854775808≤n∧n≤9223372036854775807
 |.u8,n=>0≤n∧n≤255
 |.u16,n=>0≤n∧n≤65535
 |.u32,n=>0≤n∧n≤4294967295
 |.u64,n=>0≤n∧n≤18446744073709551615
theorem rM{k:IntKind}{n:Int}(h:uN k n):k.wrap n=n:=by
 cases k<;>simp only[uN]at h<;>simp only[IntKind.wrap,IntKind.bits,IntKind.signed,bCR,Bool.false_and,bAE,bBH,aZI,ge_iff_le]<;>
  (first|(split<;>omega)|omega)
section nums
variable{k:IntKind}{m n:Int}{t t':TypeId}
theorem lF{op:BinOp}{w:World}{r:Value}(he:op≠.shl∧op≠.shr)(h:(binOp op t (.int k m) (.int k n)).run P w=.ok r w){ρ:Operand→Value}(hx:ρ x=.int k m)(hy:ρ y=.int k n):
  (execOp ρ ⟨some d,.binOp op t x y t',ty,pos,aft,g⟩).run P w=.ok (.value r) w:=by
 have hg:∀w,(eqGuard op t x y (.int k m) (.int k n)).run P w=.ok () w:=by
  intro w;unfold eqGuard;split<;>rfl
 simp[execOp,hx,hy,h,go_sem]
theorem y7(ho:all[ix]?= some ⟨some d,.binOp .add t x y t',ty,pos,aft,g⟩)(hx:ev σ x=some (.int k m))(hy:ev σ y=some (.int k n))(hr:uN k (m+n))(hN:Nat.blt d X.N=true)(hg:dE all σ g)(kk:WL P X bad all K Q os ((d,.int k (m+n))::σ) μ Ds):
  WL P X bad all K Q ((fl,ix)::os) σ μ Ds:=
 bQ ho rfl rfl hN hg (fun ρ hρ w'=>lF Ye Yaz (hρ x _ hx) (hρ y _ hy)) kk
theorem _root_.Go.Fs.Zaa(e9:(all[ix]?,ev σ x,ev σ y)=(some ⟨some d,.binOp .add t x y t',ty,pos,aft,g⟩,some (.int k m),some (.int k n)))(kk:WL P X bad all K Q os ((d,.int k (m+n))::σ) μ Ds)(hr:uN k (m+n):=by exact Yf)(hN:Nat.blt d X.N=true:=by exact rfl)(hg:dE all σ g:=by exact bDY):WL P X bad all K Q ((fl,ix)::os) σ μ Ds:=y7 (aYY (fun z=>z.1) e9) (aYY (fun z=>z.2.1) e9) (aYY (fun z=>z.2.2) e9) hr hN hg kk
theorem P9(ho:all[ix]?= some ⟨some d,.binOp .sub t x y t',ty,pos,aft,g⟩)(hx:ev σ x=some (.int k m))(hy:ev σ y=some (.int k n))(hr:uN k (m-n))(hN:Nat.blt d X.N=true)(hg:dE all σ g)(kk:WL P X bad all K Q os ((d,.int k (m-n))::σ) μ Ds):
  WL P X bad all K Q ((fl,ix)::os) σ μ Ds:=
 bQ ho rfl rfl hN hg (fun ρ hρ w'=>lF Ye Yaz (hρ x _ hx) (hρ y _ hy)) kk
theorem _root_.Go.Fs.Zan(e9:(all[ix]?,ev σ x,ev σ y)=(some ⟨some d,.binOp .sub t x y t',ty,pos,aft,g⟩,some (.int k m),some (.int k n)))(kk:WL P X bad all K Q os ((d,.int k (m-n))::σ) μ Ds)(hr:uN k (m-n):=by exact Yf)(hN:Nat.blt d X.N=true:=by exact rfl)(hg:dE all σ g:=by exact bDY):WL P X bad all K Q ((fl,ix)::os) σ μ Ds:=P9 (aYY (fun z=>z.1) e9) (aYY (fun z=>z.2.1) e9) (aYY (fun z=>z.2.2) e9) hr hN hg kk
theorem k9(ho:all[ix]?= some ⟨some d,.binOp .mul t x y t',ty,pos,aft,g⟩)(hx:ev σ x=some (.int k m))(hy:ev σ y=some (.int k n))(hr:uN k (m*n))(hN:Nat.blt d X.N=true)(hg:dE all σ g)(kk:WL P X bad all K Q os ((d,.int k (m*n))::σ) μ Ds):
  WL P X bad all K Q ((fl,ix)::os) σ μ Ds:=
 bQ ho rfl rfl hN hg (fun ρ hρ w'=>lF Ye Yaz (hρ x _ hx) (hρ y _ hy)) kk
theorem DL(ho:all[ix]?= some ⟨some d,.binOp .lss t x y t',ty,pos,aft,g⟩)(hx:ev σ x=some (.int k m))(hy:ev σ y=some (.int k n))(hN:Nat.blt d X.N=true)(hg:dE all σ g)(kk:WL P X bad all K Q os ((d,.bool (decide (m<n)))::σ) μ Ds):
  WL P X bad all K Q ((fl,ix)::os) σ μ Ds:=
 bQ ho rfl rfl hN hg (fun ρ hρ w'=>lF Ye Yav (hρ x _ hx) (hρ y _ hy)) kk
theorem _root_.Go.Fs.Zai(e9:(all[ix]?,ev σ x,ev σ y)=(some ⟨some d,.binOp .lss t x y t',ty,pos,aft,g⟩,some (.int k m),some (.int k n)))(kk:WL P X bad all K Q os ((d,.bool (decide (m<n)))::σ) μ Ds)(hN:Nat.blt d X.N=true:=by exact rfl)(hg:dE all σ g:=by exact bDY):WL P X bad all K Q ((fl,ix)::os) σ μ Ds:=DL (aYY (fun z=>z.1) e9) (aYY (fun z=>z.2.1) e9) (aYY (fun z=>z.2.2) e9) hN hg kk
theorem lE(ho:all[ix]?= some ⟨some d,.binOp .leq t x y t',ty,pos,aft,g⟩)(hx:ev σ x=some (.int k m))(hy:ev σ y=some (.int k n))(hN:Nat.blt d X.N=true)(hg:dE all σ g)(kk:WL P X bad all K Q os ((d,.bool (decide (m≤n)))::σ) μ Ds):
  WL P X bad all K Q ((fl,ix)::os) σ μ Ds:=
 bQ ho rfl rfl hN hg (fun ρ hρ w'=>lF Ye Yav (hρ x _ hx) (hρ y _ hy)) kk
theorem fI(ho:all[ix]?= some ⟨some d,.binOp .gtr t x y t',ty,pos,aft,g⟩)(hx:ev σ x=some (.int k m))(hy:ev σ y=some (.int k n))(hN:Nat.blt d X.N=true)(hg:dE all σ g)(kk:WL P X bad all K Q os ((d,.bool (decide (n<m)))::σ) μ Ds):
  WL P X bad all K Q ((fl,ix)::os) σ μ Ds:=
 bQ ho rfl rfl hN hg (fun ρ hρ w'=>lF Ye Yav (hρ x _ hx) (hρ y _ hy)) kk
theorem tC(ho:all[ix]?= some ⟨some d,.binOp .geq t x y t',ty,pos,aft,g⟩)(hx:ev σ x=some (.int k m))(hy:ev σ y=some (.int k n))(hN:Nat.blt d X.N=true)(hg:dE all σ g)(kk:WL P X bad all K Q os ((d,.bool (decide (n≤m)))::σ) μ Ds):
  WL P X bad all K Q ((fl,ix)::os) σ μ Ds:=
 bQ ho rfl rfl hN hg (fun ρ hρ w'=>lF Ye Yav (hρ x _ hx) (hρ y _ hy)) kk
theorem sJ(ho:all[ix]?= some ⟨some d,.binOp .eql t x y t',ty,pos,aft,g⟩)(hx:ev σ x=some (.int k m))(hy:ev σ y=some (.int k n))(hN:Nat.blt d X.N=true)(hg:dE all σ g)(kk:WL P X bad all K Q os ((d,.bool (decide (m=n)))::σ) μ Ds):
  WL P X bad all K Q ((fl,ix)::os) σ μ Ds:=
 bQ ho rfl rfl hN hg (fun ρ hρ w'=>lF Ye (by cases k<;>(simp[binOp,Op.intCmp,Pure.pure];by_cases h:m=n<;>simp[h])) (hρ x _ hx) (hρ y _ hy)) kk
theorem _root_.Go.Fs.Zam(e9:(all[ix]?,ev σ x,ev σ y)=(some ⟨some d,.binOp .eql t x y t',ty,pos,aft,g⟩,some (.int k m),some (.int k n)))(kk:WL P X bad all K Q os ((d,.bool (decide (m=n)))::σ) μ Ds)(hN:Nat.blt d X.N=true:=by exact rfl)(hg:dE all σ g:=by exact bDY):WL P X bad all K Q ((fl,ix)::os) σ μ Ds:=sJ (aYY (fun z=>z.1) e9) (aYY (fun z=>z.2.1) e9) (aYY (fun z=>z.2.2) e9) hN hg kk
theorem mS(ho:all[ix]?= some ⟨some d,.binOp .neq t x y t',ty,pos,aft,g⟩)(hx:ev σ x=some (.int k m))(hy:ev σ y=some (.int k n))(hN:Nat.blt d X.N=true)(hg:dE all σ g)(kk:WL P X bad all K Q os ((d,.bool (decide (m≠n)))::σ) μ Ds):
  WL P X bad all K Q ((fl,ix)::os) σ μ Ds:=
 bQ ho rfl rfl hN hg (fun ρ hρ w'=>lF Ye (by cases k<;>(simp[binOp,Op.intCmp,Pure.pure];by_cases h:m=n<;>simp[h])) (hρ x _ hx) (hρ y _ hy)) kk
theorem _root_.Go.Fs.Zak(e9:(all[ix]?,ev σ x,ev σ y)=(some ⟨some d,.binOp .neq t x y t',ty,pos,aft,g⟩,some (.int k m),some (.int k n)))(kk:WL P X bad all K Q os ((d,.bool (decide (m≠n)))::σ) μ Ds)(hN:Nat.blt d X.N=true:=by exact rfl)(hg:dE all σ g:=by exact bDY):WL P X bad all K Q ((fl,ix)::os) σ μ Ds:=mS (aYY (fun z=>z.1) e9) (aYY (fun z=>z.2.1) e9) (aYY (fun z=>z.2.2) e9) hN hg kk
theorem G1(ho:all[ix]?= some ⟨some d,.binOp .rem t x y t',ty,pos,aft,g⟩)(hx:ev σ x=some (.int k m))(hy:ev σ y=some (.int k n))(h0:0≤m)(h1:0<n)(hr:uN k (m%n))(hN:Nat.blt d X.N=true)(hg:dE all σ g)(kk:WL P X bad all K Q os ((d,.int k (m%n))::σ) μ Ds):
  WL P X bad all K Q ((fl,ix)::os) σ μ Ds:=
 bQ ho rfl rfl hN hg (fun ρ hρ w'=>lF Ye (by
  have hn:¬n=0:=by omega
  have e:m.tmod n=m%n:=Int.tmod_eq_emod_of_nonneg h0;cases k<;>simp[binOp,Op.intDiv,hn,e,Pure.pure]) (hρ x _ hx) (hρ y _ hy)) kk
theorem KO(ho:all[ix]?= some ⟨some d,.binOp .quo t x y t',ty,pos,aft,g⟩)(hx:ev σ x=some (.int k m))(hy:ev σ y=some (.int k n))(h0:0≤m)(h1:0<n)(hr:uN k (m / n))(hN:Nat.blt d X.N=true)(hg:dE all σ g)(kk:WL P X bad all K Q os ((d,.int k (m / n))::σ) μ Ds):
  WL P X bad all K Q ((fl,ix)::os) σ μ Ds:=
 bQ ho rfl rfl hN hg (fun ρ hρ w'=>lF Ye (by
  have hn:¬n=0:=by omega
  have e:m.tdiv n=m / n:=Int.tdiv_eq_ediv_of_nonneg h0;cases k<;>simp[binOp,Op.intDiv,hn,e,rM hr,Pure.pure]) (hρ x _ hx) (hρ y _ hy)) kk
end nums
theorem aQX{c:Operand}{a b:Code}{p:Prop}[Decidable p](hc:ev σ c=some (.bool (decide p)))(ht:p→WC P X Q a σ μ Ds)(hf:¬p→WC P X Q b σ μ Ds):WC P X Q (.cond c a b) σ μ Ds:=
 aP hc (fun e=>ht (aZW e)) (fun e=>hf (aZY e))
theorem _root_.Go.Fs.Zz{c:Operand}{a:Code}{b:Code}{p:Prop}[Decidable p](hc:ev σ c=some (.bool (decide p)))(ht:p→WC P X Q a σ μ Ds)(hf:¬p→WC P X Q b σ μ Ds):WC P X Q (.cond c a b) σ μ Ds:=aQX hc ht hf

def TA(P:Program)(t:TypeId)(b:Bool):Prop:=∀w,(isAgg t).run P w=.ok b w
def TS(P:Program)(t:TypeId)(n:Nat):Prop:=∀w,(sizeOf t).run P w=.ok n w
def TU(P:Program)(t:TypeId)(u:TypeDesc):Prop:=∀w,(underlying t).run P w=.ok u w
def TZ(P:Program)(t:TypeId)(v:Value):Prop:=∀w,(zeroValue t).run P w=.ok v w
theorem TU.of{t:TypeId}{u:TypeDesc}(h:P.underlying t=some u):TU P t u:=fun w=>by simp[underlying,program,Sem.run,h,go_sem]
theorem TA.of{t:TypeId}{u:TypeDesc}(h:P.underlying t=some u)(b:Bool)(hb:(match u with|.struct _=>true|.array _ _=>true|_=>false)=b):TA P t b:=fun w=>by
 have:=TU.of h w;unfold isAgg;rw[Sem.run_bind,this];subst hb;cases u<;>rfl
theorem TS.of{t:TypeId}{n:Nat}(h:(P.info? t).map (·.size)=some n):TS P t n:=fun w=>by
 cases hi:P.info? t with
 |none=>simp[hi]at h
 |some i=>simp[hi]at h;simp[sizeOf,typeInfo,program,Sem.run,hi,h,go_sem]
theorem TZ.of{t:TypeId}{v:Value}(h:(P.info? t).bind (·.zero)=some v):TZ P t v:=fun w=>by
 cases hi:P.info? t with
 |none=>simp[hi]at h
 |some i=>simp[hi]at h;simp[zeroValue,typeInfo,program,Sem.run,hi,h,go_sem]

theorem pX{w:World}{b off:Nat}{cs:Array Value}{e:TypeId}{fz:Nat×Nat}{v:Value}(h:w.heap[b]?= some (.cells cs e fz))(hv:cs[off]?= some v):w.cell? ⟨b,off,none⟩=some v:=by
 simp[World.cell?,h,hv]
theorem KV{w:World}{a:Addr}{v:Value}(h:w.cell? a=some v):(load a).run P w=.ok v w:=by
 simp[load,Sem.run,h]
theorem tT{w:World}{b off:Nat}:∀(n i:Nat) (acc:Array Value) (vs:List Value),vs.length=n→(∀j v,vs[j]?= some v→w.cell? ⟨b,off+(i+j),none⟩=some v)→
  (loadCellsFrom ⟨b,off,none⟩ i n acc).run P w=.ok (acc++vs.toArray) w:=by
 intro n;induction n with
 |zero=>intro i acc vs hl _;have:vs=[]:=bBP.1 hl;subst this;simp[loadCellsFrom,Pure.pure]
 |succ n ih=>
  intro i acc vs hl h;cases vs with
  |nil=>simp at hl
  |cons v vs=>
   have h0:=h 0 v rfl;have ha:(⟨b,off,none⟩:Addr).add i=⟨b,off+i,none⟩:=by
    unfold Addr.add;split
    ·rename_i h;subst h;rfl
    ·rfl
   simp only[loadCellsFrom];rw[Sem.run_bind,ha,KV (by simpa using h0)];show(loadCellsFrom ⟨b,off,none⟩ (i+1) n (acc.push v)).run P w=_;rw[ih (i+1) (acc.push v) vs Yan (fun j u hu=>by
    have:=h (j+1) u (by simpa using hu);rw[show off+(i+(j+1))=off+(i+1+j) by omega]at this;exact this)]
   simp
def aEH(w:World)(b off:Nat)(vs:List Value):Prop:=∀j v,vs[j]?= some v→w.cell? ⟨b,off+j,none⟩=some v
theorem lK{w:World}{t:TypeId}{b off:Nat}{vs:List Value}(ha:TA P t true)(hs:TS P t vs.length)(h:aEH w b off vs):(Instr.loadAt t (.pointer (some ⟨b,off,none⟩))).run P w=.ok (.agg vs.toArray) w:=by
 unfold Instr.loadAt Instr.sureAddr loadVar loadCells;simp only[Sem.run_bind,Sem.run_pure,Result.andThen,ha w,hs w,bAX,pure_bind];rw[tT vs.length 0 #[] vs rfl (fun j v hv=>by rw[show off+(0+j)=off+j by omega];exact h j v hv)]
 simp
theorem sR{w:World}{t:TypeId}{b off:Nat}{v:Value}(ha:TA P t false)(h:w.cell? ⟨b,off,none⟩=some v):(Instr.loadAt t (.pointer (some ⟨b,off,none⟩))).run P w=.ok v w:=by
 unfold Instr.loadAt Instr.sureAddr loadVar;simp only[Sem.run_bind,Result.andThen,ha w,pure_bind];exact KV h

theorem bH{w:World}{b:Nat}{o:Obj}(h:w.heap[b]?= some o):b<w.heap.size:=(bBM.1 h).1
theorem Hl.boxAt{a:Act}{w w':World}(h:Hl X σ μ Ds a w){b:Nat}{o:Obj}(hm:(b,o)∈μ)(hb:b∉bad)(hk:nZ bad w w'):w'.heap[b]?= some o:=by
 obtain⟨_,_,_,D,hs,_⟩:=h;have:=(hs.box _ hm).1;rw[hk.2 b (bH this) hb];exact this
theorem eX.cell{D:aC}{w:World}(h:eX D w){b i:Nat}{v:Value}(hv:(D b)[i]?= some v):w.cell? ⟨b,i,none⟩=some v:=by
 have hne:D b≠[]:=fun e=>by rw[e]at hv;simp at hv
 obtain⟨cs,e,fz,hc,hp⟩:=h.1 b hne;obtain⟨t,ht⟩:=hp;refine pX hc ?_;have hl:=(aYV.1 hv).1;have:cs.toList[i]?= some v:=by rw[←ht,bBR hl];exact hv
 simpa using this
theorem Hl.dataAt{a:Act}{w w':World}(h:Hl X σ μ Ds a w){D₁:aC}(hD:D₁∈Ds){b i:Nat}{v:Value}(hv:(D₁ b)[i]?= some v)(hb:b∉bad)(hk:nZ bad w w'):
  w'.cell? ⟨b,i,none⟩=some v:=by
 obtain⟨_,_,_,D,hs,hl,_⟩:=h;have hc:=hs.agr.cell ((hl D₁ hD).get hv);unfold World.cell? at hc ⊢
 cases hw:w.heap[b]? with
 |none=>simp[hw]at hc
 |some o=>rw[show(⟨b,i,none⟩:Addr).block=b from rfl,hk.2 b (bH hw) hb];exact hc
def At(D:aC)(b o:Nat)(cs:List Value):Prop:=∀j v,cs[j]?= some v→(D b)[o+j]?= some v
theorem At.up{D D':aC}{b o:Nat}{cs:List Value}(h:At D b o cs)(hl:Le D D'):At D' b o cs:=fun j v hv=>hl.get (h j v hv)
theorem Hl.liesD{a:Act}{w w':World}(h:Hl X σ μ Ds a w){D₁:aC}(hD:D₁∈Ds){b o:Nat}{cs:List Value}(hA:At D₁ b o cs)(hb:b∉bad)(hk:nZ bad w w'):aEH w' b o cs:=
 fun j v hv=>h.dataAt hD (hA j v hv) hb hk

theorem bZ{t:TypeId}{b off:Nat}{vs:List Value}{e:TypeId}{fz:Nat×Nat}(ho:all[ix]?= some ⟨some d,.load t x,ty,pos,aft,g⟩)(ha:TA P t false)(hx:ev σ x=some (.pointer (some ⟨b,off,none⟩)))(hm:(b,.cells vs.toArray e fz)∈μ)(hv:vs[off]?= some v)(hb:b∉bad)
  (hN:Nat.blt d X.N=true) (hg:dE all σ g) (kk:WL P X bad all K Q os ((d,v)::σ) μ Ds):WL P X bad all K Q ((fl,ix)::os) σ μ Ds:=
 nE ho rfl rfl hN hg (fun a w hh w' hk=>by
  simp only[execOp,hh.eval hx];rw[Sem.run_bind,sR ha (pX (hh.boxAt hm hb hk) (by simpa using hv))];rfl) kk
theorem _root_.Go.Fs.Zm{t:TypeId}{b:Nat}{off:Nat}{vs:List Value}{e:TypeId}{fz:Nat×Nat}(ho:all[ix]?= some ⟨some d,.load t x,ty,pos,aft,g⟩)(ha:TA P t false)(hx:ev σ x=some (.pointer (some ⟨b,off,none⟩)))(hm:(b,.cells vs.toArray e fz)∈μ)(hv:vs[off]?= some v)(kk:WL P X bad all K Q os ((d,v)::σ) μ Ds)(hb:b∉bad:=by exact n3)(hN:Nat.blt d X.N=true:=by exact rfl)(hg:dE all σ g:=by exact bDY):WL P X bad all K Q ((fl,ix)::os) σ μ Ds:=bZ ho ha hx hm hv hb hN hg kk
theorem _root_.Go.Fs.Zn{t:TypeId}{b:Nat}{off:Nat}{vs:List Value}{e:TypeId}{fz:Nat×Nat}(ho:all[ix]?= some ⟨some d,.load t x,ty,pos,aft,g⟩)(ha:TA P t false)(hx:ev σ x=some (.pointer (some ⟨b,off,none⟩)))(hm:(b,.cells vs.toArray e fz)∈μ)(hv:vs[off]?= some v)(kk:WL P X bad all K Q os ((d,v)::σ) μ Ds)(hb:b∉bad:=by exact n3)(hN:Nat.blt d X.N=true:=by exact rfl)(hg:dE all σ g:=by exact⟨_,rfl,rfl⟩):WL P X bad all K Q ((fl,ix)::os) σ μ Ds:=bZ ho ha hx hm hv hb hN hg kk
theorem bK{t:TypeId}{b:Nat}{vs:List Value}{e:TypeId}{fz:Nat×Nat}(ho:all[ix]?= some ⟨some d,.load t x,ty,pos,aft,g⟩)(ha:TA P t true)(hx:ev σ x=some (qP b))(hm:(b,.cells vs.toArray e fz)∈μ)(hs:TS P t vs.length)(hb:b∉bad)
  (hN:Nat.blt d X.N=true) (hg:dE all σ g) (kk:WL P X bad all K Q os ((d,.agg vs.toArray)::σ) μ Ds):WL P X bad all K Q ((fl,ix)::os) σ μ Ds:=
 nE ho rfl rfl hN hg (fun a w hh w' hk=>by
  simp only[execOp,hh.eval hx];rw[Sem.run_bind,lK ha hs (fun j v hv=>pX (hh.boxAt hm hb hk) (by simpa using hv))];rfl) kk
theorem _root_.Go.Fs.Zy{t:TypeId}{b:Nat}{vs:List Value}{e:TypeId}{fz:Nat×Nat}(ho:all[ix]?= some ⟨some d,.load t x,ty,pos,aft,g⟩)(ha:TA P t true)(hx:ev σ x=some (qP b))(hm:(b,.cells vs.toArray e fz)∈μ)(hs:TS P t vs.length)(kk:WL P X bad all K Q os ((d,.agg vs.toArray)::σ) μ Ds)(hb:b∉bad:=by exact n3)(hN:Nat.blt d X.N=true:=by exact rfl)(hg:dE all σ g:=by exact bDY):WL P X bad all K Q ((fl,ix)::os) σ μ Ds:=bK ho ha hx hm hs hb hN hg kk
theorem dM{t:TypeId}{b off n:Nat}{vs us:List Value}{e:TypeId}{fz:Nat×Nat}(ho:all[ix]?= some ⟨some d,.load t x,ty,pos,aft,g⟩)(ha:TA P t true)(hs:TS P t n)(hx:ev σ x=some (.pointer (some ⟨b,off,none⟩)))(hm:(b,.cells vs.toArray e fz)∈μ)
  (hu:(vs.drop off).take n=us) (hl:us.length=n) (hb:b∉bad)
  (hN:Nat.blt d X.N=true) (hg:dE all σ g) (kk:WL P X bad all K Q os ((d,.agg us.toArray)::σ) μ Ds):WL P X bad all K Q ((fl,ix)::os) σ μ Ds:=
 nE ho rfl rfl hN hg (fun a w hh w' hk=>by
  subst hl;simp only[execOp,hh.eval hx];rw[Sem.run_bind,lK ha hs (fun j v hv=>pX (hh.boxAt hm hb hk) (by
   have hl:=(aYV.1 hv).1;rw[←hu,bBL hl,bBJ]at hv;simpa using hv))]
  rfl) kk
theorem dU{t:TypeId}{D₁:aC}{b o k:Nat}{cs:List Value}(ho:all[ix]?= some ⟨some d,.load t x,ty,pos,aft,g⟩)(ha:TA P t false)(hx:ev σ x=some (.pointer (some ⟨b,o+k,none⟩)))(hA:At D₁ b o cs)(hD:D₁∈Ds)(hv:cs[k]?= some v)(hb:b∉bad)
  (hN:Nat.blt d X.N=true) (hg:dE all σ g) (kk:WL P X bad all K Q os ((d,v)::σ) μ Ds):WL P X bad all K Q ((fl,ix)::os) σ μ Ds:=
 nE ho rfl rfl hN hg (fun a w hh w' hk=>by
  simp only[execOp,hh.eval hx];rw[Sem.run_bind,sR ha (hh.liesD hD hA hb hk k v hv)];rfl) kk
theorem _root_.Go.Fs.Zj{t:TypeId}{D₁:aC}{b:Nat}{o:Nat}(k:Nat){cs:List Value}(ho:all[ix]?= some ⟨some d,.load t x,ty,pos,aft,g⟩)(ha:TA P t false)(hx:ev σ x=some (.pointer (some ⟨b,o+k,none⟩)))(hA:At D₁ b o cs)(hv:cs[k]?= some v)(kk:WL P X bad all K Q os ((d,v)::σ) μ Ds)(hD:D₁∈Ds:=by exact Yc)(hb:b∉bad:=by exact n3)(hN:Nat.blt d X.N=true:=by exact rfl)(hg:dE all σ g:=by exact bDY):WL P X bad all K Q ((fl,ix)::os) σ μ Ds:=dU (k:=k) ho ha hx hA hD hv hb hN hg kk
theorem _root_.Go.Fs.Zk{t:TypeId}{D₁:aC}{b:Nat}{o:Nat}(k:Nat){cs:List Value}(ho:all[ix]?= some ⟨some d,.load t x,ty,pos,aft,g⟩)(ha:TA P t false)(hx:ev σ x=some (.pointer (some ⟨b,o+k,none⟩)))(hA:At D₁ b o cs)(hv:cs[k]?= some v)(kk:WL P X bad all K Q os ((d,v)::σ) μ Ds)(hD:D₁∈Ds:=by exact Yc)(hb:b∉bad:=by exact n3)(hN:Nat.blt d X.N=true:=by exact rfl)(hg:dE all σ g:=by exact⟨_,rfl,rfl⟩):WL P X bad all K Q ((fl,ix)::os) σ μ Ds:=dU (k:=k) ho ha hx hA hD hv hb hN hg kk
theorem dQ{t:TypeId}{D₁:aC}{b o:Nat}{cs:List Value}(ho:all[ix]?= some ⟨some d,.load t x,ty,pos,aft,g⟩)(ha:TA P t true)(hx:ev σ x=some (.pointer (some ⟨b,o,none⟩)))(hA:At D₁ b o cs)(hD:D₁∈Ds)(hs:TS P t cs.length)(hb:b∉bad)
  (hN:Nat.blt d X.N=true) (hg:dE all σ g) (kk:WL P X bad all K Q os ((d,.agg cs.toArray)::σ) μ Ds):WL P X bad all K Q ((fl,ix)::os) σ μ Ds:=
 nE ho rfl rfl hN hg (fun a w hh w' hk=>by
  simp only[execOp,hh.eval hx];rw[Sem.run_bind,lK ha hs (hh.liesD hD hA hb hk)];rfl) kk
theorem _root_.Go.Fs.Zq{t:TypeId}{D₁:aC}{b:Nat}{o:Nat}{cs:List Value}(ho:all[ix]?= some ⟨some d,.load t x,ty,pos,aft,g⟩)(ha:TA P t true)(hx:ev σ x=some (.pointer (some ⟨b,o,none⟩)))(hA:At D₁ b o cs)(hs:TS P t cs.length)(kk:WL P X bad all K Q os ((d,.agg cs.toArray)::σ) μ Ds)(hD:D₁∈Ds:=by exact Yc)(hb:b∉bad:=by exact n3)(hN:Nat.blt d X.N=true:=by exact rfl)(hg:dE all σ g:=by exact bDY):WL P X bad all K Q ((fl,ix)::os) σ μ Ds:=dQ ho ha hx hA hD hs hb hN hg kk
theorem dW{t:TypeId}{D₁:aC}{b o k n:Nat}{cs us:List Value}(ho:all[ix]?= some ⟨some d,.load t x,ty,pos,aft,g⟩)(ha:TA P t true)(hs:TS P t n)(hx:ev σ x=some (.pointer (some ⟨b,o+k,none⟩)))(hA:At D₁ b o cs)(hD:D₁∈Ds)(hu:(cs.drop k).take n=us)(hl:us.length=n)(hb:b∉bad)
  (hN:Nat.blt d X.N=true) (hg:dE all σ g) (kk:WL P X bad all K Q os ((d,.agg us.toArray)::σ) μ Ds):WL P X bad all K Q ((fl,ix)::os) σ μ Ds:=
 nE ho rfl rfl hN hg (fun a w hh w' hk=>by
  subst hl;simp only[execOp,hh.eval hx];rw[Sem.run_bind,lK ha hs (fun j v hv=>by
   have hl:=(aYV.1 hv).1;rw[←hu,bBL hl,bBJ]at hv;have:=hh.liesD hD hA hb hk (k+j) v hv;rw[←Nat.add_assoc]at this;exact this)]
  rfl) kk

def TF(P:Program)(t:TypeId)(i k:Nat):Prop:=∀(a:Addr) w,(Instr.fieldAt t (.pointer (some a)) i).run P w=.ok (.pointer (some (a.add k))) w
theorem TF.of{t:TypeId}{i k ft:Nat}{fs:Array Field}{n:Nat}(h:P.underlying t=some (.struct fs))(hk:(fs[i]?).map (fun f=>(f.offset,f.type))=some (k,ft))(hs:TS P ft n)(hn:Nat.beq n 0=false):TF P t i k:=fun a w=>by
 have hn':n≠0:=fun e=>by subst e;simp at hn
 cases hf:fs[i]? with
 |none=>simp[hf]at hk
 |some f=>
  simp only[hf,aZX,bCU,bCQ]at hk;obtain⟨rfl,rfl⟩:=hk;unfold Instr.fieldAt fieldPlace Instr.sureAddr;simp only[Sem.run_bind,TU.of h w,Result.andThen_ok,hf,hs w,Sem.run_pure,aZB hn',pure_bind]
theorem gF(b o k:Nat):(⟨b,o,none⟩:Addr).add k=⟨b,o+k,none⟩:=by
 unfold Addr.add;split
 ·rename_i h;subst h;rfl
 ·rfl
theorem W3{t:TypeId}{i k b o:Nat}(ho:all[ix]?= some ⟨some d,.fieldAddr t x i,ty,pos,aft,g⟩)(h:TF P t i k)(hx:ev σ x=some (.pointer (some ⟨b,o,none⟩)))
  (hN:Nat.blt d X.N=true) (hg:dE all σ g) (kk:WL P X bad all K Q os ((d,.pointer (some ⟨b,o+k,none⟩))::σ) μ Ds):WL P X bad all K Q ((fl,ix)::os) σ μ Ds:=
 bQ ho rfl rfl hN hg (fun ρ hρ w'=>by
  simp only[execOp,hρ x _ hx];rw[Sem.run_bind,h,gF];rfl) kk
theorem _root_.Go.Fs.Zh{t:TypeId}{i:Nat}{k:Nat}{b:Nat}{o:Nat}(ho:all[ix]?= some ⟨some d,.fieldAddr t x i,ty,pos,aft,g⟩)(h:TF P t i k)(hx:ev σ x=some (.pointer (some ⟨b,o,none⟩)))(kk:WL P X bad all K Q os ((d,.pointer (some ⟨b,o+k,none⟩))::σ) μ Ds)(hN:Nat.blt d X.N=true:=by exact rfl)(hg:dE all σ g:=by exact bDY):WL P X bad all K Q ((fl,ix)::os) σ μ Ds:=W3 ho h hx hN hg kk
theorem _root_.Go.Fs.Zi{t:TypeId}{i:Nat}{k:Nat}{b:Nat}{o:Nat}(ho:all[ix]?= some ⟨some d,.fieldAddr t x i,ty,pos,aft,g⟩)(h:TF P t i k)(hx:ev σ x=some (.pointer (some ⟨b,o,none⟩)))(kk:WL P X bad all K Q os ((d,.pointer (some ⟨b,o+k,none⟩))::σ) μ Ds)(hN:Nat.blt d X.N=true:=by exact rfl)(hg:dE all σ g:=by exact⟨_,rfl,rfl⟩):WL P X bad all K Q ((fl,ix)::os) σ μ Ds:=W3 ho h hx hN hg kk
theorem xC{a:Addr}(ho:all[ix]?= some ⟨some d,.nilCheck x,ty,pos,aft,g⟩)(hx:ev σ x=some (.pointer (some a)))
  (hN:Nat.blt d X.N=true) (hg:dE all σ g) (kk:WL P X bad all K Q os ((d,.pointer (some a))::σ) μ Ds):WL P X bad all K Q ((fl,ix)::os) σ μ Ds:=
 bQ ho rfl rfl hN hg (fun ρ hρ w'=>by simp only[execOp,hρ x _ hx];rfl) kk
theorem _root_.Go.Fs.Zaj{a:Addr}(e9:(all[ix]?,ev σ x)=(some ⟨some d,.nilCheck x,ty,pos,aft,g⟩,some (.pointer (some a))))(kk:WL P X bad all K Q os ((d,.pointer (some a))::σ) μ Ds)(hN:Nat.blt d X.N=true:=by exact rfl)(hg:dE all σ g:=by exact bDY):WL P X bad all K Q ((fl,ix)::os) σ μ Ds:=xC (aYY (fun z=>z.1) e9) (aYY (fun z=>z.2) e9) hN hg kk
theorem fC{t e:TypeId}{n sz b o:Nat}{k:IntKind}{i:Int}(ho:all[ix]?= some ⟨some d,.indexAddr t x y,ty,pos,aft,g⟩)(ht:P.underlying t=some (.array n e))(hs:TS P e sz)(hx:ev σ x=some (.pointer (some ⟨b,o,none⟩)))(hy:ev σ y=some (.int k i))(h0:0≤i)(h1:i<n)
  (hN:Nat.blt d X.N=true) (hg:dE all σ g) (kk:WL P X bad all K Q os ((d,.pointer (some ⟨b,o+i.toNat*sz,none⟩))::σ) μ Ds):WL P X bad all K Q ((fl,ix)::os) σ μ Ds:=
 bQ ho rfl rfl hN hg (fun ρ hρ w'=>by
  simp only[execOp,hρ x _ hx,hρ y _ hy];unfold Instr.indexAt asIntOf Instr.sureAddr;simp only[Sem.run_bind,TU.of ht w',Result.andThen_ok,hs w',Sem.run_pure,pure_bind,h0,h1,bDO,bAX,gF]) kk

abbrev Rd(α:Type):=aC→α→List Value→Prop
def Rd.Up{α:Type}(R:Rd α):Prop:=∀{D D':aC},Le D D'→∀{x:α} {cs:List Value},R D x cs→R D' x cs
def Sl{α:Type}(D:aC)(R:Rd α)(sz:Nat)(v:Value)(xs:List α):Prop:=
 ∃a cap,v=.slice a xs.length cap∧xs.length≤cap∧xs.length≤9223372036854775807∧(xs=[]∨∃b o,a=some ⟨b,o,none⟩∧∀i x,xs[i]?= some x→∃cs,R D x cs∧cs.length=sz∧At D b (o+i*sz) cs)
theorem Sl.up{α:Type}{R:Rd α}(hR:R.Up){D D':aC}(hl:Le D D'){sz:Nat}{v:Value}{xs:List α}(h:Sl D R sz v xs):Sl D' R sz v xs:=by
 obtain⟨a,cap,hv,h1,h2,h3⟩:=h;refine⟨a,cap,hv,h1,h2,h3.imp id ?_⟩;rintro⟨b,o,ha,he⟩;refine⟨b,o,ha,fun i x hx=>?_⟩;obtain⟨cs,hr,hc,hA⟩:=he i x hx;exact⟨cs,hR hl hr,hc,hA.up hl⟩
theorem Sl.cells1{α:Type}{R:Rd α}{D:aC}{sz:Nat}{v:Value}{xs:List α}(h:Sl D R sz v xs):v.cells=[v].toArray:=by
 obtain⟨a,cap,rfl,_⟩:=h;rfl
theorem Sl.nil{α:Type}{R:Rd α}{D:aC}{sz:Nat}:Sl D R sz (qN) ([]:List α):=⟨none,0,rfl,aZL _,by simp,aZE rfl⟩
theorem Sl.len{α:Type}{R:Rd α}{D:aC}{sz:Nat}{v:Value}{xs:List α}(h:Sl D R sz v xs):xs.length≤9223372036854775807:=by
 obtain⟨a,cap,hv,h1,h2,h3⟩:=h;exact h2
def RI:Rd Int:=fun _ n cs=>cs=[qI n]
theorem RI.up:RI.Up:=fun _ _ _ h=>h
theorem Sl.at{α:Type}{R:Rd α}(hR:R.Up){D D₁:aC}{Ds:List aC}(hD:∀D₁∈Ds,Le D₁ D){sz:Nat}{v:Value}{xs:List α}(h:Sl D₁ R sz v xs)(hm:D₁∈Ds):Sl D R sz v xs:=h.up hR (hD _ hm)

theorem cZ{α:Type}{R:Rd α}{D₁:aC}{sz:Nat}{t e tr:TypeId}{xs:List α}{ats:Array TypeId}(ho:all[ix]?= some ⟨some d,.call {callee:=.builtin .len,args:=#[x],argTypes:=ats},tr,pos,aft,g⟩)(ht:P.underlying t=some (.slice e))(hx:ev σ x=some v)(hS:Sl D₁ R sz v xs)(hat:ats[0]?= some t)
  (hN:Nat.blt d X.N=true) (hg:dE all σ g) (kk:WL P X bad all K Q os ((d,qI (xs.length:Int))::σ) μ Ds):
  WL P X bad all K Q ((fl,ix)::os) σ μ Ds:=
 bQ ho rfl rfl hN hg (fun ρ hρ w'=>by
  obtain⟨a,cap,rfl,_⟩:=hS;have hx':=hρ x _ hx;simp[Builtin.len_,hat,hx',Sem.run_bind,TU.of ht w',goInt,Sem.run_pure,go_sem]) kk
theorem _root_.Go.Fs.Zab{α:Type}{R:Rd α}{D₁:aC}{sz:Nat}{t:TypeId}{e:TypeId}{tr:TypeId}{xs:List α}{ats:Array TypeId}(ho:all[ix]?= some ⟨some d,.call {callee:=.builtin .len,args:=#[x],argTypes:=ats},tr,pos,aft,g⟩)(ht:P.underlying t=some (.slice e))(hx:ev σ x=some v)(hS:Sl D₁ R sz v xs)(hat:ats[0]?= some t)(kk:WL P X bad all K Q os ((d,qI (xs.length:Int))::σ) μ Ds)(hN:Nat.blt d X.N=true:=by exact rfl)(hg:dE all σ g:=by exact bDY):WL P X bad all K Q ((fl,ix)::os) σ μ Ds:=cZ ho ht hx hS hat hN hg kk
theorem eY{α:Type}{R:Rd α}{D₁:aC}{sz:Nat}{t e:TypeId}{xs:List α}{k:IntKind}{i:Int}{el:α}(ho:all[ix]?= some ⟨some d,.indexAddr t x y,ty,pos,aft,g⟩)(ht:P.underlying t=some (.slice e))(hs:TS P e sz)(hx:ev σ x=some v)(hS:Sl D₁ R sz v xs)
  (hy:ev σ y=some (.int k i)) (h0:0≤i) (hi:xs[i.toNat]?= some el) (hN:Nat.blt d X.N=true) (hg:dE all σ g)
  (kk:∀b o cs,R D₁ el cs→cs.length=sz→At D₁ b o cs→WL P X bad all K Q os ((d,.pointer (some ⟨b,o,none⟩))::σ) μ Ds):
  WL P X bad all K Q ((fl,ix)::os) σ μ Ds:=by
 obtain⟨a,cap,rfl,h1,h2,h3⟩:=hS;have hlt:i.toNat<xs.length:=(aYV.1 hi).1;rcases h3 with rfl|⟨b,o,rfl,h3⟩
 ·simp at hlt
 ·obtain⟨cs,hr,hc,hA⟩:=h3 _ _ hi;refine bQ ho rfl rfl hN hg (fun ρ hρ w'=>?_) (kk b _ cs hr hc hA);have h1':i<(xs.length:Int):=by omega
  simp only[execOp,hρ x _ hx,hρ y _ hy];unfold Instr.indexAt asIntOf;simp only[Sem.run_bind,TU.of ht w',Result.andThen_ok,hs w',Sem.run_pure,pure_bind,h0,h1',bDO,bAX,gF]
section
variable{t e t2:TypeId}{D₁:aC}{xs:List Int}{k:IntKind}{i el:Int}{ix2 d2:Nat}{x2:Operand}{ty2:TypeId}{pos2:String}{aft2:Array Edge}{g2:Option (Nat×Bool)}{fl2:Bool}
theorem jZ{γ:Type}[Membership Nat γ]{bad:γ}(e9:(all[ix]?,all[ix2]?,ev σ x)=(some ⟨some d,.indexAddr t x y,ty,pos,aft,g⟩,some ⟨some d2,.load t2 x2,ty2,pos2,aft2,g2⟩,some v))(hS:Sl D₁ RI 1 v xs)(hy:ev σ y=some (.int k i))(hi:xs[i.toNat]?= some el)
  (kk:∀b o,WL P X bad all K Q os ((d2,qI el)::(d,.pointer (some ⟨b,o,none⟩))::σ) μ Ds) (hb:∀b:Nat,b∉bad:=by exact fun _=>n3) (hx2:∀b o,ev ((d,.pointer (some ⟨b,o,none⟩))::σ) x2=some (.pointer (some ⟨b,o+0,none⟩)):=by exact fun _ _=>rfl) (h0:0≤i:=by omega) (ht:P.underlying t=some (.slice e):=by exact U25) (hs:TS P e 1:=by exact aM) (ha:TA P t2 false:=by exact aJ) (hD:D₁∈Ds:=by first|simp|assumption)
  (hN:Nat.blt d X.N=true:=by exact rfl) (hg:dE all σ g:=by exact bDY) (hN2:Nat.blt d2 X.N=true:=by exact rfl) (hg2:∀b o,dE all ((d,.pointer (some ⟨b,o,none⟩))::σ) g2:=by exact fun _ _=>trivial):WL P X bad all K Q ((fl,ix)::(fl2,ix2)::os) σ μ Ds:=
 eY (aYY (fun z=>z.1) e9) ht hs (aYY (fun z=>z.2.2) e9) hS hy h0 hi hN hg fun b o cs hr hcl hA=>by
  obtain rfl:cs=[qI _]:=hr;exact dU (k:=0) (aYY (fun z=>z.2.1) e9) ha (hx2 b o) hA hD rfl (hb b) hN2 (hg2 b o) (kk b o)
end
theorem _root_.Go.Fs.Zw{α:Type}{R:Rd α}{D₁:aC}{sz:Nat}{t:TypeId}{e:TypeId}{xs:List α}{k:IntKind}{i:Int}{el:α}(ho:all[ix]?= some ⟨some d,.indexAddr t x y,ty,pos,aft,g⟩)(ht:P.underlying t=some (.slice e))(hs:TS P e sz)(hx:ev σ x=some v)(hS:Sl D₁ R sz v xs)(hy:ev σ y=some (.int k i))(hi:xs[i.toNat]?= some el)(kk:∀b o cs,R D₁ el cs→cs.length=sz→At D₁ b o cs→WL P X bad all K Q os ((d,.pointer (some ⟨b,o,none⟩))::σ) μ Ds)(h0:0≤i:=by exact Yd)(hN:Nat.blt d X.N=true:=by exact rfl)(hg:dE all σ g:=by exact bDY):WL P X bad all K Q ((fl,ix)::os) σ μ Ds:=eY ho ht hs hx hS hy h0 hi hN hg kk
theorem EL{vs:Array Value}{i:Nat}(ho:all[ix]?= some ⟨some d,.extract x i,ty,pos,aft,g⟩)(hx:ev σ x=some (.tuple vs))(hi:vs.toList[i]?= some v)(hN:Nat.blt d X.N=true)(hg:dE all σ g)(kk:WL P X bad all K Q os ((d,v)::σ) μ Ds):
  WL P X bad all K Q ((fl,ix)::os) σ μ Ds:=
 bQ ho rfl rfl hN hg (fun ρ hρ w'=>by rw[Array.getElem?_toList]at hi;simp[execOp,hρ x _ hx,Instr.extract,hi,go_sem]) kk
theorem _root_.Go.Fs.Zaf{vs:Array Value}{i:Nat}(e9:(all[ix]?,ev σ x,vs.toList[i]?)=(some ⟨some d,.extract x i,ty,pos,aft,g⟩,some (.tuple vs),some v))(kk:WL P X bad all K Q os ((d,v)::σ) μ Ds)(hN:Nat.blt d X.N=true:=by exact rfl)(hg:dE all σ g:=by exact bDY):WL P X bad all K Q ((fl,ix)::os) σ μ Ds:=EL (aYY (fun z=>z.1) e9) (aYY (fun z=>z.2.1) e9) (aYY (fun z=>z.2.2) e9) hN hg kk
theorem qW{k:IntKind}{m n:Int}{ats:Array TypeId}(ho:all[ix]?= some ⟨some d,.call {callee:=.builtin .max,args:=#[x,y],argTypes:=ats},ty,pos,aft,g⟩)(hx:ev σ x=some (.int k m))(hy:ev σ y=some (.int k n))(hN:Nat.blt d X.N=true)(hg:dE all σ g)(kk:WL P X bad all K Q os ((d,.int k (max m n))::σ) μ Ds):
  WL P X bad all K Q ((fl,ix)::os) σ μ Ds:=
 bQ ho rfl rfl hN hg (fun ρ hρ w'=>by
  have hx':=hρ x _ hx;have hy':=hρ y _ hy;have e:(if n>m then n else m)=max m n:=by split<;>omega
  simp[Builtin.max_,Builtin.max2,hx',hy',go_sem,e]) kk
theorem OM{k:IntKind}{m n:Int}{ats:Array TypeId}(ho:all[ix]?= some ⟨some d,.call {callee:=.builtin .min,args:=#[x,y],argTypes:=ats},ty,pos,aft,g⟩)(hx:ev σ x=some (.int k m))(hy:ev σ y=some (.int k n))(hN:Nat.blt d X.N=true)(hg:dE all σ g)(kk:WL P X bad all K Q os ((d,.int k (min m n))::σ) μ Ds):
  WL P X bad all K Q ((fl,ix)::os) σ μ Ds:=
 bQ ho rfl rfl hN hg (fun ρ hρ w'=>by
  have hx':=hρ x _ hx;have hy':=hρ y _ hy;have e:(if n<m then n else m)=min m n:=by split<;>omega
  simp[Builtin.min_,Builtin.min2,hx',hy',go_sem,e]) kk
theorem Hl.ds{Ds':List aC}{a:Act}{w:World}(h:Hl X σ μ Ds a w)(hD:∀D∈Ds',D∈Ds):Hl X σ μ Ds' a w:=by
 obtain⟨h1,h2,h3,D,h4,h5,G⟩:=h;exact⟨h1,h2,h3,D,h4,fun D₁ hD₁=>h5 D₁ (hD D₁ hD₁),G⟩

def EF(P:Program)(f:FuncId):Prop:=∀args w,(callFunc f args).run P w=.ok (.enter f args) w
theorem EF.of{f:FuncId}{fn:Func}{c:Code}(h:P.funcs[f]?= some fn)(hn:(fn.name== "runtime.NumGoroutine")=false)(hb:fn.body=some c):EF P f:=fun args w=>by
 have hn':¬fn.name= "runtime.NumGoroutine" :=by simpa using hn
 simp[callFunc,program,Sem.run,h,hn',hb,go_sem]
def Fn(P:Program)(f:FuncId)(args:Array Value)(D:aC)(post:aC→Value→Prop):Prop:=
 EF P f∧∀w,eX D w→Calls P f args w fun e w'=>∃v D',e=.returned v∧iD (hd w) w.heap.size D [] [] D' w'∧post D' v
theorem gH{D D':aC}{w w':World}{mods:List Nat}{μ:aD}(hw:eX D w)(hs:iD (hd w) w.heap.size D mods μ D' w'):Le D D':=by
 refine⟨fun b=>?_,hs.dold 0 hw.pos⟩;by_cases hb:b<w.heap.size
 ·rw[hs.dold b hb];exact List.prefix_refl _
 ·have:D b=[]:=by
   refine Decidable.byContradiction fun hne=>?_
   obtain⟨cs,e,fz,hc,_⟩:=hw.1 b hne;exact hb (bH hc)
  rw[this];exact bDP
theorem Fn.mono{f:FuncId}{args:Array Value}{D:aC}{post post':aC→Value→Prop}(h:Fn P f args D post)(hp:∀D' v,Le D D'→post D' v→post' D' v):Fn P f args D post':=by
 refine⟨h.1,fun w hw=>(h.2 w hw).mono ?_⟩;rintro e w' ⟨v,D',rfl,hs,hpost⟩;exact⟨v,D',rfl,hs,hp _ _ (gH hw hs) hpost⟩
theorem iD.after{h0:H0}{lo:Nat}{D0 D D':aC}{mods:List Nat}{μ:aD}{w w':World}(h:iD h0 lo D0 mods μ D w)(hs:iD (hd w) w.heap.size D [] [] D' w'):iD h0 lo D0 mods μ D' w':=by
 have hle:=bBE h.hlo h.size;refine⟨h.hlo,bBE h.size hs.size,fun b hb hm=>?_,fun b hb=>?_,hs.agr,fun p hp=>?_,h.nd,h.fz,fun e he=>(hs.env _ rfl).trans (h.env e he)⟩
 ·rw[hs.old b (bBC hb hle) Ye];exact h.old b hb hm
 ·rw[hs.dold b (bBC hb hle)];exact h.dold b hb
 ·obtain⟨h1,h2,h3⟩:=h.box p hp;have hl:=bH h1;exact⟨by rw[hs.old _ hl Ye];exact h1,by rw[hs.dold _ hl];exact h2,h3⟩
theorem iD.low{D D':aC}{μ:aD}{w w':World}(hs:iD (hd w) w.heap.size D [] μ D' w')(β:List Nat):aKU β D w D' w':=⟨hs.size,fun b hb _=>⟨hs.old b hb Ye,hs.dold b hb⟩,hs.env _ rfl⟩
theorem iD.keep{D D':aC}{μ:aD}{w w':World}(hs:iD (hd w) w.heap.size D [] μ D' w'){γb:Type}[Membership Nat γb](bad:γb):nZ bad w w':=⟨hs.size,fun b hb _=>hs.old b hb Ye⟩
def X7(σ:bO):List Operand→Option (List Value)
 | []=>some []
 |x::xs=>match ev σ x,X7 σ xs with
  |some v,some vs=>some (v::vs)
  |_,_=>none
theorem kP{ρ:Operand→Value}(hρ:∀x u,ev σ x=some u→ρ x=u):∀{xs:List Operand} {vs:List Value},X7 σ xs=some vs→xs.map ρ=vs
 | [],vs,h=>by simp[X7]at h;simp[h]
 |x::xs,vs,h=>by
  simp only[X7]at h;cases h1:ev σ x with
  |none=>simp[h1]at h
  |some v1=>
   cases h2:X7 σ xs with
   |none=>simp[h1,h2]at h
   |some v2=>
    simp[h1,h2]at h;rw[←h,aZR,hρ x v1 h1,kP hρ h2]
theorem eZ{o:Oper}(ho:all[ix]?= some o)(hq:jW o.op=false)(hdf:nU o.op=false)(hg:dE all σ o.guard)
  (h:∀a w,Hl X σ μ Ds a w→o.uponIn (FW X.r) 0 P a (fun a' w'=>(fl=true→nZ bad w w')∧sY X.r bad P all K Q (hG all os) a' w') Q ((execOp a.eval o).run P w)):WL P X bad all K Q ((fl,ix)::os) σ μ Ds:=by
 intro a w hh;rw[xD ho];simp only[sY,hq,bAE,bBH];unfold I1;rw[aZK (hh.wanted hg)];refine⟨fun _ _=>trivial,?_⟩;rw[O2 hdf];exact h a w hh
theorem vC{w:World}{ρ:Operand→Value}{c:Operand}{xs:Array Operand}{ats:Array TypeId}{f:FuncId}{c1 c2:List Value}{vs:List Value}{dst:Option Nat}(hEF:EF P f)(hc:ρ c=.func (.func f) c1.toArray c2.toArray)(hvs:xs.toList.map ρ=vs):
  (execOp ρ ⟨dst,.call {callee:=.value c,args:=xs,argTypes:=ats},ty,pos,aft,g⟩).run P w=.ok (.enter f (c1++vs++c2).toArray) w:=by
 have e:xs.map ρ=vs.toArray:=by rw[←hvs,←bDM]
 simp only[execOp,resolve,hc,Deferred.ofValue,pure_bind,invoke,e];rw[hEF];simp
theorem aIU{c:Operand}{xs:Array Operand}{ats:Array TypeId}{f:FuncId}{c1 c2:List Value}{vs:List Value}{post:aC→Value→Prop}(ho:all[ix]?= some ⟨some d,.call {callee:=.value c,args:=xs,argTypes:=ats},ty,pos,aft,g⟩)(hc:ev σ c=some (.func (.func f) c1.toArray c2.toArray))(hxs:X7 σ xs.toList=some vs)
  (hf:∀D,(∀D₁∈Ds,Le D₁ D)→Fn P f (c1++vs++c2).toArray D post) (hN:Nat.blt d X.N=true) (hg:dE all σ g)
  (kk:∀v D,(∀D₁∈Ds,Le D₁ D)→post D v→WL P X bad all K Q os ((d,v)::σ) μ (D::Ds)):
  WL P X bad all K Q ((fl,ix)::os) σ μ Ds:=by
 refine eZ ho rfl rfl hg fun a w hh=>?_
 obtain⟨h1,h2,h3,D,h4,h5,h6⟩:=id hh;have hF:=hf D h5;rw[vC hF.1 (hh.eval hc) (kP (fun _ _ hx=>hh.eval hx) hxs)];refine⟨fun h=>by simp[FW]at h,dP.2 ((hF.2 w h4.agr).mono ?_)⟩;rintro e w' ⟨v,D',rfl,hs,hpost⟩;have hle:=gH h4.agr hs;refine⟨fun _=>hs.keep bad,kk v D' (fun D₁ hD₁=>(h5 D₁ hD₁).trans hle) hpost _ _ ?_⟩;refine Hl.put ⟨h1,h2,h3,D',h4.after hs,fun D₁ hD₁=>?_,h6.step (fun _ p hp=>aZE (GT.2 ⟨p,hp,rfl⟩)) (fun _=>hs.low _) (h4.after hs).dom⟩ hN v;rcases n4.1 hD₁ with rfl|hD₁
 ·exact Le.refl _
 ·exact(h5 D₁ hD₁).trans hle
theorem _root_.Go.Fs.Zv{c:Operand}{xs:Array Operand}{ats:Array TypeId}{f:FuncId}{c1:List Value}{c2:List Value}{vs:List Value}{post:aC→Value→Prop}(e9:(all[ix]?,ev σ c,X7 σ xs.toList)=(some ⟨some d,.call {callee:=.value c,args:=xs,argTypes:=ats},ty,pos,aft,g⟩,some (.func (.func f) c1.toArray c2.toArray),some vs))(hf:∀D,(∀D₁∈Ds,Le D₁ D)→Fn P f (c1++vs++c2).toArray D post)(kk:∀v D,(∀D₁∈Ds,Le D₁ D)→post D v→WL P X bad all K Q os ((d,v)::σ) μ (D::Ds))(hN:Nat.blt d X.N=true:=by exact rfl)(hg:dE all σ g:=by exact bDY):WL P X bad all K Q ((fl,ix)::os) σ μ Ds:=aIU (aYY (fun z=>z.1) e9) (aYY (fun z=>z.2.1) e9) (aYY (fun z=>z.2.2) e9) hf hN hg kk
theorem VP{c:Operand}{xs:Array Operand}{ats:Array TypeId}{f:FuncId}{c1 c2:List Value}{vs:List Value}{r:Value}(ho:all[ix]?= some ⟨some d,.call {callee:=.value c,args:=xs,argTypes:=ats},ty,pos,aft,g⟩)(hc:ev σ c=some (.func (.func f) c1.toArray c2.toArray))(hxs:X7 σ xs.toList=some vs)
  (hf:∀D,(∀D₁∈Ds,Le D₁ D)→Fn P f (c1++vs++c2).toArray D (fun _ v=>v=r)) (hN:Nat.blt d X.N=true) (hg:dE all σ g)
  (kk:WL P X bad all K Q os ((d,r)::σ) μ Ds):
  WL P X bad all K Q ((fl,ix)::os) σ μ Ds:=
 aIU ho hc hxs hf hN hg fun _ _ _ hv=>by
  subst hv;exact fun a w hh=>kk a w (hh.ds fun D hD=>n5 _ hD)
theorem _root_.Go.Fs.Zc{c:Operand}{xs:Array Operand}{ats:Array TypeId}{f:FuncId}{c1:List Value}{c2:List Value}{vs:List Value}{r:Value}(e9:(all[ix]?,ev σ c,X7 σ xs.toList)=(some ⟨some d,.call {callee:=.value c,args:=xs,argTypes:=ats},ty,pos,aft,g⟩,some (.func (.func f) c1.toArray c2.toArray),some vs))(hf:∀D,(∀D₁∈Ds,Le D₁ D)→Fn P f (c1++vs++c2).toArray D (fun _ v=>v=r))(kk:WL P X bad all K Q os ((d,r)::σ) μ Ds)(hN:Nat.blt d X.N=true:=by exact rfl)(hg:dE all σ g:=by exact bDY):WL P X bad all K Q ((fl,ix)::os) σ μ Ds:=VP (aYY (fun z=>z.1) e9) (aYY (fun z=>z.2.1) e9) (aYY (fun z=>z.2.2) e9) hf hN hg kk
theorem _root_.Go.Fs.Zd{c:Operand}{xs:Array Operand}{ats:Array TypeId}{f:FuncId}{c1:List Value}{c2:List Value}{vs:List Value}{r:Value}(e9:(all[ix]?,ev σ c,X7 σ xs.toList)=(some ⟨some d,.call {callee:=.value c,args:=xs,argTypes:=ats},ty,pos,aft,g⟩,some (.func (.func f) c1.toArray c2.toArray),some vs))(hf:∀D,(∀D₁∈Ds,Le D₁ D)→Fn P f (c1++vs++c2).toArray D (fun _ v=>v=r))(kk:WL P X bad all K Q os ((d,r)::σ) μ Ds)(hN:Nat.blt d X.N=true:=by exact rfl)(hg:dE all σ g:=by exact⟨_,rfl,rfl⟩):WL P X bad all K Q ((fl,ix)::os) σ μ Ds:=VP (aYY (fun z=>z.1) e9) (aYY (fun z=>z.2.1) e9) (aYY (fun z=>z.2.2) e9) hf hN hg kk

theorem dI{w:World}{o:Obj}{b:Nat}(h:b<w.heap.size):(w.heap.push o)[b]?= w.heap[b]? :=by
 rw[Array.getElem?_push,aZB Yd]
theorem eX.push{D:aC}{w:World}(h:eX D w)(o:Obj):eX D {w with heap:=w.heap.push o}:=by
 refine h.of (fun b hb=>?_) rfl (dI h.pos);obtain⟨cs,e,fz,hc,hp⟩:=h.1 b hb;exact⟨cs,e,fz,by show(w.heap.push o)[b]?= _;rw[dI (bH hc)];exact hc,hp⟩
theorem eX.fresh{D:aC}{w:World}(h:eX D w){b:Nat}(hb:w.heap.size≤b):D b=[]:=
 Decidable.byContradiction fun hne=>by
  obtain⟨cs,e,fz,hc,_⟩:=h.1 b hne;have:=bH hc;omega
theorem iD.push{h0:H0}{lo:Nat}{D0 D:aC}{mods:List Nat}{μ:aD}{w:World}(h:iD h0 lo D0 mods μ D w)(o:Obj)(ho:dB o):iD h0 lo D0 mods ((w.heap.size,o)::μ) D {w with heap:=w.heap.push o}:=by
 have hle:=bBE h.hlo h.size;refine⟨h.hlo,by have:=h.size;simp;omega,fun b hb hm=>?_,h.dold,h.agr.push o,fun p hp=>?_,?_,(fun p hp=>by rcases n4.1 hp with rfl|hp;exact ho;exact h.fz p hp),h.env⟩
 ·show(w.heap.push o)[b]?= _;rw[dI (bBC hb hle)];exact h.old b hb hm
 ·rcases n4.1 hp with rfl|hp
  ·exact⟨by simp,h.agr.fresh (aZL _),aZE h.size⟩
  ·obtain⟨h1,h2,h3⟩:=h.box p hp;exact⟨by show(w.heap.push o)[p.1]?= _;rw[dI (bH h1)];exact h1,h2,h3⟩
 ·simp only[aZR,bAO];refine⟨fun hm=>?_,h.nd⟩;obtain⟨p,hp,he⟩:=GT.1 hm;have:=bH (h.box p hp).1;omega
theorem pJ{γb:Type}[Membership Nat γb](bad:γb)(w:World)(o:Obj):nZ bad w {w with heap:=w.heap.push o}:=⟨by simp,fun b hb _=>dI hb⟩
theorem R1(β:List Nat){D:aC}{w:World}(o:Obj):aKU β D w D {w with heap:=w.heap.push o}:=⟨by simp,fun b hb _=>⟨dI hb,rfl⟩,rfl⟩
theorem iD.pushD{h0:H0}{lo:Nat}{D0 D:aC}{mods:List Nat}{μ:aD}{w:World}(h:iD h0 lo D0 mods μ D w)(vs:List Value)(e:TypeId):
  ∃D',Le D D'∧D' w.heap.size=vs∧(∀b,b≠w.heap.size→D' b=D b)∧iD h0 lo D0 mods μ D' {w with heap:=w.heap.push (.cells vs.toArray e (0,0))}:=by
 have hf:=h.agr.fresh (aZL w.heap.size);refine⟨fun b=>if b=w.heap.size then vs else D b,⟨fun b=>?_,by simp only[show(0:Nat)≠w.heap.size by have:=h.agr.pos;omega,bBH]⟩,by simp,(fun b hb=>by simp[hb]),?_⟩
 ·by_cases hb:b=w.heap.size
  ·subst hb;rw[hf];exact bDP
  ·simp[hb]
 ·have hle:=bBE h.hlo h.size;refine⟨h.hlo,by have:=h.size;simp;omega,fun b hb hm=>?_,fun b hb=>?_,h.agr.of (fun b hb=>?_) (by simp only[show(0:Nat)≠w.heap.size by have:=h.agr.pos;omega,bBH]) (dI h.agr.pos),fun p hp=>?_,h.nd,h.fz,h.env⟩
  ·show(w.heap.push _)[b]?= _;rw[dI (bBC hb hle)];exact h.old b hb hm
  ·have hne:b≠w.heap.size:=by omega
   simp only[hne,bBH];exact h.dold b hb
  ·by_cases he:b=w.heap.size
   ·subst he;exact⟨vs.toArray,e,(0,0),by simp,by simp⟩
   ·simp only[he,bBH]at hb ⊢
    obtain⟨cs,e',fz,hc,hp⟩:=h.agr.1 b hb;exact⟨cs,e',fz,by show(w.heap.push _)[b]?= _;rw[dI (bH hc)];exact hc,hp⟩
  ·obtain⟨h1,h2,h3⟩:=h.box p hp;have hl:=bH h1;refine⟨by show(w.heap.push _)[p.1]?= _;rw[dI hl];exact h1,?_,h3⟩
   have hne:p.1≠w.heap.size:=by omega
   simp only[hne,bBH];exact h2
theorem lW{w:World}{e:TypeId}{cs:Array Value}:(newRow e cs).run P w=.ok ⟨w.heap.size,0,none⟩ {w with heap:=w.heap.push (.cells cs e (0,0))}:=rfl
theorem DK{e:TypeId}{vs:List Value}(ho:all[ix]?= some ⟨some d,.box e x,ty,pos,aft,g⟩)(hx:ev σ x=some v)(hv:v.cells=vs.toArray)(hN:Nat.blt d X.N=true)(hg:dE all σ g)
  (kk:∀b,WL P X bad all K Q os ((d,qP b)::σ) ((b,.cells vs.toArray e (0,0))::μ) Ds):
  WL P X bad all K Q ((fl,ix)::os) σ μ Ds:=by
 refine eZ ho rfl rfl hg fun a w hh=>?_
 obtain⟨h1,h2,h3,D,h4,h5,G⟩:=id hh;have:(execOp a.eval ⟨some d,.box e x,ty,pos,aft,g⟩).run P w=.ok (.value (.pointer (some ⟨w.heap.size,0,none⟩))) {w with heap:=w.heap.push (.cells vs.toArray e (0,0))}:=by
  simp only[execOp,hh.eval hx,Instr.box,newVar,hv,Sem.run_bind,lW,Result.andThen_ok,Sem.run_pure]
 rw[this];exact⟨fun _=>pJ _ _ _,kk _ _ _ (Hl.put ⟨h1,h2,h3,D,h4.push _ (show dB (.cells _ _ (0,0))from rfl),h5,G.step (fun _ p hp=>by rcases n4.1 hp with rfl|hp;exact Or.inr (aZL _);exact Or.inl (GT.2 ⟨p,hp,rfl⟩)) (fun _=>R1 _ _) (h4.push _ (show dB (.cells _ _ (0,0))from rfl)).dom⟩ hN _)⟩
theorem aMK{e:TypeId}{vs:List Value}{z0:Value}(ho:all[ix]?= some ⟨some d,.alloc e,ty,pos,aft,g⟩)(hz:TZ P e z0)(hv:z0.cells=vs.toArray)(hN:Nat.blt d X.N=true)(hg:dE all σ g)
  (kk:∀b,WL P X bad all K Q os ((d,qP b)::σ) ((b,.cells vs.toArray e (0,0))::μ) Ds):
  WL P X bad all K Q ((fl,ix)::os) σ μ Ds:=by
 refine eZ ho rfl rfl hg fun a w hh=>?_
 obtain⟨h1,h2,h3,D,h4,h5,h6⟩:=id hh;have:(execOp a.eval ⟨some d,.alloc e,ty,pos,aft,g⟩).run P w=.ok (.value (.pointer (some ⟨w.heap.size,0,none⟩))) {w with heap:=w.heap.push (.cells vs.toArray e (0,0))}:=by
  simp only[execOp,Instr.alloc,newVar,Sem.run_bind,hz w,Result.andThen_ok,hv,lW,Sem.run_pure]
 rw[this];exact⟨fun _=>pJ _ _ _,kk _ _ _ (Hl.put ⟨h1,h2,h3,D,h4.push _ (show dB (.cells _ _ (0,0))from rfl),h5,h6.step (fun _ p hp=>by rcases n4.1 hp with rfl|hp;exact Or.inr (aZL _);exact Or.inl (GT.2 ⟨p,hp,rfl⟩)) (fun _=>R1 _ _) (h4.push _ (show dB (.cells _ _ (0,0))from rfl)).dom⟩ hN _)⟩
theorem _root_.Go.Fs.Zx{e:TypeId}{vs:List Value}{z0:Value}(ho:all[ix]?= some ⟨some d,.alloc e,ty,pos,aft,g⟩)(hz:TZ P e z0)(hv:z0.cells=vs.toArray)(kk:∀b,WL P X bad all K Q os ((d,qP b)::σ) ((b,.cells vs.toArray e (0,0))::μ) Ds)(hN:Nat.blt d X.N=true:=by exact rfl)(hg:dE all σ g:=by exact bDY):WL P X bad all K Q ((fl,ix)::os) σ μ Ds:=aMK ho hz hv hN hg kk

inductive bR:aD→Nat→Obj→Obj→aD→Prop
 |head {b o o' μ}:bR ((b,o)::μ) b o o' ((b,o')::μ)
 |tail {p b o o' μ μ'} (h:bR μ b o o' μ'):bR (p::μ) b o o' (p::μ')
 |app {ν b o o' μ μ'} (h:bR μ b o o' μ'):bR (ν++μ) b o o' (ν++μ')
theorem bR.mem{μ μ':aD}{b:Nat}{o o':Obj}(h:bR μ b o o' μ'):(b,o)∈μ:=by
 induction h with
 |head=>exact LT
 |tail _ ih=>exact n5 _ ih
 |app _ ih=>exact GE _ ih
theorem bR.keys{μ μ':aD}{b:Nat}{o o':Obj}(h:bR μ b o o' μ'):μ'.map (·.1)=μ.map (·.1):=by
 induction h with
 |head=>rfl
 |tail _ ih=>simp[ih]
 |app _ ih=>simp[ih]
theorem bR.other{μ μ':aD}{b:Nat}{o o':Obj}(h:bR μ b o o' μ'):∀p∈μ',p=(b,o')∨p∈μ:=by
 induction h with
 |head=>intro p hp;rcases n4.1 hp with rfl|hp;exact Or.inl rfl;exact Or.inr (n5 _ hp)
 |tail _ ih=>intro p hp;rcases n4.1 hp with rfl|hp;exact Or.inr LT;exact(ih p hp).imp id (n5 _)
 |app _ ih=>intro p hp;rcases aZF.1 hp with hp|hp;exact Or.inr (aYX _ hp);exact(ih p hp).imp id (GE _)
theorem bR.apart{μ μ':aD}{b:Nat}{o o':Obj}(h:bR μ b o o' μ')(hn:(μ.map (·.1)).Nodup):∀p∈μ',p.1=b→p=(b,o'):=by
 induction h with
 | @head b o o' μ=>
  intro p hp he;rcases n4.1 hp with rfl|hp
  ·rfl
  ·exfalso
   simp only[aZR,bAO]at hn;exact hn.1 (GT.2 ⟨p,hp,he⟩)
 | @tail q b o o' μ μ' h ih=>
  intro p hp he;simp only[aZR,bAO]at hn;rcases n4.1 hp with rfl|hp
  ·exact absurd (GT.2 ⟨_,h.mem,he.symm⟩) hn.1
  ·exact ih hn.2 p hp he
 | @app ν b o o' μ μ' h ih=>
  intro p hp he;rw[aZH,aZC]at hn;rcases aZF.1 hp with hp|hp
  ·exact absurd rfl (hn.2.2 p.1 (GT.2 ⟨p,hp,rfl⟩) b (GT.2 ⟨_,h.mem,rfl⟩)|>fun hne=>he▸hne)
  ·exact ih hn.2.1 p hp he
def aPJ(w:World)(b:Nat)(o:Obj)(w':World):Prop:=w'.heap=w.heap.setIfInBounds b o∧JE w'=JE w
theorem iD.set{h0:H0}{lo:Nat}{D0 D:aC}{mods:List Nat}{μ μ':aD}{w w':World}{b:Nat}{o o':Obj}(h:iD h0 lo D0 mods μ D w)(hm:bR μ b o o' μ')(hwe:aPJ w b o' w')(hu:dB o'):iD h0 lo D0 mods μ' D w':=by
 have hw:=hwe.1;have hb:=h.box _ hm.mem;have hlt:b<w.heap.size:=bH hb.1;have hsame:∀c,c≠b→w'.heap[c]?= w.heap[c]? :=fun c hc=>by rw[hw,bBG (Ne.symm hc)]
 refine⟨h.hlo,by rw[hw];simpa using h.size,fun c hc hmods=>?_,h.dold,h.agr.of (fun c hc=>?_) rfl (hsame 0 (fun e=>h.agr.2.1 (e▸hb.2.1))),fun p hp=>?_,by rw[hm.keys];exact h.nd,fun p hp=>?_,fun e he=>hwe.2.trans (h.env e he)⟩
 ·rw[hsame c ?_]
  ·exact h.old c hc hmods
  ·rintro rfl;rcases hb.2.2 with h'|h'
   ·have:=h.hlo;simp at h';omega
   ·exact hmods h'
 ·have:c≠b:=by rintro rfl;exact hc hb.2.1
  obtain⟨cs,e,fz,h1,h2⟩:=h.agr.1 c hc;exact⟨cs,e,fz,by rw[hsame c this];exact h1,h2⟩
 ·by_cases he:p.1=b
  ·obtain rfl:=hm.apart h.nd p hp he;exact⟨by rw[hw];simp[hlt],hb.2.1,hb.2.2⟩
  ·rcases hm.other p hp with rfl|hp'
   ·exact absurd rfl he
   ·obtain⟨h1,h2,h3⟩:=h.box p hp';exact⟨by rw[hsame _ he];exact h1,h2,h3⟩
 ·by_cases he:p.1=b
  ·obtain rfl:=hm.apart h.nd p hp he;exact hu
  ·rcases hm.other p hp with rfl|hp'
   ·exact hu
   ·exact h.fz p hp'
def cell1:Value→Bool
 |.agg _=>false
 |.tuple _=>false
 |_=>true
theorem FH{w:World}{b off:Nat}{cs:Array Value}{e:TypeId}{fz:Nat×Nat}{v:Value}(h:w.heap[b]?= some (.cells cs e fz)):(w.setCell ⟨b,off,none⟩ v).heap=w.heap.setIfInBounds b (.cells (cs.setIfInBounds off v) e fz):=by
 simp only[World.setCell];apply Array.ext_getElem?;intro i;rw[Array.getElem?_modify,Array.getElem?_setIfInBounds];by_cases hi:b=i
 ·subst hi;simp[bH h,(bBM.1 h).2]
 ·simp[hi]
theorem jS:∀(us:List Value) (i:Nat) (w:World) (b off:Nat) (vs:List Value) (e:TypeId),w.heap[b]?= some (.cells vs.toArray e (0,0))→off+i+us.length≤vs.length→(∀u∈us,cell1 u=true)→
  ∃w',(storeCells ⟨b,off,none⟩ us i).run P w=.ok () w'∧aPJ w b (.cells (vs.take (off+i)++us++vs.drop (off+i+us.length)).toArray e (0,0)) w'
 | [],i,w,b,off,vs,e,h,hl,_=>by
  refine⟨w,rfl,?_,rfl⟩;simp only[aZA,bAP,Nat.add_zero,bBV];apply Array.ext_getElem?;intro j;rw[Array.getElem?_setIfInBounds];split
  ·rename_i hj;subst hj;simp[bH h,(bBM.1 h).2]
  ·rfl
 |u::us,i,w,b,off,vs,e,h,hl,ho=>by
  have hu:=ho u LT;simp only[aYW]at hl;have hcell:∃v,w.cell? ⟨b,off+i,none⟩=some v:=⟨vs[off+i],pX h (by simp[show off+i<vs.length by omega])⟩
  obtain⟨v0,hv0⟩:=hcell;have hfz:w.frozen? ⟨b,off+i,none⟩=false:=by simp[World.frozen?,h]
  have hs:(store ⟨b,off+i,none⟩ u).run P w=.ok () (w.setCell ⟨b,off+i,none⟩ u):=by
   cases u<;>first|(simp[cell1]at hu;done)|simp[store,Sem.run,hv0,hfz]
  have hh:=FH (v:=u) (off:=off+i) h;have h':(w.setCell ⟨b,off+i,none⟩ u).heap[b]?= some (.cells (vs.set (off+i) u).toArray e (0,0)):=by
   rw[hh];simp[bH h]
  obtain⟨w',hr,hw'⟩:=jS us (i+1) _ b off (vs.set (off+i) u) e h' Yaj (fun u hu=>ho u (n5 _ hu));refine⟨w',?_,?_,hw'.2⟩
  ·simp only[storeCells,Sem.run_bind,gF,hs,Result.andThen_ok];exact hr
  ·rw[hw'.1,hh];apply Array.ext_getElem?;intro j;simp only[Array.getElem?_setIfInBounds,Array.size_setIfInBounds];split
   ·have hlt:off+i<vs.length:=by omega
    have h1:(vs.set (off+i) u).take (off+(i+1))=vs.take (off+i)++[u]:=by
     rw[show off+(i+1)=off+i+1 by omega,List.take_succ_eq_append_getElem (by simpa using hlt),List.take_set_of_le (aZL _)];simp
    have h2:(vs.set (off+i) u).drop (off+(i+1)+us.length)=vs.drop (off+i+(us.length+1)):=by
     rw[List.drop_set_of_lt Yd];congr 1;omega
    simp only[h1,h2,aYW,aZD,bCK]
   ·rfl
theorem xY{w:World}{t:TypeId}{b off:Nat}{vs us:List Value}{e:TypeId}{v:Value}(hs:TS P t us.length)(hv:v.cells=us.toArray)(h:w.heap[b]?= some (.cells vs.toArray e (0,0)))(hl:off+us.length≤vs.length)(ho:∀u∈us,cell1 u=true):
  ∃w',(Instr.storeAt t (.pointer (some ⟨b,off,none⟩)) v).run P w=.ok () w'∧aPJ w b (.cells (vs.take off++us++vs.drop (off+us.length)).toArray e (0,0)) w':=by
 obtain⟨w',hr,hw⟩:=jS (P:=P) us 0 w b off vs e h Yan ho;refine⟨w',?_,by simpa using hw⟩;unfold Instr.storeAt Instr.sureAddr storeVar;simp only[pure_bind,Sem.run_bind,hs w,Result.andThen_ok,hv,aZV,ne_eq,not_true_eq_false,bBH];exact hr
theorem kI{β:List Nat}{D:aC}{w w':World}{b:Nat}{o:Obj}(hw:aPJ w b o w')(h:b∈β):aKU β D w D w':=
 ⟨by rw[hw.1];simp,fun c _ hn=>⟨by rw[hw.1,bBG (by rintro rfl;exact hn h)],rfl⟩,hw.2⟩
theorem bG{t:TypeId}{b off:Nat}{vs us ws:List Value}{e:TypeId}{μ':aD}(ho:all[ix]?= some ⟨none,.store t x y,ty,pos,aft,g⟩)(hx:ev σ x=some (.pointer (some ⟨b,off,none⟩)))(hy:ev σ y=some v)(hv:v.cells=us.toArray)(hs:TS P t us.length)
  (hm:bR μ b (.cells vs.toArray e (0,0)) (.cells ws.toArray e (0,0)) μ') (hl:off+us.length≤vs.length) (hw:vs.take off++us++vs.drop (off+us.length)=ws) (hc1:∀u∈us,cell1 u=true) (hg:dE all σ g)
  (kk:WL P X bad all K Q os σ μ' Ds):WL P X bad all K Q ((false,ix)::os) σ μ Ds:=by
 refine eZ ho rfl rfl hg fun a w hh=>?_
 obtain⟨h1,h2,h3,D,h4,h5,h6⟩:=id hh;obtain⟨w',hr,hw'⟩:=xY (P:=P) hs hv (h4.box _ hm.mem).1 hl hc1;have:(execOp a.eval ⟨none,.store t x y,ty,pos,aft,g⟩).run P w=.ok .skip w':=by
  simp only[execOp,hh.eval hx,hh.eval hy,Sem.run_bind,hr,Result.andThen_ok,Sem.run_pure]
 rw[this];rw[hw]at hw';exact⟨fun h=>by simp at h,kk _ _ ⟨h1,h2,h3,D,h4.set hm hw' rfl,h5,h6.step (fun _ p hp=>aZE Yar) (fun _=>kI hw' (GT.2 ⟨_,hm.mem,rfl⟩)) (h4.set hm hw' rfl).dom⟩⟩
theorem _root_.Go.Fs.Zo{t:TypeId}{b:Nat}{off:Nat}{vs:List Value}{us:List Value}{ws:List Value}{e:TypeId}{μ':aD}(e9:(all[ix]?,ev σ x,ev σ y,v.cells)=(some ⟨none,.store t x y,ty,pos,aft,g⟩,some (.pointer (some ⟨b,off,none⟩)),some v,us.toArray))(hs:TS P t us.length)(hm:bR μ b (.cells vs.toArray e (0,0)) (.cells ws.toArray e (0,0)) μ')(hw:vs.take off++us++vs.drop (off+us.length)=ws)(kk:WL P X bad all K Q os σ μ' Ds)(hl:off+us.length≤vs.length:=by exact Ye)(hc1:∀u∈us,cell1 u=true:=by exact Yk)(hg:dE all σ g:=by exact bDY):WL P X bad all K Q ((false,ix)::os) σ μ Ds:=bG (aYY (fun z=>z.1) e9) (aYY (fun z=>z.2.1) e9) (aYY (fun z=>z.2.2.1) e9) (aYY (fun z=>z.2.2.2) e9) hs hm hl hw hc1 hg kk

def iS:Nat→List Value→bO
 |_,[]=>[]
 |i,v::vs=>(i,v)::iS (i+1) vs
theorem fQ:∀(vs:List Value) (i s:Nat) (v:Value),look (iS i vs) s=some v→i≤s∧vs[s-i]?= some v
 | [],i,s,v,h=>by cases h
 |u::vs,i,s,v,h=>by
  simp only[iS,look]at h;cases hb:Nat.beq i s with
  |true=>rw[hb]at h;cases h;obtain rfl:=bAF hb;simp
  |false=>
   rw[hb]at h;obtain⟨h1,h2⟩:=fQ vs (i+1) s v h;refine⟨by omega,?_⟩;rw[show s-i=(s-(i+1))+1 by omega];simpa using h2
def pL(X:Cx)(post:aC→Value→aD→Prop):Ending→World→Prop:=fun e w'=>∃v D' μ',e=.returned v∧iD X.h0 X.lo X.D0 X.mods μ' D' w'∧post D' v μ'
theorem kL{fn:Func}{post:aC→Value→aD→Prop}:NP (bodyPost P fn (pL X post)):=by
 rintro c a w ⟨_,v,D',μ',h,_⟩;cases h
theorem enter{f:FuncId}{fn:Func}{c:Code}{args:List Value}{D:aC}{post:aC→Value→Prop}(N:Nat)(hf:P.funcs[f]?= some fn)(hn:(fn.name== "runtime.NumGoroutine")=false)(hb:fn.body=some c)(hN:fn.ntmps=N)(hsz:Nat.ble args.length N=true)
  (h:∀h0:H0,WC P ⟨none,N,[],h0,h0.size,D,[],none⟩ (bodyPost P fn (pL ⟨none,N,[],h0,h0.size,D,[],none⟩ fun D' v _=>post D' v)) c (iS 0 args) [] [D]):Fn P f args.toArray D post:=by
 refine⟨EF.of hf hn hb,fun w hw=>?_⟩;subst hN;have hsz:=bAZ hsz;refine(dP (r:=none) (n:=0)).1 ((callsIn_of_wp (R:=pL ⟨none,fn.ntmps,[],hd w,w.heap.size,D,[],none⟩ fun D' v _=>post D' v) hf hb bDY (h (hd w) _ w ⟨?_,fun s v hs=>?_,rfl,D,⟨aZL _,aZL _,fun _ _ _=>rfl,fun _ _=>rfl,hw,Yi,bAV,Yi,fun e he=>aZO he⟩,fun D₁ h1=>?_,bDY⟩) rfl).mono ?_)
 ·simp;omega
 ·obtain⟨_,h2⟩:=fQ args 0 s v hs;have hl:=(aYV.1 h2).1;simp only[bCM]at h2 hl;show(args.toArray++_)[s]?= some v;rw[bBD Yan];simpa using h2
 ·simp only[aZM]at h1;subst h1;exact Le.refl _
 ·rintro e w' ⟨v,D',μ',rfl,hs,hp⟩;exact⟨v,D',rfl,hs.sub (by intro p hp;cases hp) bAV,hp⟩
theorem _root_.Go.Fs.Zs{f:FuncId}{fn:Func}{c:Code}{args:List Value}{D:aC}{post:aC→Value→Prop}(N:Nat)(hf:P.funcs[f]?= some fn)(e9:((fn.name== "runtime.NumGoroutine"),fn.body,fn.ntmps,Nat.ble args.length N)=(false,some c,N,true))(h:∀h0:H0,WC P ⟨none,N,[],h0,h0.size,D,[],none⟩ (bodyPost P fn (pL ⟨none,N,[],h0,h0.size,D,[],none⟩ fun D' v _=>post D' v)) c (iS 0 args) [] [D]):Fn P f args.toArray D post:=enter N hf (aYY (fun z=>z.1) e9) (aYY (fun z=>z.2.1) e9) (aYY (fun z=>z.2.2.1) e9) (aYY (fun z=>z.2.2.2) e9) h
def xT(P:Program)(X:Cx)(σ:bO)(μ:aD):List ResultVar→List Value→Prop
 | [],[]=>True
 |.tmp t::rs,v::vs=>look σ t=some v∧xT P X σ μ rs vs
 |.cell a t::rs,v::vs=>(∃b us e,look σ a=some (qP b)∧(b,.cells us e (0,0))∈μ∧
   ((TA P t false∧us=#[v])∨(TA P t true∧TS P t us.size∧v=.agg us)))∧xT P X σ μ rs vs
 |_,_=>False
def S4(tmps:Array Value)(r:ResultVar):Sem Value:=
 match r with
 |.tmp t=>pure (tmps.getD t undef)
 |.cell a t=>do loadVar t (←asAddr (tmps.getD a undef))
theorem u6{a:Act}{w:World}(hh:Hl X σ μ Ds a w):∀(rs:List ResultVar) (vs:List Value),xT P X σ μ rs vs→(rs.mapM (S4 a.tmps)).run P w=.ok vs w
 | [],[],_=>rfl
 | [],_::_,h=>h.elim
 |.tmp t::rs,[],h=>h.elim
 |.cell _ _::rs,[],h=>h.elim
 |.tmp t::rs,v::vs,h=>by
  have hv:=hh.2.1 _ _ h.1;have he:a.tmps.getD t undef=v:=by rw[bAL,hv];rfl
  have h1:(S4 a.tmps (.tmp t)).run P w=.ok v w:=by simp only[S4,he,Sem.run_pure]
  rw[bCA,Sem.run_bind,h1,Result.andThen_ok,Sem.run_bind,u6 hh rs vs h.2];rfl
 |.cell s t::rs,v::vs,h=>by
  obtain⟨⟨b,us,e,hs,hm,hc⟩,hr⟩:=h;have hv:=hh.2.1 _ _ hs;have he:a.tmps.getD s undef=qP b:=by rw[bAL,hv];rfl
  have hbox:=hh.boxAt (bad:=[]) hm Ye (nZ.refl _ w);have hload:(loadVar t ⟨b,0,none⟩).run P w=.ok v w:=by
   rcases hc with⟨ha,hu⟩|⟨ha,hsz,hu⟩
   ·have:=sR (P:=P) (t:=t) (b:=b) (off:=0) (v:=v) ha (pX hbox (by rw[hu];rfl));simpa [Instr.loadAt,Instr.sureAddr]using this
   ·have:=lK (P:=P) (t:=t) (b:=b) (off:=0) (vs:=us.toList) ha (by simpa using hsz) (fun j u hj=>pX hbox (by simpa using hj));rw[hu];simpa [Instr.loadAt,Instr.sureAddr]using this
  have h1:(S4 a.tmps (.cell s t)).run P w=.ok v w:=by simp only[S4,he,asAddr,pure_bind];exact hload
  rw[bCA,Sem.run_bind,h1,Result.andThen_ok,Sem.run_bind,u6 hh rs vs hr];rfl
def qE:List Value→Value
 | [v]=>v
 |vs=>.tuple vs.toArray
theorem iK{fn:Func}{a:Act}{w:World}(hh:Hl X σ μ Ds a w){rs:List ResultVar}{vs:List Value}(hr:fn.results=rs.toArray)(h:xT P X σ μ rs vs):(results fn a.tmps).run P w=.ok (qE vs) w:=by
 have e:results fn a.tmps=(rs.toArray.mapM (S4 a.tmps) >>= fun vs=>Pure.pure (if h:vs.size=1 then vs[0]else .tuple vs)):=by rw[←hr];rfl
 rw[e,List.mapM_toArray,Sem.run_bind,Sem.run_map,u6 hh rs vs h];simp only[Result.andThen_ok,Sem.run_pure];match vs with
 | []=>rfl
 | [v]=>rfl
 |_::_::_=>rfl
theorem cS{fn:Func}{post:aC→Value→aD→Prop}{e:Exit}(he:(match e with|.normal=>true|.ret=>true|_=>false)=true){rs:List ResultVar}{vs:List Value}(hds:X.ds=[])(hr:fn.results=rs.toArray)(h:xT P X σ μ rs vs)
  (hp:∀D,(∀D₁∈Ds,Le D₁ D)→post D (qE vs) μ):∀a w,Hl X σ μ Ds a w→bodyPost P fn (pL X post) e a w:=by
 intro a w hh;have hrun:=iK hh hr h;obtain⟨h1,h2,h3,D,h4,h5,h6⟩:=hh;have:a.defers=[]∧∃v,(results fn a.tmps).run P w=.ok v w∧pL X post (.returned v) w:=⟨h3.trans hds,_,hrun,_,D,μ,rfl,h4,hp D h5⟩
 cases e<;>first|exact this|cases he
theorem aE{fn:Func}{post:aC→Value→aD→Prop}{e:Exit}{t:Nat}{v:Value}(e9:((match e with|.normal=>true|.ret=>true|_=>false),X.ds,fn.results,look σ t)=(true,[],#[.tmp t],some v))
 (hp:∀D,(∀D₁∈Ds,Le D₁ D)→post D (qE [v]) μ):∀a w,Hl X σ μ Ds a w→bodyPost P fn (pL X post) e a w:=cS (rs:=[.tmp t]) (vs:=[v]) (aYY (fun z=>z.1) e9) (aYY (fun z=>z.2.1) e9) (aYY (fun z=>z.2.2.1) e9) ⟨aYY (fun z=>z.2.2.2) e9,bDY⟩ hp

def ints(l:List Int):List Value:=l.map (Value.int .i64)
@[simp] theorem aO(l:List Int):(ints l).length=l.length:=by simp[ints]
theorem cD{l:List Int}{k:Nat}{n:Int}(h:l[k]?= some n):(ints l)[k]?= some (qI n):=by simp[ints,h]
theorem dR(l:List Int):∀v∈ints l,cell1 v=true:=by intro v hv;simp[ints]at hv;obtain⟨n,_,rfl⟩:=hv;rfl
theorem eM{t e:TypeId}{n b:Nat}{k:IntKind}{i:Int}(ho:all[ix]?= some ⟨some d,.indexAddr t x y,ty,pos,aft,g⟩)(ht:P.underlying t=some (.array n e))(hs:TS P e 1)(hx:ev σ x=some (qP b))(hy:ev σ y=some (.int k i))(h0:0≤i)(h1:i<n)
  (hN:Nat.blt d X.N=true) (hg:dE all σ g) (kk:WL P X bad all K Q os ((d,.pointer (some ⟨b,i.toNat,none⟩))::σ) μ Ds):WL P X bad all K Q ((fl,ix)::os) σ μ Ds:=
 fC ho ht hs hx hy h0 h1 hN hg (by simpa using kk)
theorem x3{t:TypeId}{b k:Nat}{l:List Int}{n:Int}{e:TypeId}{μ':aD}(ho:all[ix]?= some ⟨none,.store t x y,ty,pos,aft,g⟩)(hs:TS P t 1)(hx:ev σ x=some (.pointer (some ⟨b,k,none⟩)))(hy:ev σ y=some (qI n))
  (hm:bR μ b (.cells (ints l).toArray e (0,0)) (.cells (ints (l.set k n)).toArray e (0,0)) μ') (hl:k<l.length) (hg:dE all σ g)
  (kk:WL P X bad all K Q os σ μ' Ds):WL P X bad all K Q ((false,ix)::os) σ μ Ds:=
 bG (us:=[qI n]) (vs:=ints l) (ws:=ints (l.set k n)) ho hx hy rfl hs hm Yaj (by
  rw[show ints (l.set k n)=(ints l).set k (qI n) by simp[ints,List.map_set],List.set_eq_take_append_cons_drop,aZK Yan];simp) Yk hg kk

def BQ(σ:bO):List (Nat×Operand)→Option (List (Nat×Value))
 | []=>some []
 |(i,x)::xs=>match ev σ x,BQ σ xs with
  |some v,some vs=>some ((i,v)::vs)
  |_,_=>none
theorem B8{ρ:Operand→Value}(hρ:∀x u,ev σ x=some u→ρ x=u):∀{xs:List (Nat×Operand)} {vs:List (Nat×Value)},BQ σ xs=some vs→(xs.map fun p=>(p.1,ρ p.2))=vs
 | [],vs,h=>by simp[BQ]at h;simp[h]
 |(i,x)::xs,vs,h=>by
  simp only[BQ]at h;cases h1:ev σ x with
  |none=>simp[h1]at h
  |some v1=>
   cases h2:BQ σ xs with
   |none=>simp[h1,h2]at h
   |some v2=>
    simp[h1,h2]at h;rw[←h,aZR,hρ x v1 h1,B8 hρ h2]
def TP(P:Program)(t:TypeId)(pl:List (Nat×Nat)):Prop:=
 ∃fs,P.underlying t=some (.struct fs)∧∀w,(fs.mapM (fun f=>do pure (f.offset,←sizeOf f.type):Field→Sem (Nat×Nat))).run P w=.ok pl.toArray w
theorem j8{P:Program}:∀(fs:List Field) (pl:List (Nat×Nat)),(fs.map fun f=>(f.offset,P.cellsOf f.type))=pl→(∀f∈fs,(P.info? f.type).isSome=true)→∀w,
  (fs.mapM (fun f=>do pure (f.offset,←sizeOf f.type):Field→Sem (Nat×Nat))).run P w=.ok pl w
 | [],pl,h,_,w=>by subst h;rfl
 |f::fs,pl,h,hi,w=>by
  subst h;have hs:(sizeOf f.type).run P w=.ok (P.cellsOf f.type) w:=by
   have:=hi f LT;obtain⟨i,hi⟩:=Option.isSome_iff_exists.1 this;exact TS.of (by rw[hi];simp[Program.cellsOf,hi]) w
  rw[bCA,Sem.run_bind,Sem.run_bind,hs];simp only[Result.andThen_ok,Sem.run_pure];rw[Sem.run_bind,j8 fs _ rfl (fun f hf=>hi f (n5 _ hf)) w];rfl
theorem TP.of{t:TypeId}{fs:Array Field}{pl:List (Nat×Nat)}(h:P.underlying t=some (.struct fs))(hp:(fs.toList.map fun f=>(f.offset,P.cellsOf f.type))=pl)(hi:(fs.toList.all fun f=>(P.info? f.type).isSome)=true):TP P t pl:=by
 refine⟨fs,h,fun w=>?_⟩;have hr:=j8 (P:=P) fs.toList pl hp (fun f hf=>aZN.1 hi f hf) w;have e:fs=fs.toList.toArray:=rfl;rw[e,List.mapM_toArray,Sem.run_map];simp only[hr,Result.andThen_ok]
theorem kE{t:TypeId}{parts:Array (Nat×Operand)}{us:List (Nat×Value)}{zs cs:List Value}{pl:List (Nat×Nat)}(ho:all[ix]?= some ⟨some d,.build t parts,ty,pos,aft,g⟩)(hpl:TP P t pl)(hz:TZ P t (.agg zs.toArray))(hu:BQ σ parts.toList=some us)
  (hf:Instr.fill (fun i=>pl[i]?) zs.toArray us=some cs.toArray) (hN:Nat.blt d X.N=true) (hg:dE all σ g) (kk:WL P X bad all K Q os ((d,.agg cs.toArray)::σ) μ Ds):WL P X bad all K Q ((fl,ix)::os) σ μ Ds:=
 bQ ho rfl rfl hN hg (fun ρ hρ w'=>by
  obtain⟨fs,h,hp⟩:=hpl;have e:(parts.map fun(i,x)=>(i,ρ x)).toList=us:=by rw[←B8 hρ hu];simp
  have hf':Instr.fill (fun i=>pl.toArray[i]?) zs.toArray us=some cs.toArray:=by simpa using hf
  simp only[execOp,Instr.build,Sem.run_bind,hz w',Result.andThen_ok,TU.of h w',hp w',Value.cells,e,hf',Sem.run_pure]) kk
theorem _root_.Go.Fs.Zr{t:TypeId}{parts:Array (Nat×Operand)}{us:List (Nat×Value)}{zs:List Value}(cs:List Value){pl:List (Nat×Nat)}(ho:all[ix]?= some ⟨some d,.build t parts,ty,pos,aft,g⟩)(hpl:TP P t pl)(hz:TZ P t (.agg zs.toArray))(e9:(BQ σ parts.toList,Instr.fill (fun i=>pl[i]?) zs.toArray us)=(some us,some cs.toArray))(kk:WL P X bad all K Q os ((d,.agg cs.toArray)::σ) μ Ds)(hN:Nat.blt d X.N=true:=by exact rfl)(hg:dE all σ g:=by exact bDY):WL P X bad all K Q ((fl,ix)::os) σ μ Ds:=kE (cs:=cs) ho hpl hz (aYY (fun z=>z.1) e9) (aYY (fun z=>z.2) e9) hN hg kk

inductive MF(sz:Nat):Nat→List (Nat×Value)→List Value→Prop
 |nil {k}:MF sz k [] []
 |cons {k v cs r rs} (hv:v.cells=cs.toArray) (hc:cs.length=sz) (h:MF sz (k+1) r rs):MF sz k ((k,v)::r) (cs++rs)
theorem MF.len{sz k:Nat}{r:List (Nat×Value)}{rs:List Value}(h:MF sz k r rs):rs.length=r.length*sz:=by
 induction h with
 |nil=>simp
 |cons hv hc h ih=>simp[ih,hc,bBU];omega
theorem EK:∀(cs:List Value) (j off:Nat) (pre mid post:List Value),pre.length=off+j→mid.length=cs.length→
  (cs.zipIdx j).foldl (fun(a:Array Value) (p:Value×Nat)=>a.setIfInBounds (off+p.2) p.1) (pre++mid++post).toArray=(pre++cs++post).toArray
 | [],j,off,pre,mid,post,h1,h2=>by have:mid=[]:=bBP.1 h2;subst this;rfl
 |c::cs,j,off,pre,[],post,h1,h2=>by simp at h2
 |c::cs,j,off,pre,m::mid,post,h1,h2=>by
  rw[List.zipIdx_cons,bAG];have e:(pre++(m::mid)++post).toArray.setIfInBounds (off+j) c=((pre++[c])++mid++post).toArray:=by
   rw[←h1];simp
  rw[e,EK cs (j+1) off (pre++[c]) mid post Yaj (by simpa using h2)];simp
theorem aBV{sz:Nat}{k:Nat}{r:List (Nat×Value)}{rs:List Value}(h:MF sz k r rs):∀(pre zs:List Value),pre.length=k*sz→zs.length=rs.length→
  Instr.fill (fun i=>some (i*sz,sz)) (pre++zs).toArray r=some (pre++rs).toArray:=by
 induction h with
 |nil=>intro pre zs h1 h2;have:zs=[]:=bBP.1 h2;subst this;rfl
 | @cons k v cs r rs hv hc h ih=>
  intro pre zs h1 h2;obtain⟨m,post,rfl,hm⟩:∃m post,zs=m++post∧m.length=cs.length:=⟨zs.take cs.length,zs.drop cs.length,by simp,by rw[bBI,h2];simp⟩
  have hpost:post.length=rs.length:=by simp[hm]at h2;omega
  simp only[Instr.fill];rw[aZB]
  ·rw[hv];have hz:(cs.toArray.zipIdx.foldl (fun(a:Array Value) (p:Value×Nat)=>a.setIfInBounds (k*sz+p.2) p.1) (pre++m++post).toArray)=(pre++cs++post).toArray:=by
    have:=EK cs 0 (k*sz) pre m post (by simpa using h1) hm;rw[←this,←Array.foldl_toList];simp
   have e:(pre++(m++post)).toArray=(pre++m++post).toArray:=by simp
   rw[e];rw[hz,ih (pre++cs) post (by simp[h1,hc,bBU]) hpost];simp
  ·rw[hv];simp[h1,hc,hm]
theorem L0{t e:TypeId}{sz n:Nat}{parts:Array (Nat×Operand)}{us:List (Nat×Value)}{rs:List Value}{z0:Value}(ho:all[ix]?= some ⟨some d,.buildSlice t n parts,ty,pos,aft,g⟩)(ht:P.underlying t=some (.slice e))(hs:TS P e sz)(hz:TZ P e z0)(_hz1:Nat.beq z0.cells.size sz=true)
  (hu:BQ σ parts.toList=some us) (hn:us.length=n) (hnz:Nat.ble (n*sz) 4096=true) (hf:MF sz 0 us rs) (hN:Nat.blt d X.N=true) (hg:dE all σ g)
  (kk:∀b D,(∀D₁∈Ds,Le D₁ D)→At D b 0 rs→WL P X bad all K Q os ((d,qS b n n)::σ) μ (D::Ds)):WL P X bad all K Q ((fl,ix)::os) σ μ Ds:=by
 refine eZ ho rfl rfl hg fun a w hh=>?_
 obtain⟨h1,h2,h3,D,h4,h5,h6⟩:=id hh;have hnz':n*sz≤4096:=bAZ hnz;have hlen:rs.length=n*sz:=by rw[hf.len,hn]
 have e1:(parts.map fun(i,x)=>(i,a.eval x)).toList=us:=by rw[←B8 (fun _ _ hx=>hh.eval hx) hu];simp
 have hrun:(execOp a.eval ⟨some d,.buildSlice t n parts,ty,pos,aft,g⟩).run P w=.ok (.value (.slice (some ⟨w.heap.size,0,none⟩) n n)) {w with heap:=w.heap.push (.cells rs.toArray e (0,0))}:=by
  simp only[execOp,Instr.buildSlice,Sem.run_bind,TU.of ht w,Result.andThen_ok,hs w];rw[aZB Yd];simp only[pure_bind];have key:∀zc:Array Value,Instr.fill (fun i=>some (i*sz,sz)) ((Array.range (n*sz)).map (zc[· %zc.size]!)) us=some rs.toArray:=by
   intro zc;have:=aBV hf [] ((Array.range (n*sz)).map (zc[· %zc.size]!)).toList Ye (by simp[hlen]);rw[aZU,aZU]at this;exact this
  split
  ·simp only[Sem.run_bind,Sem.run_pure,Result.andThen_ok,e1,key,lW]
  ·simp only[Sem.run_bind,Sem.run_pure,Result.andThen_ok,hz w,e1,key,lW]
 rw[hrun];obtain⟨D',hle,hD',hDo,hs'⟩:=h4.pushD rs e;refine⟨fun _=>pJ _ _ _,kk w.heap.size D' (fun D₁ hD₁=>(h5 D₁ hD₁).trans hle) (fun j v hj=>by rw[hD'];simpa using hj) _ _ (Hl.put ⟨h1,h2,h3,D',hs',fun D₁ hD₁=>?_,h6.step (fun _ p hp=>aZE (GT.2 ⟨p,hp,rfl⟩)) (fun _=>⟨by simp,fun b hb _=>⟨dI hb,hDo b Yd⟩,rfl⟩) hs'.dom⟩ hN _)⟩
 rcases n4.1 hD₁ with rfl|hD₁
 ·exact Le.refl _
 ·exact(h5 D₁ hD₁).trans hle
theorem _root_.Go.Fs.Zp{t:TypeId}{e:TypeId}{sz:Nat}{n:Nat}{parts:Array (Nat×Operand)}{us:List (Nat×Value)}{rs:List Value}{z0:Value}(ho:all[ix]?= some ⟨some d,.buildSlice t n parts,ty,pos,aft,g⟩)(ht:P.underlying t=some (.slice e))(hs:TS P e sz)(hz:TZ P e z0)(e9:(Nat.beq z0.cells.size sz,BQ σ parts.toList,us.length,Nat.ble (n*sz) 4096)=(true,some us,n,true))(hf:MF sz 0 us rs)(kk:∀b D,(∀D₁∈Ds,Le D₁ D)→At D b 0 rs→WL P X bad all K Q os ((d,qS b n n)::σ) μ (D::Ds))(hN:Nat.blt d X.N=true:=by exact rfl)(hg:dE all σ g:=by exact bDY):WL P X bad all K Q ((fl,ix)::os) σ μ Ds:=L0 ho ht hs hz (aYY (fun z=>z.1) e9) (aYY (fun z=>z.2.1) e9) (aYY (fun z=>z.2.2.1) e9) (aYY (fun z=>z.2.2.2) e9) hf hN hg kk
theorem Sl.of_at{α:Type}{R:Rd α}{D:aC}{sz b n cap:Nat}{xs:List α}{rs:List Value}(hA:At D b 0 rs)(hn:xs.length=n)(hc:n≤cap)(hb:n≤9223372036854775807)(h:∀i x,xs[i]?= some x→∃cs,R D x cs∧cs.length=sz∧(rs.drop (i*sz)).take sz=cs):Sl D R sz (qS b n cap) xs:=by
 subst hn;refine⟨_,cap,rfl,hc,hb,aYZ ⟨b,0,rfl,fun i x hx=>?_⟩⟩;obtain⟨cs,hr,hl,hcs⟩:=h i x hx;refine⟨cs,hr,hl,fun j v hj=>?_⟩;have hlt:=(aYV.1 hj).1;rw[←hcs,bBL Yd,bBJ]at hj;have:=hA _ _ hj;simpa [Nat.add_assoc]using this
theorem Sl.ofInts{D:aC}{b cap:Nat}{l:List Int}{n:Nat}(hA:At D b 0 (ints l))(hn:l.length=n)(hc:n≤cap)(hb:n≤9223372036854775807):Sl D RI 1 (qS b n cap) l:=
 Sl.of_at hA hn hc hb fun i x hx=>⟨[qI x],rfl,rfl,by
  have h:=cD hx;have hl:=(aYV.1 h).1;rw[bBQ,bAM hl];rw[aYU hl]at h;simp[aZO h]⟩
theorem ON{f:FuncId}{xs ys:Array Operand}{vs us:List Value}(ho:all[ix]?= some ⟨some d,.makeFunc (.func f) xs ys,ty,pos,aft,g⟩)(hx:X7 σ xs.toList=some vs)(hy:X7 σ ys.toList=some us)(hN:Nat.blt d X.N=true)(hg:dE all σ g)
  (kk:WL P X bad all K Q os ((d,.func (.func f) vs.toArray us.toArray)::σ) μ Ds):WL P X bad all K Q ((fl,ix)::os) σ μ Ds:=
 bQ ho rfl rfl hN hg (fun ρ hρ w'=>by
  have e1:xs.map ρ=vs.toArray:=by rw[←kP hρ hx,←bDM]
  have e2:ys.map ρ=us.toArray:=by rw[←kP hρ hy,←bDM]
  simp only[execOp,Instr.makeFunc,e1,e2,pure_bind,Sem.run_pure]) kk
theorem _root_.Go.Fs.Zao{f:FuncId}{xs:Array Operand}{ys:Array Operand}{vs:List Value}{us:List Value}(e9:(all[ix]?,X7 σ xs.toList,X7 σ ys.toList)=(some ⟨some d,.makeFunc (.func f) xs ys,ty,pos,aft,g⟩,some vs,some us))(kk:WL P X bad all K Q os ((d,.func (.func f) vs.toArray us.toArray)::σ) μ Ds)(hN:Nat.blt d X.N=true:=by exact rfl)(hg:dE all σ g:=by exact bDY):WL P X bad all K Q ((fl,ix)::os) σ μ Ds:=ON (aYY (fun z=>z.1) e9) (aYY (fun z=>z.2.1) e9) (aYY (fun z=>z.2.2) e9) hN hg kk
theorem rC{e:TypeId}{vs:List Value}(ho:all[ix]?= some ⟨some d,.box e x,ty,pos,aft,g⟩)(hx:ev σ x=some v)(hv:v.cells=vs.toArray)(hN:Nat.blt d X.N=true)(hg:dE all σ g)
  (kk:∀b D,(∀D₁∈Ds,Le D₁ D)→At D b 0 vs→WL P X bad all K Q os ((d,qP b)::σ) μ (D::Ds)):WL P X bad all K Q ((fl,ix)::os) σ μ Ds:=by
 refine eZ ho rfl rfl hg fun a w hh=>?_
 obtain⟨h1,h2,h3,D,h4,h5,h6⟩:=id hh;have:(execOp a.eval ⟨some d,.box e x,ty,pos,aft,g⟩).run P w=.ok (.value (.pointer (some ⟨w.heap.size,0,none⟩))) {w with heap:=w.heap.push (.cells vs.toArray e (0,0))}:=by
  simp only[execOp,hh.eval hx,Instr.box,newVar,hv,Sem.run_bind,lW,Result.andThen_ok,Sem.run_pure]
 rw[this];obtain⟨D',hle,hD',hDo,hs'⟩:=h4.pushD vs e;refine⟨fun _=>pJ _ _ _,kk w.heap.size D' (fun D₁ hD₁=>(h5 D₁ hD₁).trans hle) (fun j v hj=>by rw[hD'];simpa using hj) _ _ (Hl.put ⟨h1,h2,h3,D',hs',fun D₁ hD₁=>?_,h6.step (fun _ p hp=>aZE (GT.2 ⟨p,hp,rfl⟩)) (fun _=>⟨by simp,fun b hb _=>⟨dI hb,hDo b Yd⟩,rfl⟩) hs'.dom⟩ hN _)⟩
 rcases n4.1 hD₁ with rfl|hD₁
 ·exact Le.refl _
 ·exact(h5 D₁ hD₁).trans hle
theorem _root_.Go.Fs.Zu{e:TypeId}{vs:List Value}(e9:(all[ix]?,ev σ x,v.cells)=(some ⟨some d,.box e x,ty,pos,aft,g⟩,some v,vs.toArray))(kk:∀b D,(∀D₁∈Ds,Le D₁ D)→At D b 0 vs→WL P X bad all K Q os ((d,qP b)::σ) μ (D::Ds))(hN:Nat.blt d X.N=true:=by exact rfl)(hg:dE all σ g:=by exact bDY):WL P X bad all K Q ((fl,ix)::os) σ μ Ds:=rC (aYY (fun z=>z.1) e9) (aYY (fun z=>z.2.1) e9) (aYY (fun z=>z.2.2) e9) hN hg kk
def cX{α:Type}(P:Program)(D:aC)(val:α→Value)(fv:Value)(p:α→Bool):Prop:=
 ∃f c1 c2,fv=.func (.func f) (List.toArray c1) (List.toArray c2)∧∀x D',Le D D'→Fn P f (c1++[val x]++c2).toArray D' fun _ v=>v=.bool (p x)
theorem cX.up{α:Type}{D D':aC}{val:α→Value}{fv:Value}{p:α→Bool}(h:cX P D val fv p)(hl:Le D D'):cX P D' val fv p:=by
 obtain⟨f,c1,c2,h1,h2⟩:=h;exact⟨f,c1,c2,h1,fun x D'' hl'=>h2 x D'' (hl.trans hl')⟩
theorem cX.of{α:Type}{D:aC}{val:α→Value}{f:FuncId}{p:α→Bool}(h:∀x D',Fn P f #[val x] D' fun _ v=>v=.bool (p x)):cX P D val (.func (.func f) #[] #[]) p:=
 ⟨f,[],[],rfl,fun x D' _=>h x D'⟩
def bS(e:TypeId)(sz:Nat)(v:Value)(n:Nat)(cells:List Value)(ν:aD):Prop:=
 (∃a,v=.slice a 0 0∧n=0∧cells=[]∧ν=[])∨
 (∃b cap junk,v=qS b n cap∧n≤cap∧ν=[(b,.cells (cells++junk).toArray e (0,0))]∧cells.length=n*sz∧(cells++junk).length=cap*sz)
theorem bS.nil{e:TypeId}{sz:Nat}{a:Option Addr}:bS e sz (.slice a 0 0) 0 [] []:=aZE ⟨a,rfl,rfl,rfl,rfl⟩
theorem mZ{w:World}{b o:Nat}{vs:List Value}{n:Nat}(hn:vs.length=n)(h:aEH w b o vs):(loadCells ⟨b,o,none⟩ n).run P w=.ok vs.toArray w:=by
 unfold loadCells;rw[tT n 0 #[] vs hn (fun j v hj=>by rw[show o+(0+j)=o+j by omega];exact h j v hj)]
 simp
def mI(D:aC)(x:Value)(m:Nat)(xs:List Value):Prop:=(∃a c,x=.slice a 0 c∧m=0∧xs=[])∨(∃b o c,x=.slice (some ⟨b,o,none⟩) m c∧At D b o xs)
theorem zC{D:aC}{w:World}{x:Value}{m sz:Nat}{xs:List Value}(h:mI D x m xs)(hl:xs.length=m*sz)(hw:∀b o,At D b o xs→aEH w b o xs):(Builtin.firstCells sz m x).run P w=.ok xs.toArray w:=by
 rcases h with⟨a,c,rfl,rfl,rfl⟩|⟨b,o,c,rfl,hA⟩
 ·cases a with
  |none=>rfl
  |some a=>simp[Builtin.firstCells,loadCells,loadCellsFrom,Sem.run_pure]
 ·simp only[Builtin.firstCells];exact mZ hl (hw b o hA)
theorem EA{D:aC}{w:World}{x:Value}{m:Nat}{xs:List Value}(h:mI D x m xs):(Builtin.lenOf x).run P w=.ok m w:=by
 rcases h with⟨a,c,rfl,rfl,rfl⟩|⟨b,o,c,rfl,hA⟩<;>rfl
theorem NX{need cap:Nat}(h:cap<need):Builtin.nextslicecap need cap≤2*need+768:=by
 unfold Builtin.nextslicecap;split
 ·omega
 ·split
  ·omega
  ·have key:∀(r c:Nat),c<need+need / 4+400→Builtin.growBy need r c≤2*need+768:=by
    intro r;induction r with
    |zero=>intro c hc;simp only[Builtin.growBy];omega
    |succ r ih=>
     intro c hc;simp only[Builtin.growBy];split
     ·omega
     ·exact ih _ Yd
   exact key _ _ Yd
theorem Y1{w:World}{n:Nat}:(askRoom n).run P w=.ok () w:=by unfold askRoom;split<;>rfl
theorem yS(z:Array Value)(n:Nat):(Builtin.zeroCells z n).size=n*z.size:=by simp[Builtin.zeroCells]
section run
variable{t t1 e tr:TypeId}{sz:Nat}{z0:Value}{i0:TypeInfo}{ats:Array TypeId}
theorem pS(ht:P.underlying t=some (.slice e))(hat:ats[0]?= some t)(G:ats[1]?= some t1)(hk:P.underlying t1=some .string∨t1=t)(hs:TS P e sz){w:World}{a:Option Addr}{n cap m:Nat}{xv:Value}{xs:List Value}
  (hm:(Builtin.lenOf xv).run P w=.ok m w) (hx:(Builtin.firstCells sz m xv).run P w=.ok xs.toArray w) (hle:n+m≤cap) {w':World}
  (hst:(match a with|some a=>storeCells (a.add (n*sz)) xs|none=>pure ():Sem Unit).run P w=.ok () w'):
  (Builtin.append_ ats tr #[.slice a n cap,xv]).run P w=.ok (.slice a (n+m) cap) w':=by
 have M:(#[Value.slice a n cap,xv]:Array Value)[0]?= some (.slice a n cap):=rfl;have O:(#[Value.slice a n cap,xv]:Array Value)[1]?= some xv:=rfl;obtain⟨dd,I,hdd⟩:∃dd,P.underlying t1=some dd∧(dd=.string∨dd=.slice e):=by
  rcases hk with hk|rfl
  ·exact⟨_,hk,aZE rfl⟩
  ·exact⟨_,ht,aYZ rfl⟩
 unfold Builtin.append_;rcases hdd with rfl|rfl;all_goals
  simp only[hat,G,M,O,Sem.run_bind,TU.of ht w,TU.of I w,Result.andThen_ok,hs w,Sem.run_pure,bAE,bBH,hm,Bool.not_false,bAX,hle,hx];cases a with
  |none=>
   have:w'=w:=by
    have h:(pure ():Sem Unit).run P w=.ok () w':=hst;rw[Sem.run_pure]at h;cases h;rfl
   subst this;rfl
  |some a=>
   have h:(storeCells (a.add (n*sz)) xs).run P w=.ok () w':=hst;simp only[Sem.run_bind,h,Result.andThen_ok,Sem.run_pure]
theorem tX(ht:P.underlying t=some (.slice e))(hat:ats[0]?= some t)(G:ats[1]?= some t1)(hk:P.underlying t1=some .string∨t1=t)(hs:TS P e sz)(hz:TZ P e z0)(hi:P.info? e=some i0){w:World}{a:Option Addr}{n cap m:Nat}{xv:Value}{old xs:List Value}
  (hm:(Builtin.lenOf xv).run P w=.ok m w) (hx:∀w',w'.heap=w.heap→(Builtin.firstCells sz m xv).run P w'=.ok xs.toArray w') (ho:∀w',w'.heap=w.heap→(Builtin.firstCells sz n (.slice a n cap)).run P w'=.ok old.toArray w')
  (hgt:cap<n+m) (hlen:n+m≤10000000) (hb:1≤i0.bytes∧i0.bytes≤4096):
  ∃c,n+m≤c∧c≤9223372036854775807∧(Builtin.append_ ats tr #[.slice a n cap,xv]).run P w=.ok (.slice (some ⟨w.heap.size,0,none⟩) (n+m) c)
   {w with drawn:=w.drawn+1,heap:=w.heap.push (.cells (old.toArray++xs.toArray++Builtin.zeroCells z0.cells (c-(n+m))) e (0,0))}:=by
 have M:(#[Value.slice a n cap,xv]:Array Value)[0]?= some (.slice a n cap):=rfl;have O:(#[Value.slice a n cap,xv]:Array Value)[1]?= some xv:=rfl;have hti:∀w,(typeInfo e).run P w=.ok i0 w:=fun w=>by simp[typeInfo,program,Sem.run,hi,go_sem]
 have hcapn:=NX hgt;have hbig:¬Builtin.nextslicecap (n+m) cap*i0.bytes>2^48:=by
  have:Builtin.nextslicecap (n+m) cap*i0.bytes≤(2*(n+m)+768)*4096:=Nat.mul_le_mul hcapn hb.2;omega
 have hch:(choose (.appendCap (n+m) cap e)).run P w=.ok ((n+m)+(w.tape w.drawn (.appendCap (n+m) cap e))%(2^63-(n+m))) {w with drawn:=w.drawn+1}:=by
  simp[choose,Sem.run,Question.forced,Question.cut]
 refine⟨(n+m)+(w.tape w.drawn (.appendCap (n+m) cap e))%(2^63-(n+m)),Nat.le_add_right _ _,by have:=Nat.mod_lt (w.tape w.drawn (.appendCap (n+m) cap e)) (show 0<2^63-(n+m) by omega);omega,?_⟩;obtain⟨dd,I,hdd⟩:∃dd,P.underlying t1=some dd∧(dd=.string∨dd=.slice e):=by
  rcases hk with hk|rfl
  ·exact⟨_,hk,aZE rfl⟩
  ·exact⟨_,ht,aYZ rfl⟩
 unfold Builtin.append_;have hnot:¬(n+m≤cap):=by omega
 have hmax:¬(((n+m:Nat):Int)>IntKind.i64.max∧(false=true∨i0.bytes=0)):=by
  rintro⟨_,h|h⟩
  ·cases h
  ·omega
 rcases hdd with rfl|rfl;all_goals
  simp only[hat,G,M,O,Sem.run_bind,TU.of ht w,TU.of I w,Result.andThen_ok,hs w,Sem.run_pure,bAE,bBH,hm,Bool.not_false,bAX,hnot,hti];rw[aZB (by rintro⟨_,h|h⟩;exact h.elim;omega)]
  simp only[Sem.run_bind,Result.andThen_ok,hti];rw[aZB hbig];have hzz:∀w,(zeroValue e).run P w=.ok z0 w:=hz;simp only[Sem.run_bind,Sem.run_pure,Result.andThen_ok,hti,hch,Y1,hzz,ho {w with drawn:=w.drawn+1} rfl,hx {w with drawn:=w.drawn+1} rfl,lW]
theorem xM(ht:P.underlying t=some (.slice e))(hat:ats[0]?= some t)(G:ats[1]?= some t)(hs:TS P e sz){w:World}{a:Option Addr}{n cap m:Nat}{xv:Value}{xs:List Value}
  (hm:(Builtin.lenOf xv).run P w=.ok m w) (hx:(Builtin.firstCells sz m xv).run P w=.ok xs.toArray w) (hle:n+m≤cap) {w':World}
  (hst:(match a with|some a=>storeCells (a.add (n*sz)) xs|none=>pure ():Sem Unit).run P w=.ok () w'):
  (Builtin.append_ ats tr #[.slice a n cap,xv]).run P w=.ok (.slice a (n+m) cap) w':=pS ht hat G (aYZ rfl) hs hm hx hle hst
theorem V6(ht:P.underlying t=some (.slice e))(hat:ats[0]?= some t)(G:ats[1]?= some t)(hs:TS P e sz)(hz:TZ P e z0)(hi:P.info? e=some i0){w:World}{a:Option Addr}{n cap m:Nat}{xv:Value}{old xs:List Value}
  (hm:(Builtin.lenOf xv).run P w=.ok m w) (hx:∀w',w'.heap=w.heap→(Builtin.firstCells sz m xv).run P w'=.ok xs.toArray w') (ho:∀w',w'.heap=w.heap→(Builtin.firstCells sz n (.slice a n cap)).run P w'=.ok old.toArray w')
  (hgt:cap<n+m) (hlen:n+m≤10000000) (hb:1≤i0.bytes∧i0.bytes≤4096):
  ∃c,n+m≤c∧(Builtin.append_ ats tr #[.slice a n cap,xv]).run P w=.ok (.slice (some ⟨w.heap.size,0,none⟩) (n+m) c)
   {w with drawn:=w.drawn+1,heap:=w.heap.push (.cells (old.toArray++xs.toArray++Builtin.zeroCells z0.cells (c-(n+m))) e (0,0))}:=by
 obtain⟨c,h1, -,h2⟩:=tX (tr:=tr) ht hat G (aYZ rfl) hs hz hi hm hx ho hgt hlen hb;exact⟨c,h1,h2⟩
end run
def LF(v:Value):Prop:=∀a n c,v=.slice a n c→c≤9223372036854775807
theorem e6{a:Option Addr}{n c:Nat}(h:c≤9223372036854775807):LF (.slice a n c):=fun _ _ _ e=>by cases e;exact h
theorem y3{A B ν:aD}{t t1 e tr:TypeId}{sz n m:Nat}{cells xs:List Value}{xv:Value}{z0:Value}{ats:Array TypeId}
  (ho:all[ix]?= some ⟨some d,.call {callee:=.builtin .append,args:=#[x,y],argTypes:=ats},tr,pos,aft,g⟩) (ht:P.underlying t=some (.slice e)) (hat:ats[0]?= some t) (G:ats[1]?= some t1) (hk:P.underlying t1=some .string∨t1=t)
  (hs:TS P e sz) (hz:TZ P e z0) (R:Nat.beq z0.cells.size sz=true) (hi:(P.info? e).map (fun i=>Nat.ble 1 i.bytes&&Nat.ble i.bytes 4096)=some true) (I:Nat.ble 1 sz=true)
  (hx:ev σ x=some v) (hy:ev σ y=some xv) (hacc:bS e sz v n cells ν) (hsrc:∀a w,Hl X σ (A++ν++B) Ds a w→(Builtin.lenOf xv).run P w=.ok m w∧∀w',w'.heap=w.heap→(Builtin.firstCells sz m xv).run P w'=.ok xs.toArray w') (hxl:xs.length=m*sz) (hcl:cells.length=n*sz) (hx1:∀u∈xs,cell1 u=true) (hlen:n+m≤10000000)
  (hfl:fl=false∨∀p∈ν,p.1∈bad)
  (hN:Nat.blt d X.N=true) (hg:dE all σ g)
  (kk:∀v' ν',bS e sz v' (n+m) (cells++xs) ν'→(LF v→LF v')→WL P X bad all K Q os ((d,v')::σ) (A++ν'++B) Ds):WL P X bad all K Q ((fl,ix)::os) σ (A++ν++B) Ds:=by
 refine eZ ho rfl rfl hg fun a w hh=>?_
 obtain⟨h1,h2,h3,D,h4,h5,Y⟩:=id hh;obtain⟨i0,hi,U,V⟩:∃i0,P.info? e=some i0∧1≤i0.bytes∧i0.bytes≤4096:=by
  cases h:P.info? e with
  |none=>simp[h]at hi
  |some i=>simp[h]at hi;exact⟨i,rfl,hi⟩
 have hsz:1≤sz:=bAZ I;have hz1':=bAF R;have hex:(execOp a.eval ⟨some d,.call {callee:=.builtin .append,args:=#[x,y],argTypes:=ats},tr,pos,aft,g⟩).run P w=
   ((Builtin.append_ ats tr #[v,xv]).run P w).andThen fun r w'=>.ok (.value r) w':=by
  simp only[execOp,resolve,pure_bind,invoke,builtin];have Z:(#[x,y].map a.eval)=#[v,xv]:=by simp[hh.eval hx,hh.eval hy]
  rw[Z,Sem.run_bind];simp only[Sem.run_pure]
 rw[hex];obtain⟨hm,hfc⟩:=hsrc a w hh;have grow:∀(old:Option Addr) (cap:Nat),v=.slice old n cap→cap<n+m→(∀w',w'.heap=w.heap→(Builtin.firstCells sz n (.slice old n cap)).run P w'=.ok cells.toArray w')→
   Oper.uponIn (FW X.r) 0 P ⟨some d,.call {callee:=.builtin .append,args:=#[x,y],argTypes:=ats},tr,pos,aft,g⟩ a (fun a' w'=>(fl=true→nZ bad w w')∧sY X.r bad P all K Q (hG all os) a' w') Q
    (((Builtin.append_ ats tr #[v,xv]).run P w).andThen fun r w'=>.ok (.value r) w'):=by
  intro old cap hv hgt hold;obtain⟨c,hc,hcB,hrun⟩:=tX (tr:=tr) ht hat G hk hs hz hi hm hfc hold hgt hlen ⟨U,V⟩;rw[hv,hrun];obtain⟨junk,hjunk⟩:∃junk:List Value,cells.toArray++xs.toArray++Builtin.zeroCells z0.cells (c-(n+m))=(cells++xs++junk).toArray∧(cells++xs++junk).length=c*sz:=by
   refine⟨(Builtin.zeroCells z0.cells (c-(n+m))).toList,by simp,?_⟩;have:=yS z0.cells (c-(n+m));simp only[aYS,Array.length_toList,this,hz1',hcl,hxl];rw[←bBU,←bBU];congr 1;omega
  have hpush:=h4.push (.cells (cells++xs++junk).toArray e (0,0)) rfl;simp only[Result.andThen_ok];rw[hjunk.1];refine⟨fun _=>⟨by simp,fun b hb _=>dI hb⟩,?_⟩;have hst:iD X.h0 X.lo X.D0 X.mods (A++[(w.heap.size,.cells (cells++xs++junk).toArray e (0,0))]++B) D {w with drawn:=w.drawn+1,heap:=w.heap.push (.cells (cells++xs++junk).toArray e (0,0))}:=by
   have h:=hpush.sub (μ':=A++[(w.heap.size,.cells (cells++xs++junk).toArray e (0,0))]++B) (fun p hp=>by
    simp only[aZF,n4]at hp ⊢
    rcases hp with(hp|hp)|hp
    ·exact aYZ (aZE (aZE hp))
    ·exact aZE (hp.resolve_right Ye)
    ·exact aYZ (aYZ hp)) (by
    have hn:=hpush.nd;simp only[aZR,aZH,bAO,aZF,not_or]at hn;obtain⟨⟨⟨ha,_⟩,hb⟩,hn⟩:=hn;rw[aZC,aZC]at hn;simp only[aZH,aZR,bCT];rw[aZC,aZC];refine⟨⟨hn.1.1,by simp,fun q hq r hr=>?_⟩,hn.2.1,fun q hq r hr=>?_⟩
    ·simp only[aZM]at hr;rintro rfl;exact ha (hr▸hq)
    ·simp only[aZF,aZM]at hq;rcases hq with hq|hq
     ·exact hn.2.2 q (aYX _ hq) r hr
     ·rintro rfl;exact hb (hq▸hr))
   exact⟨h.hlo,h.size,h.old,h.dold,h.agr,h.box,h.nd,h.fz,h.env⟩
  exact kk _ _ (aYZ ⟨_,c,junk,rfl,hc,rfl,by simp[hcl,hxl,bBU],hjunk.2⟩) (fun _=>e6 hcB) _ _ (Hl.put ⟨h1,h2,h3,D,hst,h5,Y.step (fun _ p hp=>by
   rcases aZF.1 hp with hp|hp
   ·rcases aZF.1 hp with hp|hp
    ·exact aZE (GT.2 ⟨p,aYX _ (aYX _ hp),rfl⟩)
    ·exact aYZ (by rw[aZM.1 hp];exact aZL _)
   ·exact aZE (GT.2 ⟨p,GE _ hp,rfl⟩)) (fun _=>⟨by simp,fun b hb _=>⟨dI hb,rfl⟩,rfl⟩) hst.dom⟩ hN _)
 rcases hacc with⟨old,hv,hn,hc,hν⟩|⟨b,cap,junk,hv,hncap,hν,hl1,M⟩
 ·subst hn;subst hc;subst hν
  by_cases h0:m=0
  ·subst h0;have hxs:xs=[]:=bBP.1 (by simpa using hxl);subst hxs;rw[hv,pS (tr:=tr) (w':=w) ht hat G hk hs hm (hfc w rfl) (aZL _) (by cases old<;>rfl)]
   refine⟨fun _=>nZ.refl _ _,kk _ [] (aZE ⟨old,rfl,rfl,rfl,rfl⟩) (fun _=>e6 Yy) _ _ (Hl.put hh hN _)⟩
  ·refine grow old 0 hv Yd fun w' _=>?_
   cases old with
   |none=>rfl
   |some a=>simp[Builtin.firstCells,loadCells,loadCellsFrom,Sem.run_pure]
 ·subst hν;have hbx:=(h4.box (b,.cells (cells++junk).toArray e (0,0)) Ye).1;by_cases hfit:n+m≤cap
  ·have hjl:xs.length≤junk.length:=by
    have h1:(n+m)*sz≤cap*sz:=bDT sz hfit;rw[←M,bBU,aYS,hcl]at h1;omega
   have O:n*sz+0+xs.length≤(cells++junk).length:=by rw[aYS,hcl];omega
   obtain⟨w',hr,hw'⟩:=jS (P:=P) xs 0 w b (n*sz) (cells++junk) e hbx O hx1;have htk:(cells++junk).take (n*sz+0)++xs++(cells++junk).drop (n*sz+0+xs.length)=cells++xs++junk.drop xs.length:=by
    rw[←hcl,Nat.add_zero,bDN,bDA,aZZ Yd];simp
   rw[htk]at hw';rw[hv,pS (tr:=tr) (w':=w') ht hat G hk hs hm (hfc w rfl) hfit (by
    show(storeCells ((⟨b,0,none⟩:Addr).add (n*sz)) xs).run P w=_;rw[gF,bCB];exact hr)]
   have hHas:bR (A++[(b,.cells (cells++junk).toArray e (0,0))]++B) b (.cells (cells++junk).toArray e (0,0)) (.cells (cells++xs++junk.drop xs.length).toArray e (0,0)) (A++[(b,.cells (cells++xs++junk.drop xs.length).toArray e (0,0))]++B):=by
    rw[aZD A,aZD A];exact .app .head
   have hst:=h4.set hHas hw' rfl;refine⟨fun hf=>⟨by rw[hw'.1];simp,fun c hc hcb=>?_⟩,kk _ _ (aYZ ⟨b,cap,junk.drop xs.length,rfl,hfit,rfl,by simp[hcl,hxl,bBU],?_⟩) (fun hB=>e6 (hB _ _ _ hv)) _ _ (Hl.put ⟨h1,h2,h3,D,hst,h5,Y.step (fun _ p hp=>aZE Yq) (fun _=>kI hw' (GT.2 ⟨_,hHas.mem,rfl⟩)) hst.dom⟩ hN _)⟩
   ·have hb:b∈bad:=by
     rcases hfl with h|h
     ·rw[hf]at h;cases h
     ·exact h _ (aZM.2 rfl)
    rw[hw'.1,bBG (by rintro rfl;exact hcb hb)]
   ·rw[←M];simp;omega
  ·refine grow _ cap hv Yd fun w' hw'=>?_
   simp only[Builtin.firstCells];refine mZ hcl fun j u hj=>pX (cs:=(cells++junk).toArray) (by rw[hw'];exact hbx) ?_
   have:=(aYV.1 hj).1;simp only[List.getElem?_toArray,bCB];rw[bBR this];exact hj
theorem ZE{A B ν:aD}{t e tr:TypeId}{sz n m:Nat}{cells xs:List Value}{xv:Value}{z0:Value}{ats:Array TypeId}
  (ho:all[ix]?= some ⟨some d,.call {callee:=.builtin .append,args:=#[x,y],argTypes:=ats},tr,pos,aft,g⟩) (ht:P.underlying t=some (.slice e)) (hat:ats[0]?= some t) (G:ats[1]?= some t)
  (hs:TS P e sz) (hz:TZ P e z0) (M:Nat.beq z0.cells.size sz=true) (hi:(P.info? e).map (fun i=>Nat.ble 1 i.bytes&&Nat.ble i.bytes 4096)=some true) (I:Nat.ble 1 sz=true)
  (hx:ev σ x=some v) (hy:ev σ y=some xv) (hacc:bS e sz v n cells ν) (hsrc:∀a w,Hl X σ (A++ν++B) Ds a w→(Builtin.lenOf xv).run P w=.ok m w∧∀w',w'.heap=w.heap→(Builtin.firstCells sz m xv).run P w'=.ok xs.toArray w') (hxl:xs.length=m*sz) (hcl:cells.length=n*sz) (hx1:∀u∈xs,cell1 u=true) (hlen:n+m≤10000000)
  (hfl:fl=false∨∀p∈ν,p.1∈bad)
  (hN:Nat.blt d X.N=true) (hg:dE all σ g)
  (kk:∀v' ν',bS e sz v' (n+m) (cells++xs) ν'→WL P X bad all K Q os ((d,v')::σ) (A++ν'++B) Ds):WL P X bad all K Q ((fl,ix)::os) σ (A++ν++B) Ds:=
 y3 ho ht hat G (aYZ rfl) hs hz M hi I hx hy hacc hsrc hxl hcl hx1 hlen hfl hN hg fun v' ν' h _=>kk v' ν' h

theorem iD.freeze{h0:H0}{lo:Nat}{D0 D:aC}{mods:List Nat}{A B:aD}{w:World}{b:Nat}{cells junk:List Value}{e:TypeId}(h:iD h0 lo D0 mods (A++[(b,.cells (cells++junk).toArray e (0,0))]++B) D w)(hb:lo≤b):
  ∃D',Le D D'∧D' b=cells∧(∀c,c≠b→D' c=D c)∧iD h0 lo D0 mods (A++B) D' w:=by
 have hx:=h.box (b,.cells (cells++junk).toArray e (0,0)) Ye;have hnd:b∉(A++B).map (·.1):=by
  have hn:=h.nd;simp only[aZH,aZR,bCT]at hn ⊢
  rw[aZC,aZC]at hn;simp only[aZF,not_or];exact⟨fun hm=>hn.1.2.2 b hm b Ye rfl,fun hm=>hn.2.2 b Ye b hm rfl⟩
 have hlo:=h.hlo;refine⟨fun c=>if c=b then cells else D c,⟨fun c=>?_,by simp only[Ne.symm (h.agr.ne0 hx.2.1),bBH]⟩,by simp,(fun c hc=>by simp[hc]),h.hlo,h.size,h.old,fun c hc=>?_,h.agr.of (fun c hc=>?_) (by simp only[Ne.symm (h.agr.ne0 hx.2.1),bBH]) rfl,fun p hp=>?_,?_,(fun p hp=>h.fz p (by rcases aZF.1 hp with hp|hp<;>simp[hp])),h.env⟩
 ·by_cases hcb:c=b
  ·subst hcb;rw[hx.2.1];exact bDP
  ·simp[hcb]
 ·have:c≠b:=by omega
  simp only[this,bBH];exact h.dold c hc
 ·by_cases hcb:c=b
  ·subst hcb;exact⟨_,e,_,hx.1,by simp⟩
  ·simp only[hcb,bBH]at hc ⊢;exact h.agr.1 c hc
 ·have hp':p∈A++[(b,Obj.cells (cells++junk).toArray e (0,0))]++B:=by
   rcases aZF.1 hp with hp|hp
   ·exact aYX _ (aYX _ hp)
   ·exact GE _ hp
  obtain⟨h1,h2,h3⟩:=h.box p hp';have:p.1≠b:=by rintro rfl;exact hnd (GT.2 ⟨p,hp,rfl⟩)
  exact⟨h1,by simp only[this,bBH];exact h2,h3⟩
 ·have hn:=h.nd;simp only[aZH,aZR,bCT]at hn ⊢
  rw[aZC,aZC]at hn;rw[aZC];exact⟨hn.1.1,hn.2.1,fun q hq r hr=>hn.2.2 q (aYX _ hq) r hr⟩
theorem bB{A B ν:aD}{D₁:aC}{t e tr:TypeId}{sz n m:Nat}{cells xs:List Value}{xv:Value}{z0:Value}{ats:Array TypeId}
  (ho:all[ix]?= some ⟨some d,.call {callee:=.builtin .append,args:=#[x,y],argTypes:=ats},tr,pos,aft,g⟩) (ht:P.underlying t=some (.slice e)) (hat:ats[0]?= some t) (G:ats[1]?= some t)
  (hs:TS P e sz) (hz:TZ P e z0) (M:Nat.beq z0.cells.size sz=true) (hi:(P.info? e).map (fun i=>Nat.ble 1 i.bytes&&Nat.ble i.bytes 4096)=some true) (I:Nat.ble 1 sz=true)
  (hx:ev σ x=some v) (hy:ev σ y=some xv) (hacc:bS e sz v n cells ν) (hsrc:mI D₁ xv m xs) (hD:D₁∈Ds) (hxl:xs.length=m*sz) (hcl:cells.length=n*sz) (hx1:∀u∈xs,cell1 u=true) (hlen:n+m≤10000000)
  (hfl:fl=false∨∀p∈ν,p.1∈bad)
  (hN:Nat.blt d X.N=true) (hg:dE all σ g)
  (kk:∀v' ν',bS e sz v' (n+m) (cells++xs) ν'→WL P X bad all K Q os ((d,v')::σ) (A++ν'++B) Ds):WL P X bad all K Q ((fl,ix)::os) σ (A++ν++B) Ds:=by
 refine ZE ho ht hat G hs hz M hi I hx hy hacc (fun a w hh=>?_) hxl hcl hx1 hlen hfl hN hg kk;obtain⟨h1,h2,h3,D,h4,h5,O⟩:=id hh;refine⟨EA hsrc,fun w' hw'=>zC hsrc hxl fun b o hA j u hj=>?_⟩;have:=h4.agr.cell ((h5 D₁ hD).get (hA j u hj));unfold World.cell? at this ⊢
 rw[hw'];exact this
def mK(D:aC)(v:Value)(n:Nat)(cells:List Value):Prop:=(∃a,v=.slice a 0 0∧n=0∧cells=[])∨(∃b cap,v=qS b n cap∧n≤cap∧At D b 0 cells)
theorem Hl.freeze{A B ν:aD}{e sz n:Nat}{cells:List Value}{a:Act}{w:World}(hacc:bS e sz v n cells ν)(hmods:X.mods=[])(hh:Hl X σ (A++ν++B) Ds a w):
  ∃D',(∀D₁∈Ds,Le D₁ D')∧mK D' v n cells∧Hl X σ (A++B) (D'::Ds) a w:=by
 obtain⟨h1,h2,h3,D,h4,h5,G⟩:=hh;rcases hacc with⟨old,hv,hn,hc,hν⟩|⟨b,cap,junk,hv,hncap,hν,hl1,I⟩
 ·subst hν;refine⟨D,h5,aZE ⟨old,hv,hn,hc⟩,h1,h2,h3,D,by simpa using h4,fun D₁ hD₁=>?_,by simpa using G⟩;rcases n4.1 hD₁ with rfl|hD₁
  ·exact Le.refl _
  ·exact h5 D₁ hD₁
 ·subst hν;have hb:=(h4.box (b,.cells (cells++junk).toArray e (0,0)) Ye).2.2;have hb':=hb.resolve_right (by rw[hmods];simp)
  obtain⟨D',hle,hD',hDo,hs⟩:=h4.freeze hb';refine⟨D',fun D₁ hD₁=>(h5 D₁ hD₁).trans hle,aYZ ⟨b,cap,hv,hncap,fun j u hj=>by rw[hD',bCB];exact hj⟩,h1,h2,h3,D',hs,fun D₁ hD₁=>?_,G.step (fun _ p hp=>aZE (GT.2 ⟨p,by rcases aZF.1 hp with hp|hp;exact aYX _ (aYX _ hp);exact GE _ hp,rfl⟩)) (fun _=>⟨aZL _,fun c _ hn=>⟨rfl,hDo c (by rintro rfl;exact hn Ye)⟩,rfl⟩) hs.dom⟩
  rcases n4.1 hD₁ with rfl|hD₁
  ·exact Le.refl _
  ·exact(h5 D₁ hD₁).trans hle
theorem aJJ{A B ν:aD}{e sz n:Nat}{cells:List Value}(hacc:bS e sz v n cells ν)(hmods:X.mods=[])(kk:∀D,(∀D₁∈Ds,Le D₁ D)→mK D v n cells→WL P X bad all K Q os σ (A++B) (D::Ds)):WL P X bad all K Q os σ (A++ν++B) Ds:=by
 intro a w hh;obtain⟨D',h1,h2,h3⟩:=hh.freeze hacc hmods;exact kk D' h1 h2 a w h3
theorem R0{c:Code}{A B ν:aD}{e sz n:Nat}{cells:List Value}(hacc:bS e sz v n cells ν)(hmods:X.mods=[])(kk:∀D,(∀D₁∈Ds,Le D₁ D)→mK D v n cells→WC P X Q c σ (A++B) (D::Ds)):WC P X Q c σ (A++ν++B) Ds:=by
 intro a w hh;obtain⟨D',h1,h2,h3⟩:=hh.freeze hacc hmods;exact kk D' h1 h2 a w h3
theorem gC{T:Act→World→Prop}{A B ν:aD}{e sz n:Nat}{cells:List Value}(hacc:bS e sz v n cells ν)(hmods:X.mods=[])(kk:∀D,(∀D₁∈Ds,Le D₁ D)→mK D v n cells→∀a w,Hl X σ (A++B) (D::Ds) a w→T a w):∀a w,Hl X σ (A++ν++B) Ds a w→T a w:=by
 intro a w hh;obtain⟨D',h1,h2,h3⟩:=hh.freeze hacc hmods;exact kk D' h1 h2 a w h3
theorem mK.sl{α:Type}{R:Rd α}{D:aC}{sz n:Nat}{cells:List Value}{xs:List α}(h:mK D v n cells)(hn:xs.length=n)(hb:n≤9223372036854775807)(he:∀i x,xs[i]?= some x→∃cs,R D x cs∧cs.length=sz∧(cells.drop (i*sz)).take sz=cs):Sl D R sz v xs:=by
 rcases h with⟨a,hv,G,hc⟩|⟨b,cap,hv,hc,hA⟩
 ·subst G;have:xs=[]:=bBP.1 hn;subst this;subst hv
  exact⟨a,0,rfl,aZL _,by simp,aZE rfl⟩
 ·subst hv;exact Sl.of_at hA hn hc hb he
theorem mK.ints{D:aC}{n:Nat}{l:List Int}(h:mK D v n (ints l))(hn:l.length=n)(hb:n≤9223372036854775807):Sl D RI 1 v l:=
 h.sl hn hb fun i x hx=>⟨[qI x],rfl,rfl,by
  have h:=cD hx;have hl:=(aYV.1 h).1;rw[bBQ,bAM hl];rw[aYU hl]at h;simp[aZO h]⟩
theorem mI.lit{D:aC}{b m c:Nat}{xs:List Value}(h:At D b 0 xs):mI D (qS b m c) m xs:=aYZ ⟨b,0,c,rfl,h⟩
theorem mI.ints{D:aC}{l:List Int}(h:Sl D RI 1 v l):mI D v l.length (ints l):=by
 obtain⟨a,cap,rfl,h1,h2,h3⟩:=h;rcases h3 with rfl|⟨b,o,rfl,h3⟩
 ·exact aZE ⟨a,cap,rfl,rfl,rfl⟩
 ·refine aYZ ⟨b,o,cap,rfl,fun j v hj=>?_⟩;simp only[Fs.ints,aZT,bBS]at hj;obtain⟨n,hn,rfl⟩:=hj;obtain⟨cs,hr,hc,hA⟩:=h3 j n hn;obtain rfl:cs=[qI n]:=hr;have:=hA 0 _ rfl;simpa using this
def zK(β:List Nat)(D:aC)(w:World)(D':aC)(w':World):Prop:=w.heap.size≤w'.heap.size∧Le D D'∧∀b∈β,w'.heap[b]?= w.heap[b]?∧D' b=D b
abbrev tL:=List Nat→aC→World→Prop
def iM(P:Program)(l:Nat)(vs:List Value)(w:World)(R:Bool→aC→World→Prop):Prop:=
 ∃fn tmps assign body,(Instr.yield l vs.toArray).run P w=.ok (.round l fn tmps assign body) w∧aGS P l fn tmps assign body w fun e w'=>∃b D',e=.returned (.bool b)∧R b D' w'
def Cx.withEx(X:Cx)(J:tL):Cx:={X with ex:=some J}
theorem aNO{J J1 J0:tL}{l:Nat}{c:Operand}{xs:Array Operand}{ats:Array TypeId}{vs:List Value}(ho:all[ix]?= some ⟨some d,.call {callee:=.value c,args:=xs,argTypes:=ats},ty,pos,aft,g⟩)
  (hc:ev σ c=some (.func (.yield l) #[] #[])) (hxs:X7 σ xs.toList=some vs) (hex:X.ex=some J) (hfl:fl=false) (h0:X.h0=⟨#[],none⟩) (_hm:X.mods=[]) (G:I8 X.lo J1) (I:I8 X.lo J0)
  (hY:∀D w,zF X.lo D w→J (μ.map (·.1)) D w→(∀p∈μ,p.1<w.heap.size)→(∀D₁∈Ds,Le D₁ D)→iM P l vs w fun b D' w'=>zF X.lo D' w'∧zK (μ.map (·.1)) D w D' w'∧(if b then J1 (μ.map (·.1)) D' w' else J0 (μ.map (·.1)) D' w'))
  (hN:Nat.blt d X.N=true) (hg:dE all σ g)
  (O:WL P (X.withEx J1) bad all K Q os ((d,.bool true)::σ) μ Ds) (R:WL P (X.withEx J0) bad all K Q os ((d,.bool false)::σ) μ Ds):WL P X bad all K Q ((fl,ix)::os) σ μ Ds:=by
 refine eZ ho rfl rfl hg fun a w hh=>?_
 obtain⟨h1,h2,h3,D,h4,h5,M⟩:=id hh;have hJ:J (μ.map (·.1)) D w:=by unfold C4 at M;rw[hex]at M;exact M.2
 obtain⟨fn,tmps,assign,body,hy,hr⟩:=hY D w h4.dom hJ (fun p hp=>bH (h4.box p hp).1) h5;have e:xs.map a.eval=vs.toArray:=by rw[←kP (fun _ _ hx=>hh.eval hx) hxs,←bDM]
 have hrun:(execOp a.eval ⟨some d,.call {callee:=.value c,args:=xs,argTypes:=ats},ty,pos,aft,g⟩).run P w=.ok (.round l fn tmps assign body) w:=by
  simp only[execOp,resolve,hh.eval hc,Deferred.ofValue,pure_bind,invoke,e];rw[←hy];simp
 rw[hrun];refine⟨fun h=>by simp[FW]at h,(s7 hr).mono ?_⟩;rintro e' w' ⟨b,D',rfl,hd',hh',hb⟩;have hst:iD X.h0 X.lo X.D0 X.mods μ D' w':=by
  refine⟨h4.hlo,hd'.2,(fun b hb=>by rw[h0]at hb;exact absurd hb (bCV _)),(fun b hb=>by rw[h0]at hb;exact absurd hb (bCV _)),hd'.1,fun p hp=>?_,h4.nd,h4.fz,fun e he=>by rw[h0]at he;cases he⟩;obtain⟨p1,p2,U⟩:=h4.box p hp;obtain⟨q1,q2⟩:=hh'.2.2 p.1 (GT.2 ⟨p,hp,rfl⟩);exact⟨q1.trans p1,q2.trans p2,U⟩
 have hds:∀D₁∈Ds,Le D₁ D':=fun D₁ hD₁=>(h5 D₁ hD₁).trans hh'.2.1
 refine⟨(fun h=>by rw[hfl]at h;cases h),?_⟩;cases b with
 |true=>
  refine O _ _ (Hl.put (X:=X.withEx J1) ⟨h1,h2,h3,D',hst,hds,⟨G,hb⟩⟩ hN _)
 |false=>
  refine R _ _ (Hl.put (X:=X.withEx J0) ⟨h1,h2,h3,D',hst,hds,⟨I,hb⟩⟩ hN _)

def Xj(N lo:Nat)(J:tL):Cx:=⟨none,N,[],⟨#[],none⟩,lo,fun _=>[],[],some J⟩
def SJ(lo:Nat)(J:tL)(μ:aD)(Ds:List aC)(w:World):Prop:=
 ∃D,iD ⟨#[],none⟩ lo (fun _=>[]) [] μ D w∧(∀D₁∈Ds,Le D₁ D)∧C4 (Xj 0 lo J) μ D w
def aWF(P:Program)(f:FuncId)(args:List Value)(lo:Nat)(J:tL)(μ:aD)(Ds:List aC)(post:Value→tL→aD→Prop):Prop:=
 EF P f∧∀w,SJ lo J μ Ds w→Calls P f args.toArray w fun e w'=>∃v J' μ',e=.returned v∧SJ lo J' μ' Ds w'∧post v J' μ'
def Y2(lo:Nat)(Ds:List aC)(post:Value→tL→aD→Prop):Ending→World→Prop:=fun e w'=>∃v J' μ',e=.returned v∧SJ lo J' μ' Ds w'∧post v J' μ'
theorem L8{fn:Func}{lo:Nat}{post:Value→tL→aD→Prop}:NP (bodyPost P fn (Y2 lo Ds post)):=by
 rintro c a w ⟨_,v,D',μ',h,_⟩;cases h
theorem H7{f:FuncId}{fn:Func}{c:Code}{args:List Value}{lo:Nat}{J:tL}{post:Value→tL→aD→Prop}(N:Nat)(hf:P.funcs[f]?= some fn)(hn:(fn.name== "runtime.NumGoroutine")=false)(hb:fn.body=some c)(hN:fn.ntmps=N)(hsz:Nat.ble args.length N=true)
  (h:WC P (Xj N lo J) (bodyPost P fn (Y2 lo Ds post)) c (iS 0 args) μ Ds):aWF P f args lo J μ Ds post:=by
 refine⟨EF.of hf hn hb,fun w hw=>?_⟩;subst hN;have hsz:=bAZ hsz;obtain⟨D,hs,hds,hex⟩:=hw;refine(dP (r:=none) (n:=0)).1 (callsIn_of_wp (R:=Y2 lo Ds post) hf hb bDY (h _ w ⟨?_,(fun s v hs=>?_),rfl,D,hs,hds,hex⟩) rfl)
 ·simp[Xj];omega
 ·obtain⟨_,h2⟩:=fQ args 0 s v hs;have hl:=(aYV.1 h2).1;simp only[bCM]at h2 hl;show(args.toArray++_)[s]?= some v;rw[bBD Yan];simpa using h2
theorem lO{fn:Func}{lo N:Nat}{J:tL}{post:Value→tL→aD→Prop}{e:Exit}(he:(match e with|.normal=>true|.ret=>true|_=>false)=true){rs:List ResultVar}{vs:List Value}(hr:fn.results=rs.toArray)(h:xT P (Xj N lo J) σ μ rs vs)
  {Ds':List aC} (hD:∀D∈Ds',∃D'∈Ds,Le D D') (hp:post (qE vs) J μ):∀a w,Hl (Xj N lo J) σ μ Ds a w→bodyPost P fn (Y2 lo Ds' post) e a w:=by
 intro a w hh;have hrun:=iK hh hr h;obtain⟨h1,h2,h3,D,h4,h5,G⟩:=hh;have:a.defers=[]∧∃v,(results fn a.tmps).run P w=.ok v w∧Y2 lo Ds' post (.returned v) w:=⟨h3,_,hrun,_,J,μ,rfl,⟨D,h4,(fun D₁ h=>by obtain⟨I,hm,hle⟩:=hD D₁ h;exact hle.trans (h5 I hm)),G⟩,hp⟩
 cases e<;>first|exact this|cases he
theorem tY{J:tL}{N lo:Nat}{c:Operand}{xs:Array Operand}{ats:Array TypeId}{f:FuncId}{c1 c2 vs:List Value}{post:Value→tL→aD→Prop}(ho:all[ix]?= some ⟨some d,.call {callee:=.value c,args:=xs,argTypes:=ats},ty,pos,aft,g⟩)
  (hc:ev σ c=some (.func (.func f) c1.toArray c2.toArray)) (hxs:X7 σ xs.toList=some vs) (hfl:fl=false)
  (hf:aWF P f (c1++vs++c2) lo J μ Ds post) (hN:Nat.blt d N=true) (hg:dE all σ g)
  (kk:∀v J' μ',post v J' μ'→WL P (Xj N lo J') bad all K Q os ((d,v)::σ) μ' Ds):WL P (Xj N lo J) bad all K Q ((fl,ix)::os) σ μ Ds:=by
 refine eZ ho rfl rfl hg fun a w hh=>?_
 obtain⟨h1,h2,h3,D,h4,h5,G⟩:=id hh;rw[vC hf.1 (hh.eval hc) (kP (fun _ _ hx=>hh.eval hx) hxs)];refine⟨fun h=>by simp[FW]at h,dP.2 ((hf.2 w ⟨D,h4,h5,G⟩).mono ?_)⟩;rintro e w' ⟨v,J',μ',rfl,⟨D',hs,hds,hex⟩,hpost⟩;exact⟨(fun h=>by rw[hfl]at h;cases h),kk v J' μ' hpost _ _ (Hl.put (X:=Xj N lo J') ⟨h1,h2,h3,D',hs,hds,hex⟩ hN v)⟩

def U7{α:Type}(P:Program)(f:FuncId)(cap:List Value)(Dr:aC)(xs:List α)(enc:α→List Value):Prop:=
 EF P f∧∀(lo l:Nat) (J Jx:List α→tL),(∀pre,I8 lo (J pre))→(∀pre,I8 lo (Jx pre))→
  (∀pre x β D w,(∃r,xs=pre++x::r)→zF lo D w→J pre β D w→(∀b∈β,b<w.heap.size)→Le Dr D→
   iM P l (enc x) w fun b D' w'=>zF lo D' w'∧zK β D w D' w'∧(if b then J (pre++[x]) β D' w' else Jx (pre++[x]) β D' w'))→
  ∀D w,zF lo D w→Le Dr D→J [] [] D w→Calls P f (.func (.yield l) #[] #[]::cap).toArray w fun e w'=>∃v D',e=.returned v∧zF lo D' w'∧(J xs [] D' w'∨∃pre,Jx pre [] D' w')
def aYC{γ:Type}(h0:H0)(lo:Nat)(D0:aC)(mods:List Nat)(Ds:List aC)(Φ:γ→Prop)(Mx:γ→aD):tL:=fun β D w=>
 ∃g,Φ g∧iD h0 lo D0 mods (Mx g) D w∧(∀D₁∈Ds,Le D₁ D)∧(∀b∈β,h0.size≤b∧∀D₁∈Ds,D₁ b=[])∧∀p∈Mx g,p.1∉β
theorem UU{γ:Type}{h0:H0}{lo:Nat}{D0:aC}{Ds:List aC}{Φ:γ→Prop}{Mx:γ→aD}:I8 lo (aYC h0 lo D0 [] Ds Φ Mx):=by
 constructor
 ·rintro β D w D' w' ⟨g,hg,hs,hD,hβ,hM⟩ ⟨hl1,G,I⟩ hd;refine⟨g,hg,⟨hs.hlo,hd.2,fun b hb hm=>?_,fun b hb=>?_,hd.1,fun p hp=>?_,hs.nd,hs.fz,fun e he=>I.trans (hs.env e he)⟩,fun D₁ hD₁=>⟨fun b=>?_,?_⟩,hβ,hM⟩
  ·have hlt:b<w.heap.size:=by have:=hs.hlo;have:=hs.size;omega
   have hn:b∉β:=fun h=>by have:=(hβ b h).1;omega
   rw[(G b hlt hn).1];exact hs.old b hb hm
  ·have hlt:b<w.heap.size:=by have:=hs.hlo;have:=hs.size;omega
   have hn:b∉β:=fun h=>by have:=(hβ b h).1;omega
   rw[(G b hlt hn).2];exact hs.dold b hb
  ·obtain⟨p1,p2,M⟩:=hs.box p hp;obtain⟨q1,q2⟩:=G p.1 (bH p1) (hM p hp);exact⟨q1.trans p1,q2.trans p2,M⟩
  ·by_cases hb:b∈β
   ·rw[(hβ b hb).2 D₁ hD₁];exact bDP
   ·by_cases hlt:b<w.heap.size
    ·rw[(G b hlt hb).2];exact(hD D₁ hD₁).1 b
    ·have:=(hD D₁ hD₁).1 b;rw[hs.agr.fresh (Nat.le_of_not_lt hlt)]at this;rw[List.prefix_nil.1 this];exact bDP
  ·have h0:(0:Nat)∉β:=fun hm=>hs.agr.2.1 ((hD D₁ hD₁).2.trans ((hβ 0 hm).2 D₁ hD₁))
   rw[(G 0 hs.agr.pos h0).2];exact(hD D₁ hD₁).2
 ·rintro β β' D w ⟨g,hg,hs,hD,hβ,hM⟩ hb';refine⟨g,hg,hs,hD,fun b hb=>?_,fun p hp hb=>?_⟩
  ·rcases hb' b hb with h|h
   ·exact hβ b h
   ·refine⟨by have:=hs.hlo;have:=hs.size;omega,fun D₁ hD₁=>?_⟩;have:=(hD D₁ hD₁).1 b;rw[hs.agr.fresh h]at this;exact List.prefix_nil.1 this
  ·rcases hb' _ hb with h|h
   ·exact hM p hp h
   ·have:=bH (hs.box p hp).1;omega
theorem iD.round{h0:H0}{lo:Nat}{D0 D D':aC}{μ μ':aD}{w w':World}(h:iD h0 lo D0 [] μ D w)(hs:iD (hd w) w.heap.size D (μ.map (·.1)) μ' D' w'):iD h0 lo D0 [] μ' D' w':=by
 have hle:=bBE h.hlo h.size;have hkey:∀b∈μ.map (·.1),lo≤b:=by
  intro b hb;obtain⟨p,hp,rfl⟩:=GT.1 hb;exact(h.box p hp).2.2.resolve_right Ye
 refine⟨h.hlo,bBE h.size hs.size,fun b hb hm=>?_,fun b hb=>?_,hs.agr,fun p hp=>?_,hs.nd,hs.fz,fun e he=>(hs.env _ rfl).trans (h.env e he)⟩
 ·rw[hs.old b (bBC hb hle) (fun hk=>by have:=hkey b hk;have:=h.hlo;omega)];exact h.old b hb hm
 ·rw[hs.dold b (bBC hb hle)];exact h.dold b hb
 ·obtain⟨p1,p2,G⟩:=hs.box p hp;refine⟨p1,p2,aZE ?_⟩;rcases G with G|G
  ·have:=h.size;omega
  ·exact hkey _ G
theorem iD.roundHigh{D D':aC}{w w':World}{μ μ':aD}{β:List Nat}(hw:eX D w)(hs:iD (hd w) w.heap.size D (μ.map (·.1)) μ' D' w')(hβ:∀b∈β,b<w.heap.size)(hM:∀p∈μ,p.1∉β):zK β D w D' w':=by
 refine⟨hs.size,gH hw hs,fun b hb=>⟨hs.old b (hβ b hb) (fun hk=>?_),hs.dold b (hβ b hb)⟩⟩;obtain⟨p,hp,rfl⟩:=GT.1 hk;exact hM p hp hb
def mH(bd:Nat):Deferred:={target:=.collected bd,args:=#[]}
def Cx.withDs(X:Cx)(bd:Nat):Cx:={X with ds:=mH bd::X.ds}
def Xr(l N:Nat)(h0:H0)(D:aC)(mods:List Nat):Cx:=⟨some l,N,[],h0,h0.size,D,mods,none⟩
def zA{γ:Type}(h0:H0)(D:aC)(mods:List Nat)(Φ:γ→Prop)(Ψ:Code→γ→Prop)(Mx:γ→aD)(My:Code→γ→aD):Ending→World→Prop:=fun e w'=>
 ∃b D',e=.returned (.bool b)∧(if b then ∃g,Φ g∧iD h0 h0.size D mods (Mx g) D' w' else ∃c g,Ψ c g∧iD h0 h0.size D mods (My c g) D' w')
theorem B2{c:Code}{A B:aD}{l:Nat}{r:Loop}{QQ:Exit→Act→World→Prop}(hr:X.r=some l)(hst:r.state=.ready)(h:WC P X Q c σ (A++(l,.loop {r with state:=.busy})::B) Ds):
  ∀a w,Hl X σ (A++(l,.loop r)::B) Ds a w→Exit.then (fun a₁ w₁=>∃w₂,(Instr.beginRound l).run P w₁=.ok () w₂∧c.wpIn ((FW none).inRound l) 0 P Q a₁ w₂) QQ .normal a w:=by
 intro a w hh;obtain⟨h1,h2,h3,D,h4,h5,G⟩:=hh;have hb:=(h4.box (l,.loop r) Ye).1;refine⟨_,run_beginRound hb hst,?_⟩;have hHas:bR (A++(l,.loop r)::B) l (.loop r) (.loop {r with state:=.busy}) (A++(l,.loop {r with state:=.busy})::B):=.app .head;have hs:=h4.set (w':=w.putObj l (.loop {r with state:=.busy})) hHas ⟨rfl,rfl⟩ trivial;have:=h a _ ⟨h1,h2,h3,D,hs,h5,G.step (fun _ p hp=>aZE Yq) (fun _=>kI ⟨rfl,rfl⟩ (GT.2 ⟨_,hHas.mem,rfl⟩)) hs.dom⟩;rw[hr]at this;exact this
theorem iN{γ:Type}{A B:aD}{l:Nat}{r:Loop}{Φ:γ→Prop}{Ψ:Code→γ→Prop}{Mx:γ→aD}{My:Code→γ→aD}(g:γ)(hΦ:Φ g)(hM:Mx g=A++(l,.loop {r with state:=.ready,pending:=none})::B)(hlo:X.lo=X.h0.size):
  ∀a w,Hl X σ (A++(l,.loop r)::B) Ds a w→roundPost P l (zA X.h0 X.D0 X.mods Φ Ψ Mx My) .normal a w:=by
 intro a w hh;obtain⟨h1,h2,h3,D,h4,h5,G⟩:=hh;have hb:=(h4.box (l,.loop r) Ye).1;refine⟨_,_,run_endRound none hb,true,D,rfl,g,hΦ,?_⟩;have hHas:bR (A++(l,.loop r)::B) l (.loop r) (.loop {r with state:=.ready,pending:=none}) (A++(l,.loop {r with state:=.ready,pending:=none})::B):=.app .head;have hs:=h4.set (w':=w.putObj l (.loop {r with state:=.ready,pending:=none})) hHas ⟨rfl,rfl⟩ trivial;rw[hM,←hlo];exact hs
theorem aFL{γ:Type}{A B:aD}{l:Nat}{r:Loop}{Φ:γ→Prop}{Ψ:Code→γ→Prop}{Mx:γ→aD}{My:Code→γ→aD}(c:Code)(g:γ)(hΨ:Ψ c g)(hM:My c g=A++(l,.loop {r with state:=.done,pending:=some c})::B)(hlo:X.lo=X.h0.size):
  ∀a w,Hl X σ (A++(l,.loop r)::B) Ds a w→∃v w',(Instr.endRound l (some c)).run P w=.ok v w'∧zA X.h0 X.D0 X.mods Φ Ψ Mx My (.returned v) w':=by
 intro a w hh;obtain⟨h1,h2,h3,D,h4,h5,G⟩:=hh;have hb:=(h4.box (l,.loop r) Ye).1;refine⟨_,_,run_endRound (some c) hb,false,D,rfl,c,g,hΨ,?_⟩;have hHas:bR (A++(l,.loop r)::B) l (.loop r) (.loop {r with state:=.done,pending:=some c}) (A++(l,.loop {r with state:=.done,pending:=some c})::B):=.app .head;have hs:=h4.set (w':=w.putObj l (.loop {r with state:=.done,pending:=some c})) hHas ⟨rfl,rfl⟩ trivial;rw[hM,←hlo];exact hs
def xZ:List Tmp→List Value→bO→bO
 |p::ps,v::vs,σ=>xZ ps vs ((p,v)::σ)
 |_,_,σ=>σ
theorem N8:∀(ps:List Tmp) (vs:List Value) (tmps:Array Value) (σ:bO),(∀s v,look σ s=some v→tmps[s]?= some v)→(∀p∈ps,p<tmps.size)→
  ∀s v,look (xZ ps vs σ) s=some v→((ps.zip vs).foldl (fun tmps (p:Tmp×Value)=>tmps.setIfInBounds p.1 p.2) tmps)[s]?= some v
 | [],vs,tmps,σ,h,_,s,v,hs=>by cases vs<;>exact h s v hs
 |p::ps,[],tmps,σ,h,_,s,v,hs=>h s v hs
 |p::ps,u::vs,tmps,σ,h,hp,s,v,hs=>by
  refine N8 ps vs (tmps.setIfInBounds p u) ((p,u)::σ) (fun s v hs=>?_) (fun q hq=>by simpa using hp q (n5 _ hq)) s v hs;simp only[look]at hs;cases hb:Nat.beq p s with
  |true=>rw[hb]at hs;cases hs;obtain rfl:=bAF hb;rw[Array.getElem?_setIfInBounds_self_of_lt (hp p LT)]
  |false=>rw[hb]at hs;rw[bBG (fun e=>by subst e;simp at hb)];exact h s v hs
theorem O0:∀(l:List (Tmp×Value)) (tmps:Array Value),(l.foldl (fun tmps (p:Tmp×Value)=>tmps.setIfInBounds p.1 p.2) tmps).size=tmps.size
 | [],_=>rfl
 |p::l,tmps=>by rw[bAG,O0 l];simp
theorem uG{α γ:Type}{xs:List α}{enc:α→List Value}{Dr:aC}{f:FuncId}{cap:List Value}{gop:Operand}{ps:Array Tmp}{assign body:Code}
  (Φ:List α→γ→Prop) (Ψ:List α→Code→γ→Prop) (M:γ→aD) (g₀:γ) (hr:X.r=none) (hex:X.ex=none) (hmods:X.mods=[])
  (hg:ev σ gop=some (.func (.func f) #[] cap.toArray)) (hit:U7 P f cap Dr xs enc) (hDr:Dr∈Ds) (hps:∀x,(enc x).length=ps.size) (hpN:(ps.toList.all fun p=>Nat.blt p X.N)=true) (h₀:Φ [] g₀) (hμ:M g₀=μ)
  (hround:∀pre x g,(∃r,xs=pre++x::r)→Φ pre g→∀(l bd:Nat) (rec:Loop) (h0:H0) (D:aC),(∀D₁∈Ds,Le D₁ D)→rec.state=.ready→rec.pending=none→
   WC P (Xr l X.N h0 D ((M g++(l,Obj.loop rec)::[(bd,Obj.deferred (some []))]).map (·.1)))
    (Exit.then (fun a₁ w₁=>∃w₂,(Instr.beginRound l).run P w₁=.ok () w₂∧body.wpIn ((FW none).inRound l) 0 P (roundPost P l (zA h0 D ((M g++(l,Obj.loop rec)::[(bd,Obj.deferred (some []))]).map (·.1)) (Φ (pre++[x])) (Ψ (pre++[x]))
     (fun g=>M g++(l,Obj.loop {rec with state:=.ready,pending:=none})::[(bd,Obj.deferred (some []))]) (fun c g=>M g++(l,Obj.loop {rec with state:=.done,pending:=some c})::[(bd,Obj.deferred (some []))]))) a₁ w₂) (fun _ _ _=>False))
    assign (xZ ps.toList (enc x) σ) (M g++(l,Obj.loop rec)::[(bd,Obj.deferred (some []))]) (D::Ds))
  (hdone:∀g bd,Φ xs g→∀a w,Hl (X.withDs bd) σ (M g++[(bd,Obj.deferred (some []))]) Ds a w→Q .normal a w)
  (hstop:∀pre c g bd,Ψ pre c g→WC P (X.withDs bd) Q c σ (M g++[(bd,Obj.deferred (some []))]) Ds):WC P X Q (.rangeFunc gop ps assign body) σ μ Ds:=by
 intro a w hh;subst hμ;have hev:=hh.eval hg;obtain⟨h1,h2,h3,D,h4,h5,U⟩:=hh;rw[hmods]at h4;refine wpIn_rangeFunc fun fn _=>?_
 have hround':(FW X.r).round=none:=hr;rw[hround']
 let bd:=w.heap.size
 let l:=w.heap.size+1
 let G:Loop:={state:=.ready,pending:=none,fn,tmps:=a.tmps,params:=ps,assign,body,defers:=bd}
 let w1:World:={w with heap:=w.heap.push (.deferred (some []))}
 let w2:World:={w1 with heap:=w1.heap.push (.loop G)}
 have O:iD X.h0 X.lo X.D0 [] ((bd,Obj.deferred (some []))::M g₀) D w1:=h4.push (.deferred (some [])) trivial;have I:iD X.h0 X.lo X.D0 [] ((l,Obj.loop G)::(bd,Obj.deferred (some []))::M g₀) D w2:=by
  have:=O.push (.loop G) trivial;have e:w1.heap.size=l:=by simp[w1,l]
  rw[e]at this;exact this
 have hperm:iD X.h0 X.lo X.D0 [] (M g₀++(l,Obj.loop G)::[(bd,Obj.deferred (some []))]) D w2:=by
  refine I.sub (fun p hp=>?_) ?_
  ·simp only[aZF,n4,n3,bBB]at hp ⊢
   rcases hp with hp|hp|hp
   ·exact aYZ (aYZ hp)
   ·exact aZE hp
   ·exact aYZ (aZE hp)
  ·have hn:=I.nd;simp only[aZR,bAO,n4,not_or]at hn;simp only[aZH,aZR,bCT,aZC,bAO,n4,n3,bBB,bDD,bAV,and_true];refine⟨hn.2.2,hn.1.1,fun q hq r hr'=>?_⟩;rcases hr' with rfl|rfl
   ·rintro rfl;exact hn.1.2 hq
   ·rintro rfl;exact hn.2.1 hq
 refine⟨l,[mH bd],w2,{target:=.fn (.func f) cap.toArray,args:=#[.func (.yield l) #[] #[]]},w2,f,(.func (.yield l) #[] #[]::cap).toArray,w2,run_enterLoop_outer fn a.tmps ps assign body,?_,fun _ _=>trivial,?_,fun h=>by simp[FW]at h,?_⟩
 ·simp only[resolve,Deferred.ofValue];have e:Array.map a.eval #[Operand.const (Value.func (Fn.yield l) #[] #[])]=#[.func (.yield l) #[] #[]]:=by simp[Act.eval]
  rw[e,hev];rfl
 ·simp only[invoke];rw[hit.1];simp
 ·refine dP.2 ((hit.2 X.lo l
   (fun pre=>aYC X.h0 X.lo X.D0 [] Ds (Φ pre) fun g=>M g++(l,Obj.loop G)::[(bd,Obj.deferred (some []))])
   (fun pre=>aYC X.h0 X.lo X.D0 [] Ds (fun cg:Code×γ=>Ψ pre cg.1 cg.2) fun cg=>M cg.2++(l,Obj.loop {G with state:=.done,pending:=some cg.1})::[(bd,Obj.deferred (some []))])
   (fun _=>UU) (fun _=>UU) ?_ D w2 I.dom (h5 Dr hDr) ⟨g₀,h₀,hperm,h5,(fun _ h=>by cases h),(fun _ _ h=>by cases h)⟩).mono ?_)
  ·rintro pre x β Dx wx hx hdx ⟨g,hΦ,hst,hDs,hβ,hM⟩ hβs hle;have hbox:=(hst.box (l,Obj.loop G) Ye).1;refine⟨fn,_,assign,body,run_yield hbox (by simpa using hps x),?_⟩;refine(roundIn_of_wpIn (F:=FW none) bDY (R:=zA (hd wx) Dx ((M g++(l,Obj.loop G)::[(bd,Obj.deferred (some []))]).map (·.1)) (Φ (pre++[x])) (Ψ (pre++[x]))
     (fun g=>M g++(l,Obj.loop {G with state:=.ready,pending:=none})::[(bd,Obj.deferred (some []))]) (fun c g=>M g++(l,Obj.loop {G with state:=.done,pending:=some c})::[(bd,Obj.deferred (some []))])) ?_).mono ?_
   ·have hw:=hround pre x g hx hΦ l bd G (hd wx) Dx hDs rfl rfl;have ht:(ps.zip (enc x).toArray).foldl (fun tmps (t,a)=>tmps.setIfInBounds t a) a.tmps=(ps.toList.zip (enc x)).foldl (fun tmps (p:Tmp×Value)=>tmps.setIfInBounds p.1 p.2) a.tmps:=by
     rw[←Array.foldl_toList];simp
    have hpN':∀p∈ps.toList,p<a.tmps.size:=fun p hp=>by rw[h1];simpa [Nat.blt_eq]using aZN.1 hpN p hp
    refine hw {tmps:=_,defers:=[]} wx ⟨?_,fun s v hs=>?_,rfl,Dx,⟨aZL _,aZL _,fun _ _ _=>rfl,fun _ _=>rfl,hst.agr,fun p hp=>?_,hst.nd,hst.fz,fun e he=>aZO he⟩,fun D₁ hD₁=>?_,bDY⟩
    ·show((ps.zip (enc x).toArray).foldl _ a.tmps).size=X.N;rw[ht,O0];exact h1
    ·show((ps.zip (enc x).toArray).foldl _ a.tmps)[s]?= some v;rw[ht];exact N8 _ _ _ _ h2 hpN' s v hs
    ·obtain⟨p1,p2,V⟩:=hst.box p hp;exact⟨p1,p2,aYZ (GT.2 ⟨p,hp,rfl⟩)⟩
    ·rcases n4.1 hD₁ with rfl|hD₁
     ·exact Le.refl _
     ·exact hDs D₁ hD₁
   ·rintro e w' ⟨b,D',rfl,hb⟩;have fin:∀μ',iD (hd wx) wx.heap.size Dx ((M g++(l,Obj.loop G)::[(bd,Obj.deferred (some []))]).map (·.1)) μ' D' w'→iD X.h0 X.lo X.D0 [] μ' D' w'∧zK β Dx wx D' w'∧(∀D₁∈Ds,Le D₁ D')∧(∀p∈μ',p.1∉β):=by
     intro μ' hs';refine⟨hst.round hs',iD.roundHigh hst.agr hs' hβs hM,fun D₁ hD₁=>(hDs D₁ hD₁).trans (gH hst.agr hs'),fun p hp hpb=>?_⟩;rcases(hs'.box p hp).2.2 with h|h
     ·have:=hβs _ hpb;omega
     ·obtain⟨q,hq,he⟩:=GT.1 h;exact hM q hq (by rw[he];exact hpb)
    refine⟨b,D',rfl,?_⟩;cases b with
    |true=>
     obtain⟨g',hg',hs'⟩:=hb;obtain⟨f1,f2,f3,f4⟩:=fin _ hs';exact⟨f1.dom,f2,g',hg',f1,f3,hβ,f4⟩
    |false=>
     obtain⟨c',g',hg',hs'⟩:=hb;obtain⟨f1,f2,f3,f4⟩:=fin _ hs';exact⟨f1.dom,f2,(c',g'),hg',f1,f3,hβ,f4⟩
  ·rintro e w' ⟨v,D',rfl,hd,hend⟩;have post:∀(g:γ) (r:Loop),iD X.h0 X.lo X.D0 [] (M g++(l,Obj.loop r)::[(bd,Obj.deferred (some []))]) D' w'→(∀D₁∈Ds,Le D₁ D')→
     Hl (X.withDs bd) σ (M g++[(bd,Obj.deferred (some []))]) Ds {a with defers:=[mH bd]++a.defers} (w'.putObj l (.loop {r with state:=.exhausted})):=by
    intro g r hs hD';have hHas:bR (M g++(l,Obj.loop r)::[(bd,Obj.deferred (some []))]) l (.loop r) (.loop {r with state:=.exhausted}) (M g++(l,Obj.loop {r with state:=.exhausted})::[(bd,Obj.deferred (some []))]):=.app .head;have hs':=hs.set (w':=w'.putObj l (.loop {r with state:=.exhausted})) hHas ⟨rfl,rfl⟩ trivial;have hs'':=hs'.sub (μ':=M g++[(bd,Obj.deferred (some []))]) (fun p hp=>by
     rcases aZF.1 hp with hp|hp
     ·exact aYX _ hp
     ·exact GE _ (n5 _ hp)) (by
     have hn:=hs'.nd;rw[aZH,aZC]at hn ⊢
     simp only[aZR]at hn;exact⟨hn.1,(bAO.1 hn.2.1).2,fun q hq r hr=>hn.2.2 q hq r (n5 _ hr)⟩)
    exact⟨h1,h2,aYY (mH bd:: ·) h3,D',by show iD X.h0 X.lo X.D0 X.mods _ _ _;rw[hmods];exact hs'',hD',by unfold C4;show(match X.ex with|none=>True|some J=>_);rw[hex];trivial⟩
   rcases hend with⟨g,hΦ,hs,hDs,_,_⟩|⟨pre,⟨c,g⟩,hΨ,hs,hDs,_,_⟩
   ·have hb:=(hs.box (l,Obj.loop G) Ye).1;exact⟨none,_,run_endLoop hb (by simp[G]),hdone g bd hΦ _ _ (post g G hs hDs)⟩
   ·have hb:=(hs.box (l,Obj.loop {G with state:=.done,pending:=some c}) Ye).1;refine⟨some c,_,run_endLoop hb Ye,?_⟩;have:=hstop pre c g bd hΨ _ _ (post g _ hs hDs);exact this

def G0(P:Program)(fn:Func)(R:Ending→World→Prop):Exit→Act→World→Prop
 |.normal,a,w=>LeavesInM (FW none) 0 P fn a.tmps R a.defers .returning w
 |.ret,a,w=>LeavesInM (FW none) 0 P fn a.tmps R a.defers .returning w
 |_,_,_=>False
theorem GA{f:FuncId}{fn:Func}{c:Code}{args:List Value}{D:aC}{post:aC→Value→Prop}(N:Nat)(hf:P.funcs[f]?= some fn)(hn:(fn.name== "runtime.NumGoroutine")=false)(hb:fn.body=some c)(hN:fn.ntmps=N)(hsz:Nat.ble args.length N=true)
  (h:∀h0:H0,WC P ⟨none,N,[],h0,h0.size,D,[],none⟩ (G0 P fn (pL ⟨none,N,[],h0,h0.size,D,[],none⟩ fun D' v _=>post D' v)) c (iS 0 args) [] [D]):Fn P f args.toArray D post:=by
 refine⟨EF.of hf hn hb,fun w hw=>?_⟩;subst hN;have hsz:=bAZ hsz;have hq:∀e a w',G0 P fn (pL ⟨none,fn.ntmps,[],hd w,w.heap.size,D,[],none⟩ fun D' v _=>post D' v) e a w'→bodyPostM (FW none) 0 P fn (pL ⟨none,fn.ntmps,[],hd w,w.heap.size,D,[],none⟩ fun D' v _=>post D' v) e a w':=by
  intro e a w' he;cases e<;>first|exact he|exact he.elim
 have hwp:=h (hd w) {tmps:=args.toArray++Array.replicate (fn.ntmps-args.toArray.size) undef,defers:=[]} w ⟨by simp;omega,fun s v hs=>by
  obtain⟨_,h2⟩:=fQ args 0 s v hs;have hl:=(aYV.1 h2).1;simp only[bCM]at h2 hl;show(args.toArray++_)[s]?= some v;rw[bBD Yan];simpa using h2,rfl,D,⟨aZL _,aZL _,(fun _ _ _=>rfl),(fun _ _=>rfl),hw,Yi,bAV,Yi,fun e he=>aZO he⟩,(fun D₁ h1=>by simp only[aZM]at h1;subst h1;exact Le.refl _),bDY⟩
 refine(dP (r:=none) (n:=0)).1 ((callsIn_of_wp_marks hf hb bDY (wpIn_mono hwp hq) rfl).mono ?_);rintro e w' ⟨v,D',μ',rfl,hs,hp⟩;exact⟨v,D',rfl,hs.sub (by intro p hp;cases hp) bAV,hp⟩
theorem uC{fn:Func}{post:aC→Value→aD→Prop}{e:Exit}(he:(match e with|.normal=>true|.ret=>true|_=>false)=true){rs:List ResultVar}{vs:List Value}(hds:X.ds=[])(hr:fn.results=rs.toArray)(h:xT P X σ μ rs vs)
  (hp:∀D,(∀D₁∈Ds,Le D₁ D)→post D (qE vs) μ):∀a w,Hl X σ μ Ds a w→G0 P fn (pL X post) e a w:=by
 intro a w hh;have hrun:=iK hh hr h;obtain⟨h1,h2,h3,D,h4,h5,G⟩:=hh;have:LeavesInM (FW none) 0 P fn a.tmps (pL X post) a.defers .returning w:=by
  rw[h3,hds];exact⟨_,hrun,_,D,μ,rfl,h4,hp D h5⟩
 cases e<;>first|exact this|cases he
theorem xG{fn:Func}{bd:Nat}{post:aC→Value→aD→Prop}{e:Exit}(he:(match e with|.normal=>true|.ret=>true|_=>false)=true){rs:List ResultVar}{vs:List Value}{A:aD}(hds:X.ds=[])(hr:fn.results=rs.toArray)(h:xT P X σ (A++[(bd,Obj.deferred none)]) rs vs)
  (hp:∀D,(∀D₁∈Ds,Le D₁ D)→post D (qE vs) (A++[(bd,Obj.deferred none)])):∀a w,Hl (X.withDs bd) σ (A++[(bd,Obj.deferred (some []))]) Ds a w→G0 P fn (pL X post) e a w:=by
 intro a w hh;obtain⟨h1,h2,h3,D,h4,h5,G⟩:=hh;have hHas:bR (A++[(bd,Obj.deferred (some []))]) bd (.deferred (some [])) (.deferred none) (A++[(bd,Obj.deferred none)]):=.app .head;have hs:=h4.set (w':=w.putObj bd (.deferred none)) hHas ⟨rfl,rfl⟩ trivial;have hh':Hl X σ (A++[(bd,Obj.deferred none)]) Ds {a with defers:=[]} (w.putObj bd (.deferred none)):=
  ⟨h1,h2,hds.symm,D,hs,h5,G.step (X:=X.withDs bd) (fun _ p hp=>aZE Yq) (fun _=>kI ⟨rfl,rfl⟩ (GT.2 ⟨_,hHas.mem,rfl⟩)) hs.dom⟩
 have hrun:=iK hh' hr h;have hb:=(h4.box (bd,Obj.deferred (some [])) Ye).1;have:LeavesInM (FW none) 0 P fn a.tmps (pL X post) a.defers .returning w:=by
  have h3':a.defers=[mH bd]:=h3.trans (by show mH bd::X.ds=_;rw[hds]);rw[h3'];exact⟨by simp,aZE ⟨bd,_,rfl,run_takeDeferred hb,_,hrun,_,D,_,rfl,hs,hp D h5⟩⟩
 cases e<;>first|exact this|cases he

theorem CJ{α:Type}{f:FuncId}{fn:Func}{c:Code}{cap:List Value}{Dr:aC}{xs:List α}{enc:α→List Value}(N:Nat)(hf:P.funcs[f]?= some fn)(hn:(fn.name== "runtime.NumGoroutine")=false)(hb:fn.body=some c)(hN:fn.ntmps=N)(hsz:Nat.ble (cap.length+1) N=true)
  (h:∀(lo l:Nat) (J Jx:List α→tL),(∀pre,I8 lo (J pre))→(∀pre,I8 lo (Jx pre))→
   (∀pre x β D w,(∃r,xs=pre++x::r)→zF lo D w→J pre β D w→(∀b∈β,b<w.heap.size)→Le Dr D→
    iM P l (enc x) w fun b D' w'=>zF lo D' w'∧zK β D w D' w'∧(if b then J (pre++[x]) β D' w' else Jx (pre++[x]) β D' w'))→
   WC P (Xj N lo (J [])) (bodyPost P fn (Y2 lo [Dr] fun _ J' _=>J'=J xs∨∃pre,J'=Jx pre)) c (iS 0 (.func (.yield l) #[] #[]::cap)) [] [Dr]):U7 P f cap Dr xs enc:=by
 refine⟨EF.of hf hn hb,fun lo l J Jx hs hsx hY D w hd hle hJ=>?_⟩;have hF:=H7 (μ:=[]) N hf hn hb hN (by simpa using hsz) (h lo l J Jx hs hsx hY);refine(hF.2 w ⟨D,⟨Nat.zero_le _,hd.2,fun b hb=>absurd hb (bCV _),fun b hb=>absurd hb (bCV _),hd.1,Yi,bAV,Yi,fun e he=>by cases he⟩,fun D₁ h1=>?_,hs [],hJ⟩).mono ?_
 ·simp only[aZM]at h1;subst h1;exact hle
 ·rintro e w' ⟨v,J',μ',rfl,⟨D',hst,hds,hex⟩,hpost⟩;refine⟨v,D',rfl,hst.dom,?_⟩;have hJ':J' [] D' w':=hex.1.own _ [] D' w' hex.2 (fun b hb=>by cases hb);rcases hpost with rfl|⟨pre,rfl⟩
  ·exact aZE hJ'
  ·exact aYZ ⟨pre,hJ'⟩
end Go.Fs
