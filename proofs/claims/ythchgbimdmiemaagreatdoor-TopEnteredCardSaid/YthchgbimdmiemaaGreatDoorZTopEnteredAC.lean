/- Of the proof of TopEntered: Rest, Types, Spec, Row, Keys, Own, Tide, Book, BookLaw, BookEnds, Bits, Yard, Many. -/
import Derived.Test.YthchgbimdmiemaaGreatDoorZTopEnteredAB
import Derived.Test.YthchgbimdmiemaaGreatDoorProg
import Derived.Test.YthchgbimdmiemaaGreatDoorZTopEnteredAA
import Derived.ChangeKeysEq
namespace Go.Fs
variable{P:Program}{X:Cx}{γb:Type}[Membership Nat γb]{bad:γb}{all:Array Oper}{K:Act→World→Prop}{Q:Exit→Act→World→Prop}
variable{σ:bF}{μ:aB}{Ds:List aA}{os:List (Bool×Nat)}{fl:Bool}{ix:Nat}
variable{d:Nat}{x y z:Operand}{u v:Value}{ty:TypeId}{pos:String}{aft:Array Edge}{g:Option (Nat×Bool)}
theorem HP{t e:TypeId}{n b:Nat}(ho:all[ix]?= some ⟨some d,.slice t x none none none,ty,pos,aft,g⟩)(ht:P.underlying t=some (.array n e))(hs:TS P e 1)(hx:ev σ x=some (.pointer (some ⟨b,0,none⟩)))
  (hN:Nat.blt d X.N=true) (hg:cR all σ g) (kk:WL P X bad all K Q os ((d,.slice (some ⟨b,0,none⟩) n n)::σ) μ Ds):WL P X bad all K Q ((fl,ix)::os) σ μ Ds:=
 bD ho rfl rfl hN hg (fun ρ hρ w'=>by
  simp only[execOp,hρ x _ hx,Option.map_none];unfold Instr.sliceAt Instr.sureAddr Instr.sliceBounds;simp only[Sem.run_bind,TU.of ht w',Result.andThen_ok,hs w',Sem.run_pure,pure_bind,Nat.zero_mul,Nat.sub_zero];split<;>simp[Addr.add]) kk
theorem EL{k k':IntKind}{s t:TypeId}{n:Int}(ho:all[ix]?= some ⟨some d,.convert s t x,ty,pos,aft,g⟩)(hr:∀w,(Go.convert s t (.int k n)).run P w=.ok (.int k' n) w)(hx:ev σ x=some (.int k n))(hN:Nat.blt d X.N=true)(hg:cR all σ g)
  (kk:WL P X bad all K Q os ((d,.int k' n)::σ) μ Ds):WL P X bad all K Q ((fl,ix)::os) σ μ Ds:=
 bD ho rfl rfl hN hg (fun ρ hρ w'=>by simp only[execOp,hρ x _ hx,Sem.run_bind,hr w',Result.andThen_ok,Sem.run_pure]) kk
theorem uE{t t':TypeId}{b:Bool}(ho:all[ix]?= some ⟨some d,.binOp .eql t x y t',ty,pos,aft,g⟩)(hr:∀w,((do eqGuard .eql t x y u v;binOp .eql t u v):Sem Value).run P w=.ok (.bool b) w)(hx:ev σ x=some u)(hy:ev σ y=some v)(hN:Nat.blt d X.N=true)(hg:cR all σ g)
  (kk:WL P X bad all K Q os ((d,.bool b)::σ) μ Ds):WL P X bad all K Q ((fl,ix)::os) σ μ Ds:=
 bD ho rfl rfl hN hg (fun ρ hρ w'=>by simp only[execOp,hρ x _ hx,hρ y _ hy];rw[Sem.run_bind,hr w'];rfl) kk
theorem l9{t t':TypeId}{b:Bool}(ho:all[ix]?= some ⟨some d,.binOp .neq t x y t',ty,pos,aft,g⟩)(hr:∀w,((do eqGuard .neq t x y u v;binOp .neq t u v):Sem Value).run P w=.ok (.bool b) w)(hx:ev σ x=some u)(hy:ev σ y=some v)(hN:Nat.blt d X.N=true)(hg:cR all σ g)
  (kk:WL P X bad all K Q os ((d,.bool b)::σ) μ Ds):WL P X bad all K Q ((fl,ix)::os) σ μ Ds:=
 bD ho rfl rfl hN hg (fun ρ hρ w'=>by simp only[execOp,hρ x _ hx,hρ y _ hy];rw[Sem.run_bind,hr w'];rfl) kk
theorem pI{t:TypeId}{a b:Bool}(ht:P.underlying t=some .bool)(w:World):(Op.equal t (.bool a) (.bool b)).run P w=.ok (a==b) w:=by
 have h:(Op.equalIn (9999+1) t (.bool a) (.bool b)).run P w=.ok (a==b) w:=by
  rw[Op.equalIn,Sem.run_bind,TU.of ht w];rfl
 exact h
theorem RE{t t':TypeId}{a b:Bool}(ho:all[ix]?= some ⟨some d,.binOp .eql t x y t',ty,pos,aft,g⟩)(ht:P.underlying t=some .bool)(hx:ev σ x=some (.bool a))(hy:ev σ y=some (.bool b))(hN:Nat.blt d X.N=true)(hg:cR all σ g)
  (kk:WL P X bad all K Q os ((d,.bool (a==b))::σ) μ Ds):WL P X bad all K Q ((fl,ix)::os) σ μ Ds:=
 uE ho (fun w=>by
  have hg:(eqGuard .eql t x y (.bool a) (.bool b)).run P w=.ok () w:=rfl;rw[Sem.run_bind,hg];show((do Pure.pure (Value.bool (←Op.equal t (.bool a) (.bool b)))):Sem Value).run P w=_;rw[Sem.run_bind,pI ht];rfl) hx hy hN hg kk
theorem JZ{t t':TypeId}{a b:Bool}(ho:all[ix]?= some ⟨some d,.binOp .neq t x y t',ty,pos,aft,g⟩)(ht:P.underlying t=some .bool)(hx:ev σ x=some (.bool a))(hy:ev σ y=some (.bool b))(hN:Nat.blt d X.N=true)(hg:cR all σ g)
  (kk:WL P X bad all K Q os ((d,.bool (!(a==b)))::σ) μ Ds):WL P X bad all K Q ((fl,ix)::os) σ μ Ds:=
 l9 ho (fun w=>by
  have hg:(eqGuard .neq t x y (.bool a) (.bool b)).run P w=.ok () w:=rfl;rw[Sem.run_bind,hg];show((do Pure.pure (Value.bool (!(←Op.equal t (.bool a) (.bool b))))):Sem Value).run P w=_;rw[Sem.run_bind,pI ht];rfl) hx hy hN hg kk
theorem AO{n:Nat}(h:∀a w,Hl X σ μ Ds a w→Q .normal a w):WC P X Q (.label n) σ μ Ds:=fun a w hh=>wpIn_label (h a w hh)
theorem T6{t e:TypeId}{n:Nat}{l:List Int}{k:IntKind}{i m:Int}(ho:all[ix]?= some ⟨some d,.index t x y,ty,pos,aft,g⟩)(ht:P.underlying t=some (.array n e))(ha:TA P e false)(hs:TS P e 1)(hx:ev σ x=some (.agg (ints l).toArray))(hy:ev σ y=some (.int k i))(h0:0≤i)(h1:i<n)(hm:l[i.toNat]?= some m)
  (hN:Nat.blt d X.N=true) (hg:cR all σ g) (kk:WL P X bad all K Q os ((d,.int .i64 m)::σ) μ Ds):WL P X bad all K Q ((fl,ix)::os) σ μ Ds:=
 bD ho rfl rfl hN hg (fun ρ hρ w'=>by
  have hg:(ints l).toArray[i.toNat]?= some (.int .i64 m):=by simpa using cJ hm
  simp only[execOp,hρ x _ hx,hρ y _ hy];unfold Instr.index asIntOf part;simp only[Sem.run_bind,TU.of ht w',Result.andThen_ok,hs w',ha w',Sem.run_pure,pure_bind,h0,h1,and_self,if_true,Nat.mul_one,Bool.false_eq_true,if_false,hg]) kk
theorem eG(l m:List Int):ints l++ints m=ints (l++m):=by simp[ints]
theorem MA{t f k ft:Nat}{cs:List Value}{fs:Array Field}(ho:all[ix]?= some ⟨some d,.field t x f,ty,pos,aft,g⟩)(ht:P.underlying t=some (.struct fs))(hk:(fs[f]?).map (fun f=>(f.offset,f.type))=some (k,ft))(ha:TA P ft false)(hx:ev σ x=some (.agg cs.toArray))(hv:cs[k]?= some v)
  (hN:Nat.blt d X.N=true) (hg:cR all σ g) (kk:WL P X bad all K Q os ((d,v)::σ) μ Ds):WL P X bad all K Q ((fl,ix)::os) σ μ Ds:=
 bD ho rfl rfl hN hg (fun ρ hρ w'=>by
  cases hf:fs[f]? with
  |none=>simp[hf]at hk
  |some f0=>
   simp only[hf,Option.map_some,Option.some.injEq,Prod.mk.injEq]at hk;obtain⟨rfl,rfl⟩:=hk;have hv':cs.toArray[f0.offset]?= some v:=by simpa using hv
   simp only[execOp,hρ x _ hx];unfold Instr.field asAgg part;simp only[Sem.run_bind,TU.of ht w',Result.andThen_ok,hf,ha w',Sem.run_pure,pure_bind,Bool.false_eq_true,if_false,hv']) kk
theorem fC{t:TypeId}{D₁:aA}{b k:Nat}{cs:List Value}(ho:all[ix]?= some ⟨some d,.load t x,ty,pos,aft,g⟩)(ha:TA P t false)(hx:ev σ x=some (.pointer (some ⟨b,k,none⟩)))(hA:At D₁ b 0 cs)(hD:D₁∈Ds)(hv:cs[k]?= some v)(hb:b∉bad)
  (hN:Nat.blt d X.N=true) (hg:cR all σ g) (kk:WL P X bad all K Q os ((d,v)::σ) μ Ds):WL P X bad all K Q ((fl,ix)::os) σ μ Ds:=
 bP (o:=0) (k:=k) ho ha (by rw[Nat.zero_add];exact hx) hA hD hv hb hN hg kk
theorem L5{γ:Type}{c:Code}{N lo:Nat}{J0:oU}(m:γ→Nat)(I:γ→Prop)(J:γ→oU)(ch:γ→bF)(rest:bF)(M:γ→aB)(E:γ→List aA)(g₀:γ)(h₀:I g₀)(hJ:J0=J g₀)(hch:J6 σ (ch g₀))(hrest:J6 σ rest)(hμ:(M g₀).Sublist μ)(hD:∀D∈E g₀,∃D'∈Ds,Le D D')
  (round:∀g,I g→WC P (Xj N lo (J g)) (Exit.then (fun a w=>∃g',I g'∧m g'<m g∧Hl (Xj N lo (J g')) (ch g'++rest) (M g') (E g') a w) Q) c (ch g++rest) (M g) (E g)):WC P (Xj N lo J0) Q (.loop c) σ μ Ds:=by
 subst hJ
 let p:Act→World→Nat→Prop:=fun a w n=>∃g,I g∧m g=n∧Hl (Xj N lo (J g)) (ch g++rest) (M g) (E g) a w
 have ex:∀a w,(∃n,p a w n)→∃n,p a w n∧∀k,p a w k→n≤k:=by
  intro a w ⟨n,hn⟩;induction n using Nat.strongRecOn with
  |_ n ih=>
   by_cases h:∃k,k<n∧p a w k
   ·obtain⟨k,hk,hp⟩:=h;exact ih k hk hp
   ·exact⟨n,hn,fun k hk=>Nat.le_of_not_lt fun hl=>h ⟨k,hl,hk⟩⟩
 intro a w hh;refine wpIn_loop (fun a w=>∃n,p a w n) (fun a w=>open Classical in if h:∃n,p a w n then(ex a w h).choose else 0) ⟨_,g₀,h₀,rfl,hh.weak (J6.app hch hrest) hμ hD⟩ ?_;intro a w hI;obtain⟨⟨g,hg,hm,hst⟩,hmin⟩:=(ex a w hI).choose_spec;refine wpIn_mono (round g hg a w hst) fun e a' w' hq=>?_
 cases e with
 |normal=>
  obtain⟨g',hg',hlt,hst'⟩:=hq;have hI':∃n,p a' w' n:=⟨_,g',hg',rfl,hst'⟩
  refine⟨hI',?_⟩;simp only[dif_pos hI',dif_pos hI];have:=(ex a' w' hI').choose_spec.2 _ ⟨g',hg',rfl,hst'⟩;omega
 |_=>exact hq
theorem pP{γ:Type}{N lo:Nat}{J1:oU}{m:γ→Nat}{I:γ→Prop}{J:γ→oU}{ch:γ→bF}{rest:bF}{M:γ→aB}{E:γ→List aA}{g:γ}(n:Nat)(g':γ)(h1:I g')(h2:m g'<m g)(hJ:J1=J g')(hch:J6 σ (ch g'))(hn:tI n σ=true)(hr:σ.drop n=rest)(hμ:(M g').Sublist μ)(hD:∀D∈E g',∃D'∈Ds,Le D D'):
  ∀a w,Hl (Xj N lo J1) σ μ Ds a w→Exit.then (fun a w=>∃g',I g'∧m g'<m g∧Hl (Xj N lo (J g')) (ch g'++rest) (M g') (E g') a w) Q .normal a w:=by
 subst hJ;intro a w hh;refine⟨g',h1,h2,?_⟩;have h3:=hh.weak (σ':=ch g') hch hμ hD;refine⟨h3.1,fun s v hs=>?_,h3.2.2⟩;rcases uU hs with hs|hs
 ·exact h3.2.1 s v hs
 ·subst hr;exact hh.2.1 s v (qE n σ hn s v hs)
theorem W4{J J1 J0:oU}{l N lo:Nat}{c:Operand}{xs:Array Operand}{ats:Array TypeId}{vs:List Value}(ho:all[ix]?= some ⟨some d,.call {callee:=.value c,args:=xs,argTypes:=ats},ty,pos,aft,g⟩)
  (hc:ev σ c=some (.func (.yield l) #[] #[])) (hxs:zJ σ xs.toList=some vs) (hfl:fl=false) (hs1:vS lo J1) (hs0:vS lo J0)
  (hY:∀D w,uS lo D w→J (μ.map (·.1)) D w→(∀p∈μ,p.1<w.heap.size)→(∀D₁∈Ds,Le D₁ D)→gH P l vs w fun b D' w'=>uS lo D' w'∧uK (μ.map (·.1)) D w D' w'∧(if b then J1 (μ.map (·.1)) D' w' else J0 (μ.map (·.1)) D' w'))
  (hN:Nat.blt d N=true) (hg:cR all σ g)
  (kk:∀b J',J'=(if b=true then J1 else J0)→WL P (Xj N lo J') bad all K Q os ((d,.bool b)::σ) μ Ds):WL P (Xj N lo J) bad all K Q ((fl,ix)::os) σ μ Ds:=
 LW (X:=Xj N lo J) ho hc hxs rfl hfl rfl rfl hs1 hs0 hY hN hg (kk true J1 rfl) (kk false J0 rfl)
theorem oM{c:Code}(k:(μ.map (·.1)).Nodup→WC P X Q c σ μ Ds):WC P X Q c σ μ Ds:=fun a w hh=>k (by obtain⟨_,_,_,D,h4,_⟩:=hh;exact h4.nd) a w hh
theorem bL{t:TypeId}{b n:Nat}{vs us:List Value}{e:TypeId}{μ':aB}(ho:all[ix]?= some ⟨none,.store t x y,ty,pos,aft,g⟩)(hx:ev σ x=some (.pointer (some ⟨b,0,none⟩)))(hy:ev σ y=some v)(hv:v.cells=us.toArray)(hs:TS P t n)
  (hn:us.length=n) (hl:vs.length=n) (hm:cY μ b (.cells vs.toArray e (0,0)) (.cells us.toArray e (0,0)) μ') (hc1:∀u∈us,cell1 u=true) (hg:cR all σ g)
  (kk:WL P X bad all K Q os σ μ' Ds):WL P X bad all K Q ((false,ix)::os) σ μ Ds:=
 aT ho hx hy hv (by rw[hn];exact hs) hm Yd (by rw[List.take_zero,Nat.zero_add,List.drop_eq_nil_of_le Yd];simp) hc1 hg kk
theorem _root_.Go.Fs.Zs{t:TypeId}{b:Nat}{n:Nat}{vs:List Value}{us:List Value}{e:TypeId}{μ':aB}(e9:(all[ix]?,ev σ x,ev σ y,v.cells)=(some ⟨none,.store t x y,ty,pos,aft,g⟩,some (.pointer (some ⟨b,0,none⟩)),some v,us.toArray))(hs:TS P t n)(hm:cY μ b (.cells vs.toArray e (0,0)) (.cells us.toArray e (0,0)) μ')(kk:WL P X bad all K Q os σ μ' Ds)(hn:us.length=n:=by exact Ya)(hl:vs.length=n:=by exact Ya)(hc1:∀u∈us,cell1 u=true:=by exact Yi)(hg:cR all σ g:=by exact trivial):WL P X bad all K Q ((false,ix)::os) σ μ Ds:=bL (congrArg (fun z=>z.1) e9) (congrArg (fun z=>z.2.1) e9) (congrArg (fun z=>z.2.2.1) e9) (congrArg (fun z=>z.2.2.2) e9) hs hn hl hm hc1 hg kk
theorem dH{t e tr e':TypeId}{n sz:Nat}{cells:List Value}{ν:aB}{ats:Array TypeId}(ho:all[ix]?= some ⟨some d,.call {callee:=.builtin .len,args:=#[x],argTypes:=ats},tr,pos,aft,g⟩)(ht:P.underlying t=some (.slice e))(hx:ev σ x=some v)(hS:bC e' sz v n cells ν)(hat:ats[0]?= some t)
  (hN:Nat.blt d X.N=true) (hg:cR all σ g) (kk:WL P X bad all K Q os ((d,.int .i64 (n:Int))::σ) μ Ds):
  WL P X bad all K Q ((fl,ix)::os) σ μ Ds:=
 bD ho rfl rfl hN hg (fun ρ hρ w'=>by
  have hx':=hρ x _ hx;rcases hS with⟨a,rfl,rfl,_⟩|⟨b,cap,junk,rfl,_⟩
  ·simp[Builtin.len_,hat,hx',Sem.run_bind,TU.of ht w',goInt,Sem.run_pure,go_sem]
  ·simp[Builtin.len_,hat,hx',Sem.run_bind,TU.of ht w',goInt,Sem.run_pure,go_sem]) kk
theorem Hl.dropBoxes{a:Act}{w:World}(n:Nat)(h:Hl X σ μ Ds a w):Hl X σ (μ.drop n) Ds a w:=by
 obtain⟨h1,h2,h3,D,h4,h5,h6⟩:=h;have hμ:(μ.drop n).Sublist μ:=List.drop_sublist n μ;exact⟨h1,h2,h3,D,h4.sub (fun p hp=>hμ.mem hp) ((hμ.map (·.1)).nodup h4.nd),h5,h6.step (fun _ p hp=>Or.inl (List.mem_map.2 ⟨p,hμ.mem hp,rfl⟩)) (fun _=>LU.refl _ _ _) h4.dom⟩
theorem bC.cells1{e:TypeId}{sz n:Nat}{cells:List Value}{ν:aB}(h:bC e sz v n cells ν):v.cells=[v].toArray:=by
 rcases h with⟨a,rfl,_⟩|⟨b,cap,junk,rfl,_⟩<;>rfl
theorem bC.cell1{e:TypeId}{sz n:Nat}{cells:List Value}{ν:aB}(h:bC e sz v n cells ν):∀u∈[v],Fs.cell1 u=true:=by
 rcases h with⟨a,rfl,_⟩|⟨b,cap,junk,rfl,_⟩<;>simp[Fs.cell1]

theorem iB{b:Frame}{a:Act}{k:List Item}{cs:List Frame}{w:World}{c:Code}:step P (lone (b.atR a (.code (.scope c)::k)) cs w)=.next (lone (b.atR a (.code c::.inScope c::k)) cs w):=
 step_lone_go (by simp[stepG,stepG.exec,Frame.atR])
theorem yL{b:Frame}{a:Act}{k:List Item}{cs:List Frame}{w:World}{c:Code}:step P (lone (b.atR a (.inScope c::k)) cs w)=.next (lone (b.atR a k) cs w):=
 step_lone_go (by simp[stepG,stepG.exec,Frame.atR])
def j4(Q:Exit→Act→World→Prop):Exit→Act→World→Prop
 |.goto _,_,_=>False
 |e,a,w=>Q e a w
theorem U0{F:Fence}{n:Nat}{c:Code}{a:Act}{w:World}(h:c.wpIn F n P (j4 Q) a w):(Code.scope c).wpIn F n P Q a w:=by
 intro b k cs hro hb hr;have h0:(lone (b.atR a (.code (.scope c)::k)) cs w).fenced P F:=fenced_calm hb hr rfl;obtain⟨e,a₁,w₁,hq,harr⟩:=h b (.inScope c::k) cs hro hb hr;cases e with
 |normal=>exact⟨.normal,a₁,w₁,hq,.head h0 iB (StepsIn.trans harr (.one (fenced_calm hb hr rfl) yL))⟩
 |exit id'=>
  have hx:exitTo id' (.inScope c::k)=exitTo id' k:=by simp[exitTo]
  exact⟨.exit id',a₁,w₁,hq,fun k' hk=>.head h0 iB (harr.1 k' (by rw[hx];exact hk)),
   fun hr' hk=>let ⟨k₁,h1,h2⟩:=harr.2 hr' (by rw[hx];exact hk);⟨k₁,h1,.head h0 iB h2⟩⟩
 |goto l=>exact hq.elim
 |ret=>exact⟨_,a₁,w₁,hq,.of_steps (.one h0 iB) harr⟩
 |panic ch=>exact⟨_,a₁,w₁,hq,.of_steps (.one h0 iB) harr⟩
 |outgrown=>exact⟨_,a₁,w₁,hq,.of_steps (.one h0 iB) harr⟩
theorem OK{c:Code}(h:WC P X (j4 Q) c σ μ Ds):WC P X Q (.scope c) σ μ Ds:=fun a w hh=>U0 (h a w hh)
theorem oF(h:∀a w,Hl X σ μ Ds a w→Q .normal a w):∀a w,Hl X σ μ Ds a w→j4 Q .normal a w:=h
theorem aI(μ':aB)(h:μ=μ')(k:WL P X bad all K Q os σ μ' Ds):WL P X bad all K Q os σ μ Ds:=h▸k
theorem BA{c:Code}(μ':aB)(h:μ=μ')(k:WC P X Q c σ μ' Ds):WC P X Q c σ μ Ds:=h▸k
theorem G4{a b:Value}(ha:∀u∈[a],cell1 u=true)(hb:∀u∈[b],cell1 u=true):∀u∈[a,b],cell1 u=true:=by
 intro u hu;rcases List.mem_cons.1 hu with rfl|hu
 ·exact ha _ List.mem_cons_self
 ·exact hb _ hu
theorem sN{p q:Nat×Obj}{A B C:aB}:p::q::(A++(B++C))=(p::q::A)++B++C:=by simp
theorem Sl.cell1{α:Type}{R:Rd α}{D:aA}{sz:Nat}{v:Value}{xs:List α}(h:Sl D R sz v xs):∀u∈[v],Fs.cell1 u=true:=by
 obtain⟨a,cap,rfl,_⟩:=h;simp[Fs.cell1]
end Go.Fs
namespace Go.Fs
open Go.Proofs
namespace Tf
theorem follows:Tryz.prog.follows .mixedOrders=true:=by kernel_rfl
theorem _root_.Go.Fs.U3:type_of% Tryz.underlying3:=Tryz.underlying3
theorem _root_.Go.Fs.U4:type_of% Tryz.underlying4:=Tryz.underlying4
theorem _root_.Go.Fs.U5:type_of% Tryz.underlying5:=Tryz.underlying5
theorem _root_.Go.Fs.U9:type_of% Tryz.underlying9:=Tryz.underlying9
theorem _root_.Go.Fs.U20:type_of% Tryz.underlying20:=Tryz.underlying20
theorem _root_.Go.Fs.U22:type_of% Tryz.underlying22:=Tryz.underlying22
theorem _root_.Go.Fs.U25:type_of% Tryz.underlying25:=Tryz.underlying25
theorem _root_.Go.Fs.U26:type_of% Tryz.underlying26:=Tryz.underlying26
theorem _root_.Go.Fs.U29:type_of% Tryz.underlying29:=Tryz.underlying29
theorem _root_.Go.Fs.U30:type_of% Tryz.underlying30:=Tryz.underlying30
theorem _root_.Go.Fs.U33:type_of% Tryz.underlying33:=Tryz.underlying33
theorem _root_.Go.Fs.U34:type_of% Tryz.underlying34:=Tryz.underlying34
theorem _root_.Go.Fs.U37:type_of% Tryz.underlying37:=Tryz.underlying37
theorem _root_.Go.Fs.U38:type_of% Tryz.underlying38:=Tryz.underlying38
theorem _root_.Go.Fs.U43:type_of% Tryz.underlying43:=Tryz.underlying43
theorem _root_.Go.Fs.U55:type_of% Tryz.underlying55:=Tryz.underlying55
theorem _root_.Go.Fs.U87:type_of% Tryz.underlying87:=Tryz.underlying87
theorem _root_.Go.Fs.U90:type_of% Tryz.underlying90:=Tryz.underlying90
theorem _root_.Go.Fs.U115:type_of% Tryz.underlying115:=Tryz.underlying115
theorem _root_.Go.Fs.U120:type_of% Tryz.underlying120:=Tryz.underlying120
theorem _root_.Go.Fs.U146:type_of% Tryz.underlying146:=Tryz.underlying146
theorem _root_.Go.Fs.U163:type_of% Tryz.underlying163:=Tryz.underlying163
theorem _root_.Go.Fs.U167:type_of% Tryz.underlying167:=Tryz.underlying167
theorem _root_.Go.Fs.U170:type_of% Tryz.underlying170:=Tryz.underlying170
theorem _root_.Go.Fs.U171:type_of% Tryz.underlying171:=Tryz.underlying171
theorem _root_.Go.Fs.U177:type_of% Tryz.underlying177:=Tryz.underlying177
theorem _root_.Go.Fs.U188:type_of% Tryz.underlying188:=Tryz.underlying188
theorem _root_.Go.Fs.U205:type_of% Tryz.underlying205:=Tryz.underlying205
theorem _root_.Go.Fs.U211:type_of% Tryz.underlying211:=Tryz.underlying211
theorem _root_.Go.Fs.U213:type_of% Tryz.underlying213:=Tryz.underlying213
theorem _root_.Go.Fs.U224:type_of% Tryz.underlying224:=Tryz.underlying224
theorem _root_.Go.Fs.U230:type_of% Tryz.underlying230:=Tryz.underlying230
theorem _root_.Go.Fs.U277:type_of% Tryz.underlying277:=Tryz.underlying277
theorem a3:TA Tryz.prog 3 false:=TA.of Tryz.underlying3 _ rfl
theorem s3:TS Tryz.prog 3 1:=TS.of Yg
theorem z3:TZ Tryz.prog 3 (.int .i64 0):=TZ.of Yg
theorem i3:(Tryz.prog.info? 3).map (fun i=>Nat.ble 1 i.bytes&&Nat.ble i.bytes 4096)=some true:=by kernel_rfl
theorem a4:TA Tryz.prog 4 false:=TA.of Tryz.underlying4 _ rfl
theorem s4:TS Tryz.prog 4 1:=TS.of Yg
theorem z4:TZ Tryz.prog 4 (.bool false):=TZ.of Yg
theorem s5:TS Tryz.prog 5 1:=TS.of Yg
theorem z5:TZ Tryz.prog 5 (.int .u8 0):=TZ.of Yg
theorem a9:TA Tryz.prog 9 false:=TA.of Tryz.underlying9 _ rfl
theorem s9:TS Tryz.prog 9 1:=TS.of Yg
theorem i9:(Tryz.prog.info? 9).map (fun i=>Nat.ble 1 i.bytes&&Nat.ble i.bytes 4096)=some true:=by kernel_rfl
theorem a25:TA Tryz.prog 25 false:=TA.of Tryz.underlying25 _ rfl
theorem s25:TS Tryz.prog 25 1:=TS.of Yg
theorem z25:TZ Tryz.prog 25 (.slice none 0 0):=TZ.of Yg
theorem a26:TA Tryz.prog 26 false:=TA.of Tryz.underlying26 _ rfl
theorem s26:TS Tryz.prog 26 1:=TS.of Yg
theorem a28:TA Tryz.prog 28 true:=TA.of Tryz.underlying28 _ rfl
theorem s28:TS Tryz.prog 28 4:=TS.of Yg
theorem f28_0:TF Tryz.prog 28 0 0:=TF.of Tryz.underlying28 rfl s25 rfl
theorem f28_1:TF Tryz.prog 28 1 1:=TF.of Tryz.underlying28 rfl s26 rfl
theorem f28_2:TF Tryz.prog 28 2 2:=TF.of Tryz.underlying28 rfl s3 rfl
theorem f28_3:TF Tryz.prog 28 3 3:=TF.of Tryz.underlying28 rfl s3 rfl
theorem a29:TA Tryz.prog 29 false:=TA.of Tryz.underlying29 _ rfl
theorem s29:TS Tryz.prog 29 1:=TS.of Yg
theorem a30:TA Tryz.prog 30 false:=TA.of Tryz.underlying30 _ rfl
theorem s30:TS Tryz.prog 30 1:=TS.of Yg
theorem a32:TA Tryz.prog 32 true:=TA.of Tryz.underlying32 _ rfl
theorem s32:TS Tryz.prog 32 5:=TS.of Yg
theorem f32_0:TF Tryz.prog 32 0 0:=TF.of Tryz.underlying32 rfl s3 rfl
theorem f32_1:TF Tryz.prog 32 1 1:=TF.of Tryz.underlying32 rfl s29 rfl
theorem f32_2:TF Tryz.prog 32 2 2:=TF.of Tryz.underlying32 rfl s3 rfl
theorem f32_3:TF Tryz.prog 32 3 3:=TF.of Tryz.underlying32 rfl s25 rfl
theorem f32_4:TF Tryz.prog 32 4 4:=TF.of Tryz.underlying32 rfl s30 rfl
theorem a33:TA Tryz.prog 33 false:=TA.of Tryz.underlying33 _ rfl
theorem s33:TS Tryz.prog 33 1:=TS.of Yg
theorem a34:TA Tryz.prog 34 false:=TA.of Tryz.underlying34 _ rfl
theorem s34:TS Tryz.prog 34 1:=TS.of Yg
theorem a36:TA Tryz.prog 36 true:=TA.of Tryz.underlying36 _ rfl
theorem s36:TS Tryz.prog 36 5:=TS.of Yg
theorem f36_0:TF Tryz.prog 36 0 0:=TF.of Tryz.underlying36 rfl s3 rfl
theorem f36_1:TF Tryz.prog 36 1 1:=TF.of Tryz.underlying36 rfl s3 rfl
theorem f36_2:TF Tryz.prog 36 2 2:=TF.of Tryz.underlying36 rfl s3 rfl
theorem f36_3:TF Tryz.prog 36 3 3:=TF.of Tryz.underlying36 rfl s33 rfl
theorem f36_4:TF Tryz.prog 36 4 4:=TF.of Tryz.underlying36 rfl s34 rfl
theorem a37:TA Tryz.prog 37 false:=TA.of Tryz.underlying37 _ rfl
theorem s37:TS Tryz.prog 37 1:=TS.of Yg
theorem a38:TA Tryz.prog 38 false:=TA.of Tryz.underlying38 _ rfl
theorem s38:TS Tryz.prog 38 1:=TS.of Yg
theorem a40:TA Tryz.prog 40 true:=TA.of Tryz.underlying40 _ rfl
theorem s40:TS Tryz.prog 40 3:=TS.of Yg
theorem f40_0:TF Tryz.prog 40 0 0:=TF.of Tryz.underlying40 rfl s37 rfl
theorem f40_1:TF Tryz.prog 40 1 1:=TF.of Tryz.underlying40 rfl s3 rfl
theorem f40_2:TF Tryz.prog 40 2 2:=TF.of Tryz.underlying40 rfl s38 rfl
theorem a42:TA Tryz.prog 42 true:=TA.of Tryz.underlying42 _ rfl
theorem s42:TS Tryz.prog 42 17:=TS.of Yg
theorem z42:TZ Tryz.prog 42 (.agg #[.slice none 0 0,.slice none 0 0,.int .i64 0,.int .i64 0,.int .i64 0,.slice none 0 0,.int .i64 0,.slice none 0 0,.slice none 0 0,.int .i64 0,.int .i64 0,.int .i64 0,.slice none 0 0,.slice none 0 0,.slice none 0 0,.int .i64 0,.slice none 0 0]):=TZ.of Yg
theorem p42:TP Tryz.prog 42 [(0,4),(4,5),(9,5),(14,3)]:=TP.of Tryz.underlying42 Yg Yg
theorem f42_0:TF Tryz.prog 42 0 0:=TF.of Tryz.underlying42 rfl s28 rfl
theorem f42_1:TF Tryz.prog 42 1 4:=TF.of Tryz.underlying42 rfl s32 rfl
theorem f42_2:TF Tryz.prog 42 2 9:=TF.of Tryz.underlying42 rfl s36 rfl
theorem f42_3:TF Tryz.prog 42 3 14:=TF.of Tryz.underlying42 rfl s40 rfl
theorem a44:TA Tryz.prog 44 false:=TA.of Tryz.underlying44 _ rfl
theorem s44:TS Tryz.prog 44 1:=TS.of Yg
theorem z44:TZ Tryz.prog 44 (.int .i64 0):=TZ.of Yg
theorem i44:(Tryz.prog.info? 44).map (fun i=>Nat.ble 1 i.bytes&&Nat.ble i.bytes 4096)=some true:=by kernel_rfl
theorem a55:TA Tryz.prog 55 true:=TA.of Tryz.underlying55 _ rfl
theorem s55:TS Tryz.prog 55 2:=TS.of Yg
theorem z55:TZ Tryz.prog 55 (.agg #[.int .i64 0,.int .i64 0]):=TZ.of Yg
theorem i55:(Tryz.prog.info? 55).map (fun i=>Nat.ble 1 i.bytes&&Nat.ble i.bytes 4096)=some true:=by kernel_rfl
theorem p55:TP Tryz.prog 55 [(0,1),(1,1)]:=TP.of Tryz.underlying55 Yg Yg
theorem f55_0:TF Tryz.prog 55 0 0:=TF.of Tryz.underlying55 rfl s3 rfl
theorem f55_1:TF Tryz.prog 55 1 1:=TF.of Tryz.underlying55 rfl s3 rfl
theorem a56:TA Tryz.prog 56 true:=TA.of Tryz.underlying56 _ rfl
theorem s56:TS Tryz.prog 56 2:=TS.of Yg
theorem z56:TZ Tryz.prog 56 (.agg #[.int .i64 0,.int .i64 0]):=TZ.of Yg
theorem p56:TP Tryz.prog 56 [(0,1),(1,1)]:=TP.of Tryz.underlying56 Yg Yg
theorem f56_0:TF Tryz.prog 56 0 0:=TF.of Tryz.underlying56 rfl s3 rfl
theorem f56_1:TF Tryz.prog 56 1 1:=TF.of Tryz.underlying56 rfl s3 rfl
theorem a69:TA Tryz.prog 69 true:=TA.of Tryz.underlying69 _ rfl
theorem s69:TS Tryz.prog 69 2:=TS.of Yg
theorem z69:TZ Tryz.prog 69 (.agg #[.int .i64 0,.int .i64 0]):=TZ.of Yg
theorem i69:(Tryz.prog.info? 69).map (fun i=>Nat.ble 1 i.bytes&&Nat.ble i.bytes 4096)=some true:=by kernel_rfl
theorem p69:TP Tryz.prog 69 [(0,1),(1,1)]:=TP.of Tryz.underlying69 Yg Yg
theorem f69_0:TF Tryz.prog 69 0 0:=TF.of Tryz.underlying69 rfl s3 rfl
theorem f69_1:TF Tryz.prog 69 1 1:=TF.of Tryz.underlying69 rfl s3 rfl
theorem a84:TA Tryz.prog 84 false:=TA.of Tryz.underlying84 _ rfl
theorem s84:TS Tryz.prog 84 1:=TS.of Yg
theorem z84:TZ Tryz.prog 84 (.pointer none):=TZ.of Yg
theorem a87:TA Tryz.prog 87 false:=TA.of Tryz.underlying87 _ rfl
theorem s87:TS Tryz.prog 87 1:=TS.of Yg
theorem z89:TZ Tryz.prog 89 (.agg #[.slice none 0 0,.slice none 0 0,.int .i64 0,.int .i64 0,.slice none 0 0]):=TZ.of Yg
theorem p89:TP Tryz.prog 89 [(0,4),(4,1)]:=TP.of Tryz.underlying89 Yg Yg
theorem f89_1:TF Tryz.prog 89 1 4:=TF.of Tryz.underlying89 rfl s87 rfl
theorem a90:TA Tryz.prog 90 true:=TA.of Tryz.underlying90 _ rfl
theorem s90:TS Tryz.prog 90 2:=TS.of Yg
theorem z90:TZ Tryz.prog 90 (.agg #[.slice none 0 0,.slice none 0 0]):=TZ.of Yg
theorem a92:TA Tryz.prog 92 false:=TA.of Tryz.underlying92 _ rfl
theorem s92:TS Tryz.prog 92 1:=TS.of Yg
theorem z95:TZ Tryz.prog 95 (.agg #[.nilFunc]):=TZ.of Yg
theorem p95:TP Tryz.prog 95 [(0,1)]:=TP.of Tryz.underlying95 Yg Yg
theorem f95_0:TF Tryz.prog 95 0 0:=TF.of Tryz.underlying95 rfl s92 rfl
theorem a97:TA Tryz.prog 97 false:=TA.of Tryz.underlying97 _ rfl
theorem s97:TS Tryz.prog 97 1:=TS.of Yg
theorem z97:TZ Tryz.prog 97 (.pointer none):=TZ.of Yg
theorem a103:TA Tryz.prog 103 false:=TA.of Tryz.underlying103 _ rfl
theorem s103:TS Tryz.prog 103 1:=TS.of Yg
theorem z106:TZ Tryz.prog 106 (.agg #[.nilFunc]):=TZ.of Yg
theorem p106:TP Tryz.prog 106 [(0,1)]:=TP.of Tryz.underlying106 Yg Yg
theorem f106_0:TF Tryz.prog 106 0 0:=TF.of Tryz.underlying106 rfl s103 rfl
theorem a108:TA Tryz.prog 108 false:=TA.of Tryz.underlying108 _ rfl
theorem s108:TS Tryz.prog 108 1:=TS.of Yg
theorem z108:TZ Tryz.prog 108 (.nilFunc):=TZ.of Yg
theorem a109:TA Tryz.prog 109 true:=TA.of Tryz.underlying109 _ rfl
theorem s109:TS Tryz.prog 109 2:=TS.of Yg
theorem z109:TZ Tryz.prog 109 (.agg #[.int .i64 0,.int .i64 0]):=TZ.of Yg
theorem f109_0:TF Tryz.prog 109 0 0:=TF.of Tryz.underlying109 rfl s3 rfl
theorem f109_1:TF Tryz.prog 109 1 1:=TF.of Tryz.underlying109 rfl s3 rfl
theorem a120:TA Tryz.prog 120 false:=TA.of Tryz.underlying120 _ rfl
theorem s120:TS Tryz.prog 120 1:=TS.of Yg
theorem z120:TZ Tryz.prog 120 (.slice none 0 0):=TZ.of Yg
theorem a122:TA Tryz.prog 122 false:=TA.of Tryz.underlying122 _ rfl
theorem a125:TA Tryz.prog 125 false:=TA.of Tryz.underlying125 _ rfl
theorem s125:TS Tryz.prog 125 1:=TS.of Yg
theorem s128:TS Tryz.prog 128 1:=TS.of Yg
theorem z128:TZ Tryz.prog 128 (.agg #[.nilFunc]):=TZ.of Yg
theorem p128:TP Tryz.prog 128 [(0,1)]:=TP.of Tryz.underlying128 Yg Yg
theorem f128_0:TF Tryz.prog 128 0 0:=TF.of Tryz.underlying128 rfl s125 rfl
theorem a129:TA Tryz.prog 129 false:=TA.of Tryz.underlying129 _ rfl
theorem a130:TA Tryz.prog 130 false:=TA.of Tryz.underlying130 _ rfl
theorem a134:TA Tryz.prog 134 true:=TA.of Tryz.underlying134 _ rfl
theorem s134:TS Tryz.prog 134 3:=TS.of Yg
theorem z134:TZ Tryz.prog 134 (.agg #[.int .i64 0,.int .i64 0,.int .i64 0]):=TZ.of Yg
theorem i134:(Tryz.prog.info? 134).map (fun i=>Nat.ble 1 i.bytes&&Nat.ble i.bytes 4096)=some true:=by kernel_rfl
theorem p134:TP Tryz.prog 134 [(0,1),(1,1),(2,1)]:=TP.of Tryz.underlying134 Yg Yg
theorem f134_0:TF Tryz.prog 134 0 0:=TF.of Tryz.underlying134 rfl s3 rfl
theorem f134_1:TF Tryz.prog 134 1 1:=TF.of Tryz.underlying134 rfl s3 rfl
theorem f134_2:TF Tryz.prog 134 2 2:=TF.of Tryz.underlying134 rfl s3 rfl
theorem a137:TA Tryz.prog 137 true:=TA.of Tryz.underlying137 _ rfl
theorem s137:TS Tryz.prog 137 3:=TS.of Yg
theorem f137_0:TF Tryz.prog 137 0 0:=TF.of Tryz.underlying137 rfl s3 rfl
theorem f137_1:TF Tryz.prog 137 1 1:=TF.of Tryz.underlying137 rfl s109 rfl
theorem a142:TA Tryz.prog 142 true:=TA.of Tryz.underlying142 _ rfl
theorem s142:TS Tryz.prog 142 3:=TS.of Yg
theorem z142:TZ Tryz.prog 142 (.agg #[.bool false,.int .i64 0,.int .i64 0]):=TZ.of Yg
theorem i142:(Tryz.prog.info? 142).map (fun i=>Nat.ble 1 i.bytes&&Nat.ble i.bytes 4096)=some true:=by kernel_rfl
theorem p142:TP Tryz.prog 142 [(0,1),(1,1),(2,1)]:=TP.of Tryz.underlying142 Yg Yg
theorem f142_0:TF Tryz.prog 142 0 0:=TF.of Tryz.underlying142 rfl s4 rfl
theorem f142_1:TF Tryz.prog 142 1 1:=TF.of Tryz.underlying142 rfl s3 rfl
theorem f142_2:TF Tryz.prog 142 2 2:=TF.of Tryz.underlying142 rfl s3 rfl
theorem a144:TA Tryz.prog 144 true:=TA.of Tryz.underlying144 _ rfl
theorem s144:TS Tryz.prog 144 4:=TS.of Yg
theorem z144:TZ Tryz.prog 144 (.agg #[.int .i64 0,.int .i64 0,.int .i64 0,.int .i64 0]):=TZ.of Yg
theorem i144:(Tryz.prog.info? 144).map (fun i=>Nat.ble 1 i.bytes&&Nat.ble i.bytes 4096)=some true:=by kernel_rfl
theorem p144:TP Tryz.prog 144 [(0,1),(1,1),(2,2)]:=TP.of Tryz.underlying144 Yg Yg
theorem f144_0:TF Tryz.prog 144 0 0:=TF.of Tryz.underlying144 rfl s3 rfl
theorem f144_1:TF Tryz.prog 144 1 1:=TF.of Tryz.underlying144 rfl s3 rfl
theorem f144_2:TF Tryz.prog 144 2 2:=TF.of Tryz.underlying144 rfl s55 rfl
theorem a146:TA Tryz.prog 146 true:=TA.of Tryz.underlying146 _ rfl
theorem s146:TS Tryz.prog 146 3:=TS.of Yg
theorem z146:TZ Tryz.prog 146 (.agg #[.int .i64 0,.int .i64 0,.int .i64 0]):=TZ.of Yg
theorem i146:(Tryz.prog.info? 146).map (fun i=>Nat.ble 1 i.bytes&&Nat.ble i.bytes 4096)=some true:=by kernel_rfl
theorem a148:TA Tryz.prog 148 true:=TA.of Tryz.underlying148 _ rfl
theorem s148:TS Tryz.prog 148 4:=TS.of Yg
theorem z148:TZ Tryz.prog 148 (.agg #[.int .i64 0,.int .i64 0,.int .i64 0,.int .i64 0]):=TZ.of Yg
theorem i148:(Tryz.prog.info? 148).map (fun i=>Nat.ble 1 i.bytes&&Nat.ble i.bytes 4096)=some true:=by kernel_rfl
theorem p148:TP Tryz.prog 148 [(0,1),(1,3)]:=TP.of Tryz.underlying148 Yg Yg
theorem f148_0:TF Tryz.prog 148 0 0:=TF.of Tryz.underlying148 rfl s3 rfl
theorem f148_1:TF Tryz.prog 148 1 1:=TF.of Tryz.underlying148 rfl s146 rfl
theorem a152:TA Tryz.prog 152 false:=TA.of Tryz.underlying152 _ rfl
theorem a163:TA Tryz.prog 163 true:=TA.of Tryz.underlying163 _ rfl
theorem s163:TS Tryz.prog 163 9:=TS.of Yg
theorem z163:TZ Tryz.prog 163 (.agg #[.int .i64 0,.int .i64 0,.int .i64 0,.int .i64 0,.int .i64 0,.int .i64 0,.int .i64 0,.int .i64 0,.int .i64 0]):=TZ.of Yg
theorem i163:(Tryz.prog.info? 163).map (fun i=>Nat.ble 1 i.bytes&&Nat.ble i.bytes 4096)=some true:=by kernel_rfl
theorem a167:TA Tryz.prog 167 true:=TA.of Tryz.underlying167 _ rfl
theorem s167:TS Tryz.prog 167 10:=TS.of Yg
theorem z167:TZ Tryz.prog 167 (.agg #[.int .i64 0,.int .i64 0,.int .i64 0,.int .i64 0,.int .i64 0,.int .i64 0,.int .i64 0,.int .i64 0,.int .i64 0,.int .i64 0]):=TZ.of Yg
theorem a170:TA Tryz.prog 170 false:=TA.of Tryz.underlying170 _ rfl
theorem s170:TS Tryz.prog 170 1:=TS.of Yg
theorem a171:TA Tryz.prog 171 false:=TA.of Tryz.underlying171 _ rfl
theorem s171:TS Tryz.prog 171 1:=TS.of Yg
theorem z173:TZ Tryz.prog 173 (.agg #[.int .i64 0,.slice none 0 0,.int .i64 0,.slice none 0 0,.slice none 0 0,.slice none 0 0,.map none]):=TZ.of Yg
theorem p173:TP Tryz.prog 173 [(0,5),(5,1),(6,1)]:=TP.of Tryz.underlying173 Yg Yg
theorem f173_0:TF Tryz.prog 173 0 0:=TF.of Tryz.underlying173 rfl s32 rfl
theorem f173_1:TF Tryz.prog 173 1 5:=TF.of Tryz.underlying173 rfl s171 rfl
theorem f173_2:TF Tryz.prog 173 2 6:=TF.of Tryz.underlying173 rfl s170 rfl
theorem a177:TA Tryz.prog 177 true:=TA.of Tryz.underlying177 _ rfl
theorem s177:TS Tryz.prog 177 10:=TS.of Yg
theorem z177:TZ Tryz.prog 177 (.agg #[.int .i64 0,.int .i64 0,.int .i64 0,.int .i64 0,.int .i64 0,.int .i64 0,.int .i64 0,.int .i64 0,.int .i64 0,.int .i64 0]):=TZ.of Yg
theorem i177:(Tryz.prog.info? 177).map (fun i=>Nat.ble 1 i.bytes&&Nat.ble i.bytes 4096)=some true:=by kernel_rfl
theorem s180:TS Tryz.prog 180 2:=TS.of Yg
theorem z180:TZ Tryz.prog 180 (.agg #[.int .i64 0,.int .i64 0]):=TZ.of Yg
theorem p180:TP Tryz.prog 180 [(0,1),(1,1)]:=TP.of Tryz.underlying180 Yg Yg
theorem f180_0:TF Tryz.prog 180 0 0:=TF.of Tryz.underlying180 rfl s3 rfl
theorem f180_1:TF Tryz.prog 180 1 1:=TF.of Tryz.underlying180 rfl s3 rfl
theorem a201:TA Tryz.prog 201 false:=TA.of Tryz.underlying201 _ rfl
theorem a203:TA Tryz.prog 203 false:=TA.of Tryz.underlying203 _ rfl
theorem a205:TA Tryz.prog 205 false:=TA.of Tryz.underlying205 _ rfl
theorem s205:TS Tryz.prog 205 1:=TS.of Yg
theorem z207:TZ Tryz.prog 207 (.agg #[.slice none 0 0,.int .i64 0,.slice none 0 0,.map none]):=TZ.of Yg
theorem p207:TP Tryz.prog 207 [(0,3),(3,1)]:=TP.of Tryz.underlying207 Yg Yg
theorem f207_0:TF Tryz.prog 207 0 0:=TF.of Tryz.underlying207 rfl s40 rfl
theorem f207_1:TF Tryz.prog 207 1 3:=TF.of Tryz.underlying207 rfl s205 rfl
theorem a211:TA Tryz.prog 211 false:=TA.of Tryz.underlying211 _ rfl
theorem s211:TS Tryz.prog 211 1:=TS.of Yg
theorem z211:TZ Tryz.prog 211 (.slice none 0 0):=TZ.of Yg
theorem a213:TA Tryz.prog 213 true:=TA.of Tryz.underlying213 _ rfl
theorem s213:TS Tryz.prog 213 7:=TS.of Yg
theorem a215:TA Tryz.prog 215 true:=TA.of Tryz.underlying215 _ rfl
theorem s215:TS Tryz.prog 215 9:=TS.of Yg
theorem z215:TZ Tryz.prog 215 (.agg #[.int .i64 0,.int .i64 0,.int .i64 0,.int .i64 0,.int .i64 0,.int .i64 0,.int .i64 0,.int .i64 0,.int .i64 0]):=TZ.of Yg
theorem i215:(Tryz.prog.info? 215).map (fun i=>Nat.ble 1 i.bytes&&Nat.ble i.bytes 4096)=some true:=by kernel_rfl
theorem f215_0:TF Tryz.prog 215 0 0:=TF.of Tryz.underlying215 rfl s3 rfl
theorem f215_1:TF Tryz.prog 215 1 1:=TF.of Tryz.underlying215 rfl s3 rfl
theorem f215_2:TF Tryz.prog 215 2 2:=TF.of Tryz.underlying215 rfl s213 rfl
theorem s224:TS Tryz.prog 224 1:=TS.of Yg
theorem z224:TZ Tryz.prog 224 (.agg #[.int .i64 0]):=TZ.of Yg
theorem p224:TP Tryz.prog 224 [(0,1)]:=TP.of Tryz.underlying224 Yg Yg
theorem f224_0:TF Tryz.prog 224 0 0:=TF.of Tryz.underlying224 rfl s44 rfl
theorem a226:TA Tryz.prog 226 false:=TA.of Tryz.underlying226 _ rfl
theorem s226:TS Tryz.prog 226 1:=TS.of Yg
theorem s228:TS Tryz.prog 228 2:=TS.of Yg
theorem z228:TZ Tryz.prog 228 (.agg #[.int .i64 0,.nilFunc]):=TZ.of Yg
theorem p228:TP Tryz.prog 228 [(0,1),(1,1)]:=TP.of Tryz.underlying228 Yg Yg
theorem f228_0:TF Tryz.prog 228 0 0:=TF.of Tryz.underlying228 rfl s3 rfl
theorem f228_1:TF Tryz.prog 228 1 1:=TF.of Tryz.underlying228 rfl s226 rfl
theorem z236:TZ Tryz.prog 236 (.agg #[.slice none 0 0,.slice none 0 0,.int .i64 0,.int .i64 0,.int .i64 0,.slice none 0 0,.int .i64 0,.slice none 0 0,.slice none 0 0,.int .i64 0,.int .i64 0,.int .i64 0,.slice none 0 0,.slice none 0 0,.slice none 0 0,.int .i64 0,.slice none 0 0]):=TZ.of Yg
theorem p236:TP Tryz.prog 236 [(0,17)]:=TP.of Tryz.underlying236 Yg Yg
theorem f236_0:TF Tryz.prog 236 0 0:=TF.of Tryz.underlying236 rfl s42 rfl
theorem a237:TA Tryz.prog 237 false:=TA.of Tryz.underlying237 _ rfl
theorem a240:TA Tryz.prog 240 false:=TA.of Tryz.underlying240 _ rfl
theorem a242:TA Tryz.prog 242 false:=TA.of Tryz.underlying242 _ rfl
theorem a244:TA Tryz.prog 244 false:=TA.of Tryz.underlying244 _ rfl
theorem a247:TA Tryz.prog 247 false:=TA.of Tryz.underlying247 _ rfl
theorem a267:TA Tryz.prog 267 false:=TA.of Tryz.underlying267 _ rfl
theorem a271:TA Tryz.prog 271 true:=TA.of Tryz.underlying271 _ rfl
theorem s271:TS Tryz.prog 271 8:=TS.of Yg
theorem z271:TZ Tryz.prog 271 (.agg #[.int .i64 0,.int .i64 0,.int .i64 0,.int .i64 0,.int .i64 0,.int .i64 0,.int .i64 0,.int .i64 0]):=TZ.of Yg
theorem p271:TP Tryz.prog 271 [(0,1),(1,7)]:=TP.of Tryz.underlying271 Yg Yg
theorem f271_0:TF Tryz.prog 271 0 0:=TF.of Tryz.underlying271 rfl s3 rfl
theorem f271_1:TF Tryz.prog 271 1 1:=TF.of Tryz.underlying271 rfl s213 rfl
end Tf
end Go.Fs
namespace Go.Fs.C1
structure oW where
 back:Bool
 many:Int
 num:Int
 deriving DecidableEq
structure cS where
 places:List Int
 counts:List oW
 wrong:Int
 off:Int
 deriving DecidableEq
def eY(n lo hi:Int):Bool:=decide (lo≤n)&&decide (n≤hi)
def kZ(n:Int):Bool:=eY n 0 2
def kV(len:Nat)(c:oW):Bool:=eY c.many 0 len&&eY c.num 0 9
def aV(r:cS):Int:=
 if 9<r.places.length∨6<r.counts.length then 3
 else if r.places.length=0∨eY r.wrong 0 6=false∨eY r.off 0 9=false∨r.places.all kZ=false∨r.counts.all (kV r.places.length)=false then 1
 else 0
def gR(l:List Int):Nat:=(l.filter (· ==2)).length
def cN(l:List Int)(i k:Nat):Int:=((l.drop i).take k).sum
def wO(t:List Int)(c:oW):Int:=if c.back then cN t (t.length-c.many.toNat) c.many.toNat else cN t 0 c.many.toNat
def fN(t:List Int)(c:oW):Int:=max (wO t c-c.num) (c.num-wO t c)
def fO(r:cS)(t:List Int):Bool:=r.counts.all fun c=>decide (fN t c≤r.off)
def tL(r:cS)(t:List Int):Nat:=(r.counts.filter fun c=>decide (0<fN t c)).length
def bX:List Int→List (List Int)
 | []=>[[]]
 |p::ps=>(if p=2∨p=0 then(bX ps).map (0:: ·)else [])++(if p=2∨p=1 then(bX ps).map (1:: ·)else [])
def fits(r:cS)(t:List Int):Bool:=fO r t&&decide ((tL r t:Int)≤r.wrong)
def truths(r:cS):List (List Int):=(bX r.places).filter (fits r)
def fR(t:List Int)(i j:Nat):Int:=cN t i (j+1-i)
def nB:List Int→Int
 | []=>0
 |x::xs=>xs.foldl min x
def lX:List Int→Int
 | []=>0
 |x::xs=>xs.foldl max x

theorem sE{l:List Int}{i k:Nat}{x:Int}(h:l[i+k]?= some x):cN l i (k+1)=cN l i k+x:=by
 unfold cN;rw[List.take_add_one,List.getElem?_drop,h];simp
theorem eA{l:List Int}(hb:∀x∈l,0≤x∧x≤1)(i k:Nat):0≤cN l i k∧cN l i k≤k:=by
 induction k with
 |zero=>simp[cN]
 |succ k ih=>
  cases h:l[i+k]? with
  |none=>
   have:cN l i (k+1)=cN l i k:=by
    unfold cN;rw[List.take_add_one,List.getElem?_drop,h];simp
   rw[this];omega
  |some x=>rw[sE h];have:=hb x (List.mem_of_getElem? h);omega
theorem qR(l:List Int)(i k m:Nat):cN l i (k+m)=cN l i k+cN l (i+k) m:=by
 unfold cN;rw[List.take_add,List.drop_drop];simp
def eQ(t:List Int):List Int:=t++List.replicate (9-t.length) 0
theorem eE{t:List Int}(h:t.length≤9):(eQ t).length=9:=by simp[eQ];omega
theorem c6{t:List Int}(h:∀x∈t,0≤x∧x≤1):∀x∈eQ t,0≤x∧x≤1:=by
 intro x hx;rcases List.mem_append.1 hx with hx|hx
 ·exact h x hx
 ·rw[(List.mem_replicate.1 hx).2];omega
theorem rR(n:Nat):(List.replicate n (0:Int)).sum=0:=by
 induction n with
 |zero=>rfl
 |succ n ih=>rw[List.replicate_succ,List.sum_cons,ih];rfl
theorem R9(t:List Int)(k:Nat):cN (eQ t) 0 k=cN t 0 k:=by
 unfold cN eQ;simp only[List.drop_zero,List.take_append,List.sum_append,List.take_replicate,rR];omega
def iF(c:List Int):List Int:=(List.range 10).map fun k=>cN c 0 k
def kC(c:List Int)(k:Nat):List Int:=(List.range 10).map fun j=>if j≤k then cN c 0 j else 0
theorem kA(c:List Int):(iF c).length=10:=by simp[iF]
theorem xZ(c:List Int)(k:Nat):(kC c k).length=10:=by simp[kC]
theorem N5(c:List Int):kC c 9=iF c:=by simp[kC,iF,List.range,List.range.loop]
theorem S1(c:List Int)(k:Nat)(h:k<10):(kC c k)[k]?= some (cN c 0 k):=by simp[kC,h]
theorem V7(c:List Int)(k:Nat):(kC c k).set (k+1) (cN c 0 (k+1))=kC c (k+1):=by
 apply List.ext_getElem?;intro j;rw[List.getElem?_set];simp only[kC,List.getElem?_map];by_cases hj:k+1=j
 ·subst hj;by_cases hk:k+1<10
  ·simp[hk]
  ·simp[hk]
 ·rw[if_neg hj];by_cases hk:j<10
  ·simp only[List.getElem?_range hk,Option.map_some];by_cases h1:j≤k
   ·rw[if_pos h1,if_pos Yd]
   ·rw[if_neg h1,if_neg Yd]
  ·simp[hk]
theorem lQ(c:List Int)(k:Nat)(h:k<10):(iF c)[k]?= some (cN c 0 k):=by simp[iF,h]
theorem m6(t:List Int):iF (eQ t)=iF t:=by simp[iF,R9]

structure lH(r:cS):Prop where
 len0:0<r.places.length
 len9:r.places.length≤9
 cnt6:r.counts.length≤6
 wrong:0≤r.wrong∧r.wrong≤6
 off:0≤r.off∧r.off≤9
 place:∀p∈r.places,0≤p∧p≤2
 cnt:∀c∈r.counts,0≤c.many∧c.many≤r.places.length∧0≤c.num∧c.num≤9
theorem bT{n lo hi:Int}:eY n lo hi=true ↔ lo≤n∧n≤hi:=by simp[eY]
theorem pY{r:cS}:aV r=0 ↔ lH r:=by
 unfold aV;constructor
 ·intro h;split at h
  ·cases h
  ·split at h
   ·cases h
   ·rename_i h1 h2;simp only[not_or]at h1 h2;obtain⟨a,b,c,d,e⟩:=h2;simp only[Bool.not_eq_false,List.all_eq_true,kZ,kV,Bool.and_eq_true,bT]at b c d e;exact⟨by omega,by omega,by omega,b,c,d,fun x hx=>⟨(e x hx).1.1,(e x hx).1.2,(e x hx).2.1,(e x hx).2.2⟩⟩
 ·intro h;rw[if_neg (by have:=h.len9;have:=h.cnt6;omega),if_neg]
  simp only[not_or,Bool.not_eq_false,List.all_eq_true,kZ,kV,Bool.and_eq_true,bT];exact⟨by have:=h.len0;omega,h.wrong,h.off,h.place,fun x hx=>⟨⟨(h.cnt x hx).1,(h.cnt x hx).2.1⟩,(h.cnt x hx).2.2⟩⟩
def mF(r:cS)(t:List Int):Prop:=t.length=r.places.length∧∀x∈t,0≤x∧x≤1
theorem i1{r:cS}{t:List Int}{c:oW}(ht:mF r t)(h0:0≤c.many)(h1:c.many≤r.places.length):
  wO t c=if c.back then cN t 0 t.length-cN t 0 (t.length-c.many.toNat)else cN t 0 c.many.toNat:=by
 unfold wO;split
 ·have h:=qR t 0 (t.length-c.many.toNat) c.many.toNat;rw[show t.length-c.many.toNat+c.many.toNat=t.length by rw[ht.1];omega,Nat.zero_add]at h
  omega
 ·rfl
theorem vC{r:cS}{t:List Int}{c:oW}(ht:mF r t)(_h0:0≤c.many)(h1:c.many≤r.places.length)(h9:r.places.length≤9):0≤wO t c∧wO t c≤9:=by
 unfold wO;split
 ·have:=eA ht.2 (t.length-c.many.toNat) c.many.toNat;omega
 ·have:=eA ht.2 0 c.many.toNat;omega
theorem T2{r:cS}{t:List Int}{c:oW}(hr:lH r)(ht:mF r t)(hc:c∈r.counts):0≤fN t c∧fN t c≤9:=by
 obtain⟨a,b,d,e⟩:=hr.cnt c hc;have:=vC ht a b hr.len9;unfold fN;omega

def S0(p:Int)(ps pre:List Int)(k:Nat):List (List Int):=(List.range k).flatMap fun(m:Nat)=>if p=2∨p=(m:Int)then(bX ps).map (fun t=>eQ (pre++(m:Int)::t))else []
theorem LL{p:Int}{ps pre:List Int}:S0 p ps pre 0=[]:=rfl
theorem PY{p:Int}{ps pre:List Int}{k:Nat}(h:¬(p=2∨p=(k:Int))):S0 p ps pre (k+1)=S0 p ps pre k:=by
 unfold S0;rw[List.range_succ,List.flatMap_append];simp[h]
theorem AA{p:Int}{ps pre:List Int}{k:Nat}(h:p=2∨p=(k:Int)):S0 p ps pre (k+1)=S0 p ps pre k++(bX ps).map (fun t=>eQ (pre++[(k:Int)]++t)):=by
 unfold S0;rw[List.range_succ,List.flatMap_append];simp[h]
theorem AR{p:Int}{ps pre:List Int}:S0 p ps pre 2=(bX (p::ps)).map (fun t=>eQ (pre++t)):=by
 by_cases h2:p=2
 ·simp[S0,bX,List.range,List.range.loop,Function.comp_def,h2]
 ·by_cases h0:p=0
  ·simp[S0,bX,List.range,List.range.loop,Function.comp_def,h0]
  ·by_cases h1:p=1
   ·simp[S0,bX,List.range,List.range.loop,Function.comp_def,h1]
   ·have:¬(1:Int)=p:=fun e=>h1 e.symm
    simp[S0,bX,List.range,List.range.loop,h2,h0,h1]
theorem LN{p:Int}{ps pre:List Int}{k:Nat}(hk:k<2):∃r,S0 p ps pre 2=S0 p ps pre (k+1)++r:=by
 rcases(by omega:k=0∨k=1)with rfl|rfl
 ·refine⟨if p=2∨p=1 then(bX ps).map (fun t=>eQ (pre++1::t))else [],?_⟩;simp[S0,List.range,List.range.loop]
 ·exact⟨[],by simp⟩
theorem P1{pre c:List Int}{n:Nat}(_h9:c.length=9)(hp:c.take n=pre)(hn:pre.length=n)(hz:c.drop n=List.replicate (9-n) 0):c=eQ pre:=by
 rw[←List.take_append_drop n c,hp,hz];unfold eQ;rw[hn]
theorem q8{pre c:List Int}{i n:Nat}{k:Int}(h9:c.length=9)(hi:i<n)(hn:n≤9)(hp:c.take i=pre)(hz:c.drop n=List.replicate (9-n) 0):
  (c.set i k).length=9∧(c.set i k).take (i+1)=pre++[k]∧(c.set i k).drop n=List.replicate (9-n) 0:=by
 refine⟨by simpa using h9,?_,?_⟩
 ·rw[List.take_succ_eq_append_getElem Yaa,List.take_set_of_le (Nat.le_refl _),hp];simp
 ·rw[List.drop_set_of_lt hi,hz]
theorem pN(l:List Int):(bX l).length≤2^l.length:=by
 induction l with
 |nil=>simp[bX]
 |cons p ps ih=>
  simp only[bX,List.length_append,List.length_cons,Nat.pow_succ];have:∀(c:Prop) [Decidable c] (f:List Int→List Int),(if c then(bX ps).map f else []).length≤(bX ps).length:=by intro c _ f;split<;>simp
  have h1:=this (p=2∨p=0) (0:: ·);have h2:=this (p=2∨p=1) (1:: ·);omega
theorem qB{l t:List Int}(h:t∈bX l):t.length=l.length∧∀x∈t,0≤x∧x≤1:=by
 induction l generalizing t with
 |nil=>simp[bX]at h;subst h;simp
 |cons p ps ih=>
  simp only[bX,List.mem_append]at h;rcases h with h|h
  ·split at h
   ·obtain⟨t',ht',rfl⟩:=List.mem_map.1 h;refine⟨by simp[(ih ht').1],fun x hx=>?_⟩;rcases List.mem_cons.1 hx with rfl|hx
    ·omega
    ·exact(ih ht').2 x hx
   ·simp at h
  ·split at h
   ·obtain⟨t',ht',rfl⟩:=List.mem_map.1 h;refine⟨by simp[(ih ht').1],fun x hx=>?_⟩;rcases List.mem_cons.1 hx with rfl|hx
    ·omega
    ·exact(ih ht').2 x hx
   ·simp at h
theorem uA{places x:List Int}{pre r:List (List Int)}(h:(bX places).map eQ=pre++x::r):∃t,(bX places)[pre.length]?= some t∧x=eQ t∧t∈bX places∧(bX places).take (pre++[x]).length=(bX places).take pre.length++[t]:=by
 have h1:((bX places).map eQ)[pre.length]?= some x:=by rw[h];simp
 rw[List.getElem?_map,Option.map_eq_some_iff]at h1;obtain⟨t,ht,hx⟩:=h1;refine⟨t,ht,hx.symm,List.mem_of_getElem? ht,?_⟩;rw[List.length_append,List.length_singleton,List.take_add_one,ht];rfl
def bE(r:cS)(fine:Bool):Int:=if aV r≠0 then aV r else if fine=false then 2 else if truths r=[]then 11 else 0
def iT(r:cS)(i j:Int):Bool:=eY i 0 (r.places.length-1)&&eY j i (r.places.length-1)

def tW(ts:List (List Int))(i j:Nat):Int:=nB (ts.map fun t=>fR t i j)
def uM(ts:List (List Int))(i j:Nat):Int:=lX (ts.map fun t=>fR t i j)
theorem xT(l:List Int)(a:Int)(h:l[0]?= some a):l.foldl min a=nB l:=by
 cases l with
 |nil=>simp at h
 |cons x l=>simp at h;subst h;simp[nB]
theorem xA(l:List Int)(a:Int)(h:l[0]?= some a):l.foldl max a=lX l:=by
 cases l with
 |nil=>simp at h
 |cons x l=>simp at h;subst h;simp[lX]
theorem O5{t:List Int}(hb:∀x∈t,0≤x∧x≤1)(i j:Nat)(hj:j<9):0≤fR t i j∧fR t i j≤9:=by
 unfold fR;have:=eA hb i (j+1-i);omega
def vd(ts:List (List Int))(q:List Int→Bool):Int:=
 match ts with
 | []=>1
 |t0::_=>if(ts.all fun t=>q t==q t0)=true then(if q t0=true then 1 else 2)else 3
theorem GD{ts:List (List Int)}{q:List Int→Bool}{t0:List Int}(h0:ts[0]?= some t0){j:Nat}(hj:ts.length≤j)(h:(ts.take j).all (fun t=>q t==q t0)=true):vd ts q=if q t0=true then 1 else 2:=by
 rw[List.take_of_length_le hj]at h;cases ts with
 |nil=>simp at h0
 |cons x l=>simp at h0;subst h0;simp only[vd];rw[if_pos h]
theorem PE{ts:List (List Int)}{q:List Int→Bool}{t0 t:List Int}(h0:ts[0]?= some t0){j:Nat}(hj:ts[j]?= some t)(h:(!(q t==q t0))=true):vd ts q=3:=by
 cases ts with
 |nil=>simp at h0
 |cons x l=>
  simp only[List.getElem?_cons_zero,Option.some.injEq]at h0;subst h0;simp only[vd]
  rw[if_neg];intro ha;have:=List.all_eq_true.1 ha t (List.mem_of_getElem? hj);simp[this]at h
def pQ(i:Nat)(t:List Int):Bool:=decide (0<t.getD i 0)
def oG(r:cS)(i:Nat)(t:List Int):Bool:=match r.counts[i]? with|some c=>decide (fN t c=0)|none=>false
theorem yQ{t:List Int}{i:Nat}(h:i<9)(h9:t.length≤9):(eQ t)[i]?= some (t.getD i 0):=by
 unfold eQ;by_cases hi:i<t.length
 ·rw[List.getElem?_append_left hi,List.getD_eq_getElem?_getD,List.getElem?_eq_getElem hi];rfl
 ·rw[List.getElem?_append_right Yd,List.getElem?_replicate,if_pos Yd,List.getD_eq_getElem?_getD,List.getElem?_eq_none Yd];rfl
theorem qF{r:cS}{t:List Int}(h:t∈truths r):mF r t:=qB (List.mem_filter.1 h).1

def bU(ts:List (List Int))(p:Nat)(b:Int):List (List Int):=ts.filter fun t=>t.getD p 0==b
theorem iA(ts:List (List Int))(p:Nat)(b:Int):(bU ts p b).length≤ts.length:=List.length_filter_le _ _
theorem nC{ts:List (List Int)}{p:Nat}{b:Int}{t:List Int}(h:t∈bU ts p b):t∈ts:=(List.mem_filter.1 h).1
theorem H6{ts:List (List Int)}{p k:Nat}{b:Int}{t:List Int}(h:ts[k]?= some t)(hb:t.getD p 0=b):bU (ts.take (k+1)) p b=bU (ts.take k) p b++[t]:=by
 unfold bU;rw[List.take_add_one,h,Option.toList_some,List.filter_append,List.filter_cons,if_pos (by rw[hb];exact beq_self_eq_true b)];rfl
theorem Q7{ts:List (List Int)}{p k:Nat}{b:Int}{t:List Int}(h:ts[k]?= some t)(hb:t.getD p 0≠b):bU (ts.take (k+1)) p b=bU (ts.take k) p b:=by
 unfold bU;rw[List.take_add_one,h,Option.toList_some,List.filter_append,List.filter_cons,if_neg (by rw[beq_iff_eq];exact hb)];simp
theorem IQ{t:List Int}(h:∀x∈t,0≤x∧x≤1)(p:Nat):t.getD p 0=0∨t.getD p 0=1:=by
 rw[List.getD_eq_getElem?_getD];cases hx:t[p]? with
 |none=>exact Or.inl rfl
 |some x=>have:=h x (List.mem_of_getElem? hx);show x=0∨x=1;omega
def gF(ts:List (List Int))(big:Int):Nat→Int×Int
 |0=>(0,big)
 |k+1=>let n:Int:=max (bU ts k 0).length (bU ts k 1).length;if n<(gF ts big k).2 then((k:Int),n)else gF ts big k

def ED(r:cS)(o:Option Int)(t:List Int):Option Int:=if fO r t=true then some (match o with|none=>(tL r t:Int)|some m=>min m (tL r t))else o
def OM(r:cS)(us:List (List Int)):Option Int:=us.foldl (ED r) none
def JC(r:cS):Int:=if aV r≠0 then 0 else(OM r (bX r.places)).getD 0

end Go.Fs.C1
namespace Go.Fs
open C1
def RC:Rd oW:=fun _ c cs=>cs=[.bool c.back,.int .i64 c.many,.int .i64 c.num]
theorem RC.up:RC.Up:=fun _ _ _ h=>h
def iV(n:Int):Value:=.int .i64 n
def cV(c:oW):Value:=.agg #[.bool c.back,.int .i64 c.many,.int .i64 c.num]
def jQ(D:aA)(v:Value)(r:cS):Prop:=∃pv cv,v=.agg #[pv,cv,.int .i64 r.wrong,.int .i64 r.off]∧Sl D RI 1 pv r.places∧Sl D RC 3 cv r.counts
theorem jQ.up{D D':aA}{v:Value}{r:cS}(h:jQ D v r)(hl:Le D D'):jQ D' v r:=by
 obtain⟨pv,cv,hv,hp,hc⟩:=h;exact⟨pv,cv,hv,hp.up RI.up hl,hc.up RC.up hl⟩
def idxOf{α:Type}(p:α→Bool)(xs:List α):Int:=if xs.any p then(xs.findIdx p:Int)else -1
def RT:Rd (List Int):=fun _ t cs=>cs=ints (eQ t)
theorem RT.up:RT.Up:=fun _ _ _ h=>h
def GM(D:aA)(v:Value)(r:cS):Prop:=∃b pv cv tv,v=.pointer (some ⟨b,0,none⟩)∧At D b 0 [pv,cv,.int .i64 r.wrong,.int .i64 r.off,tv]∧Sl D RI 1 pv r.places∧Sl D RC 3 cv r.counts∧Sl D RT 9 tv (truths r)
def rI(e:Nat)(r:cS)(pre:List (List Int))(g:Value×aB):Prop:=bC e 9 g.1 (((bX r.places).take pre.length).filter (fits r)).length ((((bX r.places).take pre.length).filter (fits r)).flatMap fun t=>ints (eQ t)) g.2
theorem pF{l:List (List Int)}(h:∀t∈l,t.length≤9):(l.flatMap fun t=>ints (eQ t)).length=l.length*9:=by
 induction l with
 |nil=>rfl
 |cons t l ih=>
  rw[List.flatMap_cons,List.length_append,ih (fun t ht=>h t (List.mem_cons_of_mem _ ht)),List.length_cons,Fs.aQ,eE (h t List.mem_cons_self),Nat.add_mul];omega
theorem IA{l:List (List Int)}(h:∀t∈l,t.length≤9){i:Nat}{t:List Int}(hi:l[i]?= some t):((l.flatMap fun t=>ints (eQ t)).drop (i*9)).take 9=ints (eQ t):=by
 induction l generalizing i with
 |nil=>simp at hi
 |cons u l ih=>
  have hu:(ints (eQ u)).length=9:=by rw[Fs.aQ,eE (h u List.mem_cons_self)]
  rw[List.flatMap_cons];cases i with
  |zero=>
   obtain rfl:u=t:=by simpa using hi
   rw[Nat.zero_mul,List.drop_zero,List.take_append_of_le_length Yd,List.take_of_length_le Yd]
  |succ i=>
   rw[List.drop_append,List.drop_eq_nil_of_le Yd,List.nil_append,hu,show(i+1)*9-9=i*9 by omega];exact ih (fun t ht=>h t (List.mem_cons_of_mem _ ht)) (by simpa using hi)
theorem kQ.truths{D:aA}{v:Value}{n:Nat}{l:List (List Int)}(hF:kQ D v n (l.flatMap fun t=>Fs.ints (eQ t)))(hn:l.length=n)(hb:n≤9223372036854775807)(h:∀t∈l,t.length≤9):Sl D RT 9 v l:=
 hF.sl hn hb fun i t hi=>⟨Fs.ints (eQ t),rfl,by rw[Fs.aQ,eE (h t (List.mem_of_getElem? hi))],IA h hi⟩
theorem OJ{e sz b:Nat}{cells:List Value}(h:cells.length=sz):bC e sz (.slice (some ⟨b,0,none⟩) 1 1) 1 cells [(b,.cells cells.toArray e (0,0))]:=
 Or.inr ⟨b,1,[],rfl,Nat.le_refl _,by simp,by omega,by simp;omega⟩
theorem kQ.at{D:aA}{b n cap:Nat}{cells:List Value}(h:kQ D (.slice (some ⟨b,0,none⟩) n cap) n cells)(hn:0<n):At D b 0 cells:=by
 rcases h with⟨a,hv,h0,_⟩|⟨b',cap',hv,_,hA⟩
 ·omega
 ·cases hv;exact hA
end Go.Fs
namespace Go.Fs
variable{P:Program}{X:Cx}{γb:Type}[Membership Nat γb]{bad:γb}{all:Array Oper}{K:Act→World→Prop}{Q:Exit→Act→World→Prop}
variable{σ:bF}{μ:aB}{Ds:List aA}{os:List (Bool×Nat)}{fl:Bool}{ix:Nat}
variable{d:Nat}{x y z:Operand}{u v:Value}{ty:TypeId}{pos:String}{aft:Array Edge}{g:Option (Nat×Bool)}
theorem dZ{e:TypeId}{q:IntKind}(hu:P.underlying e=some (.int q)){xs:Array Value}{off:Nat}{v:Value}(hx:xs[off]?= some v)(w:World):(part e xs off).run P w=.ok v w:=
 run_part_plain w (by simp[Program.plainKey,hu]) hx
theorem hU(dp:Nat){e:TypeId}(hu:P.underlying e=some (.int .i64))(l m:List Int)(w:World):∀(is:List Nat),(∀i∈is,i<l.length∧i<m.length)→
  (Op.eqItems (dp+1) e 1 (ints l).toArray (ints m).toArray is).run P w=.ok (is.all fun i=>l[i]? ==m[i]?) w
 | [],_=>by simp[Op.eqItems,Sem.run_pure]
 |i::is,h=>by
  obtain⟨h1,h2⟩:=h i List.mem_cons_self;have g1:(ints l).toArray[i*1]?= some (.int .i64 l[i]):=by rw[Nat.mul_one];simpa using cJ (List.getElem?_eq_getElem h1)
  have g2:(ints m).toArray[i*1]?= some (.int .i64 m[i]):=by rw[Nat.mul_one];simpa using cJ (List.getElem?_eq_getElem h2)
  simp only[Op.eqItems,Sem.run_bind,dZ hu g1,dZ hu g2,run_equalIn_int w dp e .i64 .i64 _ _ hu,Result.andThen_ok,List.all_cons,List.getElem?_eq_getElem h1,List.getElem?_eq_getElem h2];by_cases he:l[i]=m[i]
  ·simp[he,hU dp hu l m w is (fun j hj=>h j (List.mem_cons_of_mem _ hj))]
  ·simp[he,Sem.run_pure]
theorem oD{l m:List Int}{n:Nat}(hl:l.length=n)(hm:m.length=n):((List.range n).all fun i=>l[i]? ==m[i]?)=(l==m):=by
 rw[Bool.eq_iff_iff];simp only[List.all_eq_true,List.mem_range,beq_iff_eq];constructor
 ·intro h;apply List.ext_getElem?;intro i;by_cases hi:i<n
  ·exact h i hi
  ·rw[List.getElem?_eq_none Yd,List.getElem?_eq_none Yd]
 ·rintro rfl i _;rfl
theorem GX{t e t':TypeId}{n:Nat}{l m:List Int}(ho:all[ix]?= some ⟨some d,.binOp .eql t x y t',ty,pos,aft,g⟩)(hgt:P.eqGuardType P.depth t=false)(ht:P.underlying t=some (.array n e))(he:P.underlying e=some (.int .i64))(hc:P.cellsOf e=1)
  (hl:l.length=n) (hm:m.length=n) (hx:ev σ x=some (.agg (ints l).toArray)) (hy:ev σ y=some (.agg (ints m).toArray)) (hN:Nat.blt d X.N=true) (hg:cR all σ g)
  (kk:WL P X bad all K Q os ((d,.bool (l==m))::σ) μ Ds):WL P X bad all K Q ((fl,ix)::os) σ μ Ds:=
 uE ho (fun w=>by
  have hgd:(eqGuard .eql t x y (.agg (ints l).toArray) (.agg (ints m).toArray)).run P w=.ok () w:=by
   simp only[eqGuard,program];simp[Sem.run,hgt,go_sem]
  have heq:(Op.equal t (.agg (ints l).toArray) (.agg (ints m).toArray)).run P w=.ok (l==m) w:=by
   obtain⟨i,hi⟩:=info_of_underlying he;have h:=run_equalIn_array (P:=P) w 9999 (ints l).toArray (ints m).toArray ht hi;rw[hc,hU 9998 he l m w (List.range n) (fun j hj=>by have:=List.mem_range.1 hj;omega),oD hl hm]at h
   exact h
  rw[Sem.run_bind,hgd];show((do Pure.pure (Value.bool (←Op.equal t (.agg (ints l).toArray) (.agg (ints m).toArray)))):Sem Value).run P w=_;rw[Sem.run_bind,heq];rfl) hx hy hN hg kk

def K2(P:Program)(k:TypeId):Prop:=P.underlying k=some (.struct (P.fieldsOf k))∧P.stoodInHeld k=false∧
 (P.fieldsOf k).toList.map (fun f=>(f.name== "_",f.offset,P.underlying f.type))=[(false,0,some (.int .i64)),(false,1,some (.int .i64))]
def gT(k:Int×Int):Value:=.agg #[.int .i64 k.1,.int .i64 k.2]
theorem K2.fields{k:TypeId}(h:K2 P k):∃f0 f1,P.underlying k=some (.struct #[f0,f1])∧P.fieldsOf k=#[f0,f1]∧f0.name≠ "_" ∧f1.name≠ "_" ∧f0.offset=0∧f1.offset=1∧P.underlying f0.type=some (.int .i64)∧P.underlying f1.type=some (.int .i64):=by
 obtain⟨h1,h2,h3⟩:=h;generalize hl:(P.fieldsOf k).toList=fs at h3;have h0:=congrArg List.length h3;simp only[List.length_map,List.length_cons,List.length_nil]at h0;rcases fs with _|⟨f0,_|⟨f1,_|⟨f2,fs⟩⟩⟩<;>simp only[List.length_cons,List.length_nil]at h0<;>try omega
 have he:P.fieldsOf k=#[f0,f1]:=by rw[←Array.toArray_toList (xs:=P.fieldsOf k),hl]
 simp only[List.map_cons,List.map_nil,List.cons.injEq,Prod.mk.injEq,and_true,beq_eq_false_iff_ne]at h3;exact⟨f0,f1,by rw[h1,he],he,h3.1.1,h3.2.1,h3.1.2.1,h3.2.2.1,h3.1.2.2,h3.2.2.2⟩
theorem nY{k:TypeId}(h:K2 P k)(a b:Int×Int)(w:World):(Op.equal k (gT a) (gT b)).run P w=.ok (a==b) w:=by
 obtain⟨a1,a2⟩:=a;obtain⟨b1,b2⟩:=b;obtain⟨f0,f1,hu,hf,n0,n1,o0,o1,t0,t1⟩:=h.fields;have he:=run_equalIn_struct (P:=P) w 9999 k #[.int .i64 a1,.int .i64 a2] #[.int .i64 b1,.int .i64 b2] h.1 h.2.1;show(Op.equalIn (9999+1) k (.agg #[.int .i64 a1,.int .i64 a2]) (.agg #[.int .i64 b1,.int .i64 b2])).run P w=_;rw[he,hf];have p0:∀c1 c2:Int,(part f0.type #[.int .i64 c1,.int .i64 c2] f0.offset).run P w=.ok (.int .i64 c1) w:=fun c1 c2=>dZ t0 (by rw[o0];rfl) w
 have p1:∀c1 c2:Int,(part f1.type #[.int .i64 c1,.int .i64 c2] f1.offset).run P w=.ok (.int .i64 c2) w:=fun c1 c2=>dZ t1 (by rw[o1];rfl) w
 have e0:=run_equalIn_int w 9998 f0.type .i64 .i64 a1 b1 t0;have e1:=run_equalIn_int w 9998 f1.type .i64 .i64 a2 b2 t1;have s1:(Op.eqFields 9999 #[.int .i64 a1,.int .i64 a2] #[.int .i64 b1,.int .i64 b2] [f1]).run P w=.ok (a2==b2) w:=by
  simp only[Op.eqFields,n1,ne_eq,not_false_eq_true,if_true,Sem.run_bind,p1,Result.andThen_ok];rw[e1];simp only[Result.andThen_ok];cases a2==b2<;>rfl
 show(Op.eqFields 9999 #[.int .i64 a1,.int .i64 a2] #[.int .i64 b1,.int .i64 b2] (f0::[f1])).run P w=_;rw[Op.eqFields,if_pos n0];simp only[Sem.run_bind,p0,Result.andThen_ok];rw[e0];simp only[Result.andThen_ok];by_cases hab:a1=b1
 ·subst hab;simp only[beq_self_eq_true,Bool.not_true,Bool.false_eq_true,if_false];rw[s1];have:(a2==b2)=((a1,a2)==(a1,b2)):=by rw[Bool.eq_iff_iff];simp
  rw[this]
 ·have hb:(a1==b1)=false:=by simpa using hab
  simp only[hb,Bool.not_false,if_true,Sem.run_pure];simp[hab]
theorem QZ{t t':TypeId}{a b:Int×Int}(ho:all[ix]?= some ⟨some d,.binOp .eql t x y t',ty,pos,aft,g⟩)(hgt:P.eqGuardType P.depth t=false)(ht:K2 P t)(hx:ev σ x=some (gT a))(hy:ev σ y=some (gT b))(hN:Nat.blt d X.N=true)(hg:cR all σ g)
  (kk:WL P X bad all K Q os ((d,.bool (a==b))::σ) μ Ds):WL P X bad all K Q ((fl,ix)::os) σ μ Ds:=
 uE ho (fun w=>by
  have hgd:(eqGuard .eql t x y (gT a) (gT b)).run P w=.ok () w:=by
   simp only[eqGuard,gT,program];simp[Sem.run,hgt,go_sem]
  rw[Sem.run_bind,hgd];show((do Pure.pure (Value.bool (←Op.equal t (gT a) (gT b)))):Sem Value).run P w=_;rw[Sem.run_bind,nY ht];rfl) hx hy hN hg kk
theorem QC{t t':TypeId}{a b:Int×Int}(ho:all[ix]?= some ⟨some d,.binOp .neq t x y t',ty,pos,aft,g⟩)(hgt:P.eqGuardType P.depth t=false)(ht:K2 P t)(hx:ev σ x=some (gT a))(hy:ev σ y=some (gT b))(hN:Nat.blt d X.N=true)(hg:cR all σ g)
  (kk:WL P X bad all K Q os ((d,.bool (!(a==b)))::σ) μ Ds):WL P X bad all K Q ((fl,ix)::os) σ μ Ds:=
 l9 ho (fun w=>by
  have hgd:(eqGuard .neq t x y (gT a) (gT b)).run P w=.ok () w:=by
   simp only[eqGuard,gT,program];simp[Sem.run,hgt,go_sem]
  rw[Sem.run_bind,hgd];show((do Pure.pure (Value.bool (!(←Op.equal t (gT a) (gT b))))):Sem Value).run P w=_;rw[Sem.run_bind,nY ht];rfl) hx hy hN hg kk
theorem vZ{k k':IntKind}{s t:TypeId}{u':TypeDesc}{n:Int}(ho:all[ix]?= some ⟨some d,.convert s t x,ty,pos,aft,g⟩)(hs:P.underlying s=some u')(ht:P.underlying t=some (.int k'))(hx:ev σ x=some (.int k n))(hn:qD k' n)(hN:Nat.blt d X.N=true)(hg:cR all σ g)
  (kk:WL P X bad all K Q os ((d,.int k' n)::σ) μ Ds):WL P X bad all K Q ((fl,ix)::os) σ μ Ds:=
 EL ho (fun w=>by
  simp only[Go.convert,Sem.run_bind,TU.of hs w,TU.of ht w,Result.andThen_ok,Conv.intToInt,jF hn];rfl) hx hN hg kk
theorem Sl.shape{α:Type}{R:Rd α}{D:aA}{sz:Nat}{xs:List α}(h:Sl D R sz v xs):∃a cap,v=.slice a xs.length cap:=by
 obtain⟨a,cap,hv,_⟩:=h;exact⟨a,cap,hv⟩
theorem vW{k:TypeId}(h:K2 P k)(em:Bool)(a:Int×Int)(w:World):(Instr.checkKey em 10000 k (gT a)).run P w=.ok () w:=by
 obtain⟨f0,f1,hu,hf,n0,n1,o0,o1,t0,t1⟩:=h.fields;have p0:(part f0.type #[.int .i64 a.1,.int .i64 a.2] f0.offset).run P w=.ok (.int .i64 a.1) w:=dZ t0 (by rw[o0];rfl) w
 have p1:(part f1.type #[.int .i64 a.1,.int .i64 a.2] f1.offset).run P w=.ok (.int .i64 a.2) w:=dZ t1 (by rw[o1];rfl) w;have c0:(Instr.checkKey em (9998+1) f0.type (.int .i64 a.1)).run P w=.ok () w:=by
  rw[Instr.checkKey,Sem.run_bind,TU.of t0 w];rfl
 have c1:(Instr.checkKey em (9998+1) f1.type (.int .i64 a.2)).run P w=.ok () w:=by
  rw[Instr.checkKey,Sem.run_bind,TU.of t1 w];rfl
 show(Instr.checkKey em (9999+1) k (.agg #[.int .i64 a.1,.int .i64 a.2])).run P w=_;rw[Instr.checkKey,Sem.run_bind,TU.of hu w];simp only[Result.andThen_ok];rw[←Array.forIn_toList];simp only[List.forIn_cons,List.forIn_nil,n0,n1,ne_eq,not_false_eq_true,if_true,Sem.run_bind,p0,Result.andThen_ok,Sem.run_pure];rw[c0];simp only[Result.andThen_ok,Sem.run_pure,Sem.run_bind,p1];rw[c1];simp[Sem.run_pure,Result.andThen_ok]
theorem tY{t:TypeId}(ho:all[ix]?= some ⟨some d,.makeMap t none,ty,pos,aft,g⟩)(hN:Nat.blt d X.N=true)(hg:cR all σ g)
  (kk:∀b,WL P X bad all K Q os ((d,.map (some b))::σ) ((b,.map #[] 0)::μ) Ds):WL P X bad all K Q ((fl,ix)::os) σ μ Ds:=by
 refine dW ho rfl rfl hg fun a w hh=>?_
 obtain⟨h1,h2,h3,D,h4,h5,h6⟩:=id hh;have:(execOp a.eval ⟨some d,.makeMap t none,ty,pos,aft,g⟩).run P w=.ok (.value (.map (some w.heap.size))) {w with heap:=w.heap.push (.map #[] 0)}:=rfl;rw[this];exact⟨fun _=>jU _ _ _,kk _ _ _ (Hl.put ⟨h1,h2,h3,D,h4.push _ (show cB (.map #[] 0)from trivial),h5,h6.step (fun _ p hp=>by rcases List.mem_cons.1 hp with rfl|hp;exact Or.inr (Nat.le_refl _);exact Or.inl (List.mem_map.2 ⟨p,hp,rfl⟩)) (fun _=>sM _ _) (h4.push _ (show cB (.map #[] 0)from trivial)).dom⟩ hN _)⟩
theorem iU{w:World}{r:Nat}{es:Array MapEntry}{clock:Nat}(h:w.heap[r]?= some (.map es clock)):(getObj r).run P w=.ok (.map es clock) w:=by
 simp[getObj,Sem.run,h]

theorem TG{t t':TypeId}{m n:Int}{k:IntKind}(ho:all[ix]?= some ⟨some d,.binOp .shl t x y t',ty,pos,aft,g⟩)(hx:ev σ x=some (.int .i64 m))(hy:ev σ y=some (.int k n))(h0:0≤n)(h1:n<64)(hr:qD .i64 (m*2^n.toNat))(hN:Nat.blt d X.N=true)(hg:cR all σ g)
  (kk:WL P X bad all K Q os ((d,.int .i64 (m*2^n.toNat))::σ) μ Ds):WL P X bad all K Q ((fl,ix)::os) σ μ Ds:=
 bD ho rfl rfl hN hg (fun ρ hρ w'=>by
  have hn:min n.toNat IntKind.i64.bits=n.toNat:=by have:IntKind.i64.bits=64:=rfl;omega
  have h0':¬n<0:=by omega
  have hs:(binOp .shl t (.int .i64 m) (.int k n)).run P w'=.ok (.int .i64 (m*2^n.toNat)) w':=by
   show(Op.shift .shl .i64 m k n).run P w'=_;unfold Op.shift;rw[if_neg h0'];simp only[hn,jF hr,Sem.run_pure]
  have hg:∀w,(eqGuard .shl t x y (.int .i64 m) (.int k n)).run P w=.ok () w:=fun w=>rfl
  simp only[execOp,hρ x _ hx,hρ y _ hy,Sem.run_bind,hg,Result.andThen_ok,hs,Sem.run_pure]) kk

def PH(X:Cx)(b:Nat)(post:aA→Value→Obj→Prop):Ending→World→Prop:=fun e w'=>∃v D' o',e=.returned v∧fA X.h0 X.lo X.D0 X.mods [(b,o')] D' w'∧post D' v o'
theorem p9{fn:Func}{b:Nat}{o':Obj}{post:aA→Value→Obj→Prop}{e:Exit}(he:(match e with|.normal=>true|.ret=>true|_=>false)=true){rs:List ResultVar}{vs:List Value}(hds:X.ds=[])(hr:fn.results=rs.toArray)(h:oX P X σ μ rs vs)
  (hm:(b,o')∈μ) (hp:∀D,(∀D₁∈Ds,Le D₁ D)→post D (lZ vs) o'):∀a w,Hl X σ μ Ds a w→bodyPost P fn (PH X b post) e a w:=by
 intro a w hh;have hrun:=eT hh hr h;obtain⟨h1,h2,h3,D,h4,h5,h6⟩:=hh;have:a.defers=[]∧∃v,(results fn a.tmps).run P w=.ok v w∧PH X b post (.returned v) w:=⟨h3.trans hds,_,hrun,_,D,o',rfl,h4.sub (fun p hp=>by rw[List.mem_singleton.1 hp];exact hm) Ye,hp D h5⟩
 cases e<;>first|exact this|cases he
theorem O3{t t':TypeId}{n:Nat}(ho:all[ix]?= some ⟨some d,.binOp .shl t x y t',ty,pos,aft,g⟩)(hx:ev σ x=some (.int .i64 1))(hy:ev σ y=some (.int .i64 (n:Int)))(h1:n<62)(hN:Nat.blt d X.N=true)(hg:cR all σ g)
  (kk:WL P X bad all K Q os ((d,.int .i64 ((2^n:Nat):Int))::σ) μ Ds):WL P X bad all K Q ((fl,ix)::os) σ μ Ds:=by
 have h2:(2:Nat)^n<2^62:=Nat.pow_lt_pow_right Yd h1;have e:(1:Int)*2^(n:Int).toNat=((2^n:Nat):Int):=by simp
 have hr:qD .i64 ((1:Int)*2^(n:Int).toNat):=by
  rw[e];generalize (2:Nat)^n=q at h2;simp only[qD];omega
 refine TG ho hx hy Yd Yd hr hN hg ?_;rw[e];exact kk
end Go.Fs
namespace Go.Fs
variable{P:Program}{X:Cx}{γb:Type}[Membership Nat γb]{bad:γb}{all:Array Oper}{K:Act→World→Prop}{Q:Exit→Act→World→Prop}
variable{σ:bF}{μ:aB}{Ds:List aA}{os:List (Bool×Nat)}{fl:Bool}{ix:Nat}
variable{d:Nat}{x y z:Operand}{u v:Value}{ty:TypeId}{pos:String}{aft:Array Edge}{g:Option (Nat×Bool)}
def y4(P:Program)(f:FuncId)(args:Array Value)(D:aA)(post:aA→Value→aB→Prop):Prop:=
 EF P f∧∀w,dD D w→Calls P f args w fun e w'=>∃v D' ν,e=.returned v∧fA (hd w) w.heap.size D [] ν D' w'∧post D' v ν
theorem mS{f:FuncId}{fn:Func}{c:Code}{args:List Value}{D:aA}{post:aA→Value→aB→Prop}(N:Nat)(hf:P.funcs[f]?= some fn)(hn:(fn.name== "runtime.NumGoroutine")=false)(hb:fn.body=some c)(hN:fn.ntmps=N)(hsz:Nat.ble args.length N=true)
  (h:∀h0:H0,WC P ⟨none,N,[],h0,h0.size,D,[],none⟩ (bodyPost P fn (kF ⟨none,N,[],h0,h0.size,D,[],none⟩ post)) c (fJ 0 args) [] [D]):y4 P f args.toArray D post:=by
 refine⟨EF.of hf hn hb,fun w hw=>?_⟩;subst hN;have hsz:=Nat.le_of_ble_eq_true hsz;refine(cQ (r:=none) (n:=0)).1 ((callsIn_of_wp (R:=kF ⟨none,fn.ntmps,[],hd w,w.heap.size,D,[],none⟩ post) hf hb trivial (h (hd w) _ w ⟨?_,fun s v hs=>?_,rfl,D,⟨Nat.le_refl _,Nat.le_refl _,fun _ _ _=>rfl,fun _ _=>rfl,hw,(fun p hp=>by cases hp),List.nodup_nil,(fun p hp=>by cases hp),fun e he=>Option.some.inj he⟩,fun D₁ h1=>?_,trivial⟩) rfl).mono ?_)
 ·simp;omega
 ·obtain⟨_,h2⟩:=dP args 0 s v hs;have hl:=(List.getElem?_eq_some_iff.1 h2).1;simp only[Nat.sub_zero]at h2 hl;show(args.toArray++_)[s]?= some v;rw[Array.getElem?_append_left Yab];simpa using h2
 ·simp only[List.mem_singleton]at h1;subst h1;exact Le.refl _
 ·rintro e w' ⟨v,D',μ',rfl,hs,hp⟩;exact⟨v,D',μ',rfl,hs,hp⟩
theorem fA.afterO{h0:H0}{lo:Nat}{D0 D D':aA}{mods:List Nat}{μ ν:aB}{w w':World}(h:fA h0 lo D0 mods μ D w)(hs:fA (hd w) w.heap.size D [] ν D' w'):fA h0 lo D0 mods (ν++μ) D' w':=by
 have h1:=h.after (hs.sub (μ':=[]) (fun p hp=>by cases hp) List.nodup_nil);have hge:∀p∈ν,w.heap.size≤p.1:=fun p hp=>(hs.box p hp).2.2.resolve_right Ye
 refine⟨h1.hlo,h1.size,h1.old,h1.dold,h1.agr,fun p hp=>?_,?_,(fun p hp=>by rcases List.mem_append.1 hp with hp|hp;exact hs.fz p hp;exact h.fz p hp),h1.env⟩
 ·rcases List.mem_append.1 hp with hp|hp
  ·obtain⟨a,b,_⟩:=hs.box p hp;exact⟨a,b,Or.inl (Nat.le_trans h.size (hge p hp))⟩
  ·exact h1.box p hp
 ·rw[List.map_append,List.nodup_append];refine⟨hs.nd,h.nd,fun a ha b hb=>?_⟩;obtain⟨p,hp,rfl⟩:=List.mem_map.1 ha;obtain⟨q,hq,rfl⟩:=List.mem_map.1 hb;have:=hge p hp;have:=bA (h.box q hq).1;omega
theorem fZ{c:Operand}{xs:Array Operand}{ats:Array TypeId}{f:FuncId}{c1 c2:List Value}{vs:List Value}{post:aA→Value→aB→Prop}(ho:all[ix]?= some ⟨some d,.call {callee:=.value c,args:=xs,argTypes:=ats},ty,pos,aft,g⟩)(hc:ev σ c=some (.func (.func f) c1.toArray c2.toArray))(hxs:zJ σ xs.toList=some vs)
  (hf:∀D,(∀D₁∈Ds,Le D₁ D)→y4 P f (c1++vs++c2).toArray D post) (hN:Nat.blt d X.N=true) (hg:cR all σ g)
  (kk:∀v D ν,(∀D₁∈Ds,Le D₁ D)→post D v ν→WL P X bad all K Q os ((d,v)::σ) (ν++μ) (D::Ds)):
  WL P X bad all K Q ((fl,ix)::os) σ μ Ds:=by
 refine dW ho rfl rfl hg fun a w hh=>?_
 obtain⟨h1,h2,h3,D,h4,h5,h6⟩:=id hh;have hF:=hf D h5;rw[pK hF.1 (hh.eval hc) (iJ (fun _ _ hx=>hh.eval hx) hxs)];refine⟨fun h=>by simp[FW]at h,cQ.2 ((hF.2 w h4.agr).mono ?_)⟩;rintro e w' ⟨v,D',ν,rfl,hs,hpost⟩;have hle:=eM h4.agr hs;refine⟨fun _=>hs.keep bad,kk v D' ν (fun D₁ hD₁=>(h5 D₁ hD₁).trans hle) hpost _ _ ?_⟩;refine Hl.put ⟨h1,h2,h3,D',h4.afterO hs,fun D₁ hD₁=>?_,h6.step (fun _ p hp=>?_) (fun _=>hs.low _) (h4.afterO hs).dom⟩ hN v
 ·rcases List.mem_cons.1 hD₁ with rfl|hD₁
  ·exact Le.refl _
  ·exact(h5 D₁ hD₁).trans hle
 ·rcases List.mem_append.1 hp with hp|hp
  ·exact Or.inr ((hs.box p hp).2.2.resolve_right Ye)
  ·exact Or.inl (List.mem_map.2 ⟨p,hp,rfl⟩)
theorem jL{t e:TypeId}{sz b o n cap:Nat}{k:IntKind}{i:Int}(ho:all[ix]?= some ⟨some d,.indexAddr t x y,ty,pos,aft,g⟩)(ht:P.underlying t=some (.slice e))(hs:TS P e sz)(hx:ev σ x=some (.slice (some ⟨b,o,none⟩) n cap))
  (hy:ev σ y=some (.int k i)) (h0:0≤i) (hi:i<n) (hN:Nat.blt d X.N=true) (hg:cR all σ g)
  (kk:WL P X bad all K Q os ((d,.pointer (some ⟨b,o+i.toNat*sz,none⟩))::σ) μ Ds):WL P X bad all K Q ((fl,ix)::os) σ μ Ds:=
 bD ho rfl rfl hN hg (fun ρ hρ w'=>by
  simp only[execOp,hρ x _ hx,hρ y _ hy];unfold Instr.indexAt asIntOf;simp only[Sem.run_bind,TU.of ht w',Result.andThen_ok,hs w',Sem.run_pure,pure_bind,h0,hi,and_self,if_true,eK]) kk
theorem bC.some{e:TypeId}{sz n:Nat}{cells:List Value}{ν:aB}(h:bC e sz v n cells ν)(hn:0<n):∃b cap junk,v=.slice (some ⟨b,0,none⟩) n cap∧n≤cap∧ν=[(b,.cells (cells++junk).toArray e (0,0))]∧cells.length=n*sz∧(cells++junk).length=cap*sz:=by
 rcases h with⟨_,_,h0,_⟩|h
 ·omega
 ·exact h
end Go.Fs
namespace Go.Fs
namespace C2
open C1 (eY bT nB lX)
structure Mk where
 frm:Int
 to:Int
 lo:Int
 hi:Int
deriving DecidableEq
structure aR where
 last:Int
 heights:List (Int×Int)
 step:Int
 levels:List Int
 marks:List Mk
def dB(n:Int):Bool:=eY n 0 99
def eS(r:Int×Int):Bool:=decide (r.1≤r.2)&&dB r.1&&dB r.2
def dY(r:Int×Int):Int:=r.2-r.1+1
def yM(last n:Int):Bool:=eY n 0 last
def jZ(last a b:Int):Bool:=yM last a&&yM last b&&decide (a≤b)
def kY(last:Int)(m:Mk):Bool:=jZ last m.frm m.to&&eS (m.lo,m.hi)
def kH(hs:List (Int×Int)):Int:=hs.foldl (fun(m:Int) r=>min (m*dY r) 2001) 1
def oS(step:Int)(p:Option Int)(n:Int):Bool:=match p with
 |none=>true
 |some q=>eY (n-q) (-step) step
def eZ(step:Int):List (Int×Int)→Option Int→List (List Int)
 | [],_=>[[]]
 |r::rs,p=>(List.range (dY r).toNat).flatMap fun(k:Nat)=>if oS step p (r.1+k)=true then(eZ step rs (some (r.1+k))).map (fun l=>(r.1+(k:Int))::l)else []
def dK(t:aR):List (List Int):=eZ t.step t.heights none
def r9(t:aR):Bool:=decide (t.last>9)||decide ((t.levels.length:Int)>6)||decide ((t.marks.length:Int)>5)
def OU(t:aR):Bool:=decide (0≤t.last)&&decide ((t.heights.length:Int)=t.last+1)&&t.heights.all eS&&dB t.step&&t.levels.all dB&&t.marks.all (kY t.last)
def aV(t:aR):Int:=if r9 t=true then 3 else if OU t=false then 1 else if 2000<kH t.heights then 3 else if dK t=[]then 9 else 0
def fL(s:List Int)(a b:Int):Int:=lX ((s.drop a.toNat).take (b+1-a).toNat)
def fS(t:aR)(s:List Int):Bool:=t.marks.all fun m=>eY (fL s m.frm m.to) m.lo m.hi
def lA(t:aR)(acc:List (List Int))(s:List Int):List (List Int):=if fS t s=false∨acc.getLast?= some s then acc else acc++[s]
def aW(t:aR):List (List Int):=(dK t).foldl (lA t) []
def fH(t:aR)(fine:Bool):Int:=if aV t≠0 then aV t else if fine=false then 2 else if aW t=[]then 11 else 0
def LS(s:List Int)(i:Nat):Int:=s.getD i 0
def cO(t:aR)(i:Nat):Int×Int:=(nB ((aW t).map (LS · i)),lX ((aW t).map (LS · i)))
def oK(s:List Int)(level:Int):Int:=((s.takeWhile fun n=>decide (n≤level)).length:Int)
def nU(t:aR)(level:Int):Int×Int:=(nB ((aW t).map (oK · level)),lX ((aW t).map (oK · level)))
def M8(t:aR)(a b:Int):Int:=lX ((aW t).map (fL · a b))
def bQ(l:List Int):List Int:=l++List.replicate (10-l.length) 0
theorem dM{l:List Int}(h:l.length≤10):(bQ l).length=10:=by simp[bQ];omega
theorem d8{c l:List Int}(h2:c.take l.length=l)(h3:c.drop l.length=List.replicate (10-l.length) 0):bQ l=c:=by
 unfold bQ;rw[←h3]
 conv=>rhs;rw[←List.take_append_drop l.length c,h2]
def Z8(step:Int)(rs:List (Int×Int))(pre:List Int)(r:Int×Int)(k:Nat):List (List Int):=(List.range k).flatMap fun(m:Nat)=>if oS step pre.getLast? (r.1+m)=true then(eZ step rs (some (r.1+m))).map (fun t=>bQ (pre++(r.1+(m:Int))::t))else []
theorem GI{step:Int}{rs:List (Int×Int)}{pre:List Int}{r:Int×Int}:Z8 step rs pre r 0=[]:=rfl
theorem QT{step:Int}{rs:List (Int×Int)}{pre:List Int}{r:Int×Int}{k:Nat}(h:oS step pre.getLast? (r.1+k)=false):Z8 step rs pre r (k+1)=Z8 step rs pre r k:=by
 unfold Z8;rw[List.range_succ,List.flatMap_append,List.flatMap_singleton,if_neg (by simp[h]),List.append_nil]
theorem x4{step:Int}{rs:List (Int×Int)}{pre:List Int}{r:Int×Int}{k:Nat}(h:oS step pre.getLast? (r.1+k)=true):Z8 step rs pre r (k+1)=Z8 step rs pre r k++(eZ step rs ((pre++[r.1+(k:Int)]).getLast?)).map (fun t=>bQ ((pre++[r.1+(k:Int)])++t)):=by
 unfold Z8;rw[List.range_succ,List.flatMap_append,List.flatMap_singleton,if_pos h,List.getLast?_concat];simp
theorem y8{step:Int}{rs:List (Int×Int)}{pre:List Int}{r:Int×Int}:Z8 step rs pre r (dY r).toNat=(eZ step (r::rs) pre.getLast?).map (fun t=>bQ (pre++t)):=by
 unfold Z8;simp only[eZ];rw[List.map_flatMap]
 congr 1;funext m
 split<;>simp
theorem FO{step:Int}{rs:List (Int×Int)}{pre:List Int}{r:Int×Int}{k n:Nat}(hk:k<n):∃rr,Z8 step rs pre r n=Z8 step rs pre r (k+1)++rr:=by
 refine⟨((List.range n).drop (k+1)).flatMap fun(m:Nat)=>if oS step pre.getLast? (r.1+m)=true then(eZ step rs (some (r.1+m))).map (fun t=>bQ (pre++(r.1+(m:Int))::t))else [],?_⟩;unfold Z8;rw[←List.flatMap_append];congr 1;have h:=List.take_append_drop (k+1) (List.range n);rw[List.take_range,Nat.min_eq_left Yd]at h;exact h.symm
theorem yW{step:Int}:∀(rs:List (Int×Int)) (p:Option Int) (t:List Int),t∈eZ step rs p→t.length=rs.length
 | [],p,t,h=>by simp[eZ]at h;subst h;rfl
 |r::rs,p,t,h=>by
  simp only[eZ,List.mem_flatMap,List.mem_range]at h;obtain⟨m,hm,h⟩:=h;split at h
  ·obtain⟨u,hu,rfl⟩:=List.mem_map.1 h;rw[List.length_cons,yW rs _ u hu,List.length_cons]
  ·cases h
theorem sU{step:Int}:∀(rs:List (Int×Int)) (p:Option Int) (t:List Int),(∀r∈rs,eS r=true)→t∈eZ step rs p→∀x∈t,0≤x∧x≤99
 | [],p,t,_,h=>by simp[eZ]at h;subst h;intro x hx;cases hx
 |r::rs,p,t,hr,h=>by
  simp only[eZ,List.mem_flatMap,List.mem_range]at h;obtain⟨m,hm,h⟩:=h;split at h
  ·obtain⟨u,hu,rfl⟩:=List.mem_map.1 h;intro x hx;rcases List.mem_cons.1 hx with rfl|hx
   ·have h1:=hr r List.mem_cons_self;unfold eS dB at h1;simp only[Bool.and_eq_true,decide_eq_true_eq,bT]at h1;unfold dY at hm;omega
   ·exact sU rs _ u (fun q hq=>hr q (List.mem_cons_of_mem _ hq)) hu x hx
  ·cases h
structure O7(t:aR):Prop where
 last:0≤t.last∧t.last≤9
 len:(t.heights.length:Int)=t.last+1
 step:0≤t.step∧t.step≤99
 hts:∀r∈t.heights,eS r=true
 lev:t.levels.length≤6
 levs:∀n∈t.levels,0≤n∧n≤99
 mks:t.marks.length≤5
 mark:∀m∈t.marks,kY t.last m=true
theorem UP{t:aR}(h1:r9 t=false)(h2:OU t=true):O7 t:=by
 unfold r9 at h1;unfold OU dB at h2;simp only[Bool.or_eq_false_iff,decide_eq_false_iff_not]at h1;simp only[Bool.and_eq_true,decide_eq_true_eq,List.all_eq_true,bT]at h2;obtain⟨⟨⟨⟨⟨h3,h4⟩,h5⟩,h6⟩,h7⟩,h8⟩:=h2;exact⟨by omega,h4,h6,h5,by omega,h7,by omega,h8⟩
theorem nQ{t:aR}(h:aV t=0):O7 t:=by
 unfold aV at h;split at h
 ·omega
 ·rename_i h1;split at h
  ·omega
  ·rename_i h2;exact UP (by simpa using h1) (by simpa using h2)
theorem O7.len10{t:aR}(h:O7 t):t.heights.length≤10:=by have:=h.len;have:=h.last;omega

theorem IY{s:List Int}{a k:Nat}(h:a+k≤s.length):((bQ s).drop a).take k=(s.drop a).take k:=by
 unfold bQ;rw[List.drop_append_of_le_length Yd,List.take_append_of_le_length Yaa]
theorem pB{s:List Int}{a b:Int}(h0:0≤a)(h1:a≤b)(h2:b<s.length):fL (bQ s) a b=fL s a b:=by
 unfold fL;rw[IY Yd]
theorem EB{last:Int}{m:Mk}(h:kY last m=true):0≤m.frm∧m.frm≤m.to∧m.to≤last∧0≤m.lo∧m.lo≤m.hi∧m.hi≤99:=by
 unfold kY jZ yM eS dB at h;simp only[Bool.and_eq_true,decide_eq_true_eq,bT]at h;omega
theorem DO{t:aR}(ht:O7 t){s:List Int}(hs:(s.length:Int)=t.last+1):fS t (bQ s)=fS t s:=by
 unfold fS;rw[Bool.eq_iff_iff,List.all_eq_true,List.all_eq_true];constructor<;>intro h m hm<;>have h1:=EB (ht.mark m hm)<;>have h2:=h m hm
 ·rwa [pB Yd Yd Yd]at h2
 ·rwa [pB Yd Yd Yd]
theorem r4{l:List (List Int)}{pre us:List (List Int)}{x:List Int}(h:l.map bQ=pre++x::us):∃s,l[pre.length]?= some s∧x=bQ s∧s∈l∧l.take (pre.length+1)=l.take pre.length++[s]:=by
 have h1:(l.map bQ)[pre.length]?= some x:=by rw[h];simp
 rw[List.getElem?_map]at h1;obtain⟨s,hs,hx⟩:=Option.map_eq_some_iff.1 h1;exact⟨s,hs,hx.symm,List.mem_of_getElem? hs,by rw[List.take_add_one,hs];rfl⟩
def fQ(t:aR)(k:Nat):List (List Int):=((dK t).take k).foldl (lA t) []
theorem sP(t:aR){k:Nat}(h:(dK t).length≤k):fQ t k=aW t:=by unfold fQ aW;rw[List.take_of_length_le h]
theorem G5{t:aR}{k:Nat}{s:List Int}(h:(dK t).take (k+1)=(dK t).take k++[s]):fQ t (k+1)=lA t (fQ t k) s:=by
 unfold fQ;rw[h,List.foldl_append];rfl
theorem IM{t:aR}{acc:List (List Int)}{s:List Int}:∀u∈lA t acc s,u∈acc∨u=s:=by
 intro u hu;unfold lA at hu
 split at hu
 ·exact Or.inl hu
 ·simpa using hu
theorem uN{t:aR}:∀(l acc:List (List Int)),∀u∈l.foldl (lA t) acc,u∈acc∨u∈l
 | [],acc,u,h=>Or.inl h
 |s::l,acc,u,h=>by
  rcases uN l (lA t acc s) u h with h|h
  ·rcases IM u h with h|rfl
   ·exact Or.inl h
   ·exact Or.inr List.mem_cons_self
  ·exact Or.inr (List.mem_cons_of_mem _ h)
theorem G8{t:aR}:∀(l acc:List (List Int)),(l.foldl (lA t) acc).length≤acc.length+l.length
 | [],acc=>by simp
 |s::l,acc=>by
  have h1:=G8 (t:=t) l (lA t acc s);have h2:(lA t acc s).length≤acc.length+1:=by
   unfold lA;split
   ·omega
   ·simp
  rw[List.foldl_cons,List.length_cons];omega
theorem sL{t:aR}{k:Nat}{u:List Int}(h:u∈fQ t k):u∈dK t:=by
 rcases uN _ _ u h with h|h
 ·cases h
 ·exact List.mem_of_mem_take h
theorem Q3(t:aR)(k:Nat):(fQ t k).length≤(dK t).length:=by
 have h1:=G8 (t:=t) ((dK t).take k) [];have h2:=List.length_take_le k (dK t);rw[List.length_take]at h1;unfold fQ;simp only[List.length_nil]at h1;omega
def mL:List (Int×Int)→Int
 | []=>1
 |r::l=>dY r*mL l
theorem B5:∀(l:List (Int×Int)) (m:Int),(∀r∈l,eS r=true)→0≤m→l.foldl (fun(m:Int) r=>min (m*dY r) 2001) m≤2000→m*mL l≤2000∧1≤mL l
 | [],m,_,_,h=>by simpa [mL]using h
 |r::l,m,hr,hm,h=>by
  have h1:1≤dY r:=by
   have h1:=hr r List.mem_cons_self;unfold eS dB at h1;simp only[Bool.and_eq_true,decide_eq_true_eq,bT]at h1;unfold dY;omega
  have h2:0≤m*dY r:=Int.mul_nonneg hm Yd;rw[List.foldl_cons]at h;obtain⟨h3,h4⟩:=B5 l (min (m*dY r) 2001) (fun q hq=>hr q (List.mem_cons_of_mem _ hq)) Yd h;have h5:1≤dY r*mL l:=by
   have:=Int.mul_le_mul h1 h4 Yd Yd;omega
  refine⟨?_,h5⟩;show m*(dY r*mL l)≤2000;rw[←Int.mul_assoc];by_cases hc:m*dY r≤2001
  ·rwa [Int.min_eq_left hc]at h3
  ·rw[Int.min_eq_right Yd]at h3;omega
theorem gX{α β:Type}{f:α→List β}{n:Nat}:∀(l:List α),(∀x∈l,(f x).length≤n)→(l.flatMap f).length≤l.length*n
 | [],_=>by simp
 |x::l,h=>by
  have h1:=gX l fun y hy=>h y (List.mem_cons_of_mem _ hy)
  have h2:=h x List.mem_cons_self;rw[List.flatMap_cons,List.length_append,List.length_cons,Nat.add_mul];omega
theorem nZ{step:Int}:∀(rs:List (Int×Int)) (p:Option Int),(∀r∈rs,eS r=true)→1≤mL rs∧((eZ step rs p).length:Int)≤mL rs
 | [],p,_=>by simp[eZ,mL]
 |r::rs,p,hr=>by
  have h1:1≤dY r:=by
   have h1:=hr r List.mem_cons_self;unfold eS dB at h1;simp only[Bool.and_eq_true,decide_eq_true_eq,bT]at h1;unfold dY;omega
  have h2:=nZ (step:=step) rs none fun q hq=>hr q (List.mem_cons_of_mem _ hq)
  have h3:(eZ step (r::rs) p).length≤(List.range (dY r).toNat).length*(mL rs).toNat:=by
   simp only[eZ];refine gX _ fun k _=>?_
   split
   ·rw[List.length_map];have:=(nZ (step:=step) rs (some (r.1+(k:Int))) fun q hq=>hr q (List.mem_cons_of_mem _ hq)).2;omega
   ·exact Nat.zero_le _
  rw[List.length_range]at h3;have h4:(((dY r).toNat*(mL rs).toNat:Nat):Int)=dY r*mL rs:=by
   rw[Int.natCast_mul,Int.toNat_of_nonneg Yd,Int.toNat_of_nonneg Yd]
  have h5:=Int.mul_le_mul h1 h2.1 Yd Yd;refine⟨?_,?_⟩
  ·show 1≤dY r*mL rs;omega
  ·show _≤dY r*mL rs;rw[←h4];exact Int.ofNat_le.2 h3
theorem Y7{t:aR}(h:aV t=0):kH t.heights≤2000:=by
 unfold aV at h;split at h
 ·omega
 ·split at h
  ·omega
  ·split at h
   ·omega
   ·omega
theorem uV{t:aR}(h:aV t=0):(dK t).length≤2000:=by
 have h1:=nQ h;have h2:=(nZ (step:=t.step) t.heights none h1.hts).2;have h3:=(B5 t.heights 1 h1.hts Yd (Y7 h)).1;show(eZ t.step t.heights none).length≤2000;omega
theorem gU{t:aR}{s:List Int}(h:s∈dK t):s.length=t.heights.length:=yW _ _ _ h
def qT(l:List (List Int))(last:Int)(S:List (Int×Int)):Prop:=∀p,p∈S ↔∃s∈l,∃j:Nat,(j:Int)≤last∧p=((j:Int),s.getD j 0)
theorem qT.nil{last:Int}:qT [] last []:=fun p=>by simp
end C2
open C1 C2
def T1:Rd Mk:=fun _ m cs=>cs=[.int .i64 m.frm,.int .i64 m.to,.int .i64 m.lo,.int .i64 m.hi]
theorem T1.up:T1.Up:=fun _ _ _ h=>h
def vT:Rd (Int×Int):=fun _ p cs=>cs=[.int .i64 p.1,.int .i64 p.2]
theorem vT.up:vT.Up:=fun _ _ _ h=>h
def SH(m:Mk):Value:=.agg #[.int .i64 m.frm,.int .i64 m.to,.int .i64 m.lo,.int .i64 m.hi]
def eR(D:aA)(v:Value)(t:aR):Prop:=∃hv lv mv,v=.agg #[.int .i64 t.last,hv,.int .i64 t.step,lv,mv]∧Sl D vT 2 hv t.heights∧Sl D RI 1 lv t.levels∧Sl D T1 4 mv t.marks
def zD:Rd (List Int):=fun _ l cs=>cs=ints (bQ l)
theorem zD.up:zD.Up:=fun _ _ _ h=>h
def rM(l:List (List Int)):List Value:=l.flatMap fun s=>ints (bQ s)
theorem Y3{l:List (List Int)}(h:∀s∈l,s.length≤10):(rM l).length=l.length*10:=by
 induction l with
 |nil=>rfl
 |cons c l ih=>
  have:=ih fun s hs=>h s (List.mem_cons_of_mem _ hs)
  unfold rM at this ⊢
  rw[List.flatMap_cons,List.length_append,this,aQ,dM (h c List.mem_cons_self),List.length_cons];omega
theorem R8{l:List (List Int)}(h:∀s∈l,s.length≤10){i:Nat}{s:List Int}(hi:l[i]?= some s)(junk:List Value):((rM l++junk).drop (i*10)).take 10=ints (bQ s):=by
 induction l generalizing i with
 |nil=>simp at hi
 |cons d l ih=>
  have h9:(ints (bQ d)).length=10:=by rw[aQ,dM (h d List.mem_cons_self)]
  have hc:rM (d::l)=ints (bQ d)++rM l:=rfl;rw[hc,List.append_assoc];cases i with
  |zero=>
   obtain rfl:d=s:=by simpa using hi
   rw[Nat.zero_mul,List.drop_zero,List.take_append_of_le_length Yd,List.take_of_length_le Yd]
  |succ i=>
   rw[show(i+1)*10=(ints (bQ d)).length+i*10 by omega,List.drop_length_add_append];exact ih (fun s hs=>h s (List.mem_cons_of_mem _ hs)) (by simpa using hi)
theorem kQ.seas{D:aA}{v:Value}{n:Nat}{l:List (List Int)}(hF:kQ D v n (rM l))(hn:l.length=n)(hb:n≤9223372036854775807)(h:∀t∈l,t.length≤10):Sl D zD 10 v l:=
 hF.sl hn hb fun i t hi=>⟨Fs.ints (bQ t),rfl,by rw[Fs.aQ,dM (h t (List.mem_of_getElem? hi))],by have:=R8 h hi [];rwa [List.append_nil]at this⟩
theorem eR.up{D D':aA}{v:Value}{t:aR}(h:eR D v t)(hl:Le D D'):eR D' v t:=by
 obtain⟨hv,lv,mv,e,h1,h2,h3⟩:=h;exact⟨hv,lv,mv,e,h1.up vT.up hl,h2.up RI.up hl,h3.up T1.up hl⟩
end Go.Fs
namespace Go.Fs
namespace C3
open C1 (eY bT)
structure iD where
 kind:Int
 chair:Int
 token:Int
deriving DecidableEq
structure Cn where
 after:Int
 lo:Int
 hi:Int
deriving DecidableEq
structure eU where
 chairs:Int
 coin:Int
 box:Int
 lines:List iD
 counts:List Cn
def tF(n:Int)(l:iD):Bool:=eY l.kind 0 2&&eY l.chair (-1) (n-1)&&eY l.token (-1) (n-1)
def kV(len:Int)(c:Cn):Bool:=eY c.after 0 len&&decide (0≤c.lo)&&decide (c.lo≤c.hi)&&decide (c.hi≤2000)
def dL(sign none lo hi:Int):List Int:=if sign≠none then [sign]else(List.range (hi+1-lo).toNat).map fun i:Nat=>lo+(i:Int)
def jG(n:Int)(l:iD):List iD:=(dL l.kind 0 1 2).flatMap fun k=>(dL l.chair (-1) 0 (n-1)).flatMap fun c=>(dL l.token (-1) 0 (n-1)).map fun t=>⟨k,c,t⟩
def rD(n:Int)(ls:List iD):Int:=ls.foldl (fun m l=>min (m*(jG n l).length) 4097) 1
def tR(b:eU):Bool:=eY b.chairs 1 4&&eY b.coin 1 99&&eY b.box 0 999&&b.lines.all (tF b.chairs)&&b.counts.all (kV b.lines.length)
def aV(b:eU):Int:=if 8<b.lines.length∨4<b.counts.length then 3 else if tR b=false then 1 else if 4096<rD b.chairs b.lines then 3 else 0
structure Sc where
 ch:List Int
 tk:List Int
 money:Int
 mixed:Int
deriving DecidableEq
def UR(s:Sc):List Int:=s.ch++s.tk++[s.money,s.mixed]
def PA(l:List Int)(i:Int):Int:=l.getD i.toNat 0
def UF(s:Sc)(l:iD):Bool:=(decide (PA s.ch l.chair≠0)==decide (l.kind=2))&&(decide (PA s.tk l.token≠0)==decide (l.kind=2))
def TI(b:eU)(s:Sc)(i:Int)(l:iD):Sc:=
 if l.kind=2 then⟨s.ch.set l.chair.toNat 0,s.tk.set l.token.toNat 0,s.money-b.coin,if PA s.ch l.chair≠PA s.tk l.token then s.mixed+1 else s.mixed⟩
 else⟨s.ch.set l.chair.toNat (i+1),s.tk.set l.token.toNat (i+1),s.money+b.coin,s.mixed⟩
def Q1(b:eU)(s:Sc)(after:Int):Bool:=b.counts.all fun c=>decide (c.after≠after)||eY s.money c.lo c.hi
def n7(b:eU):Sc:=⟨[0,0,0,0],[0,0,0,0],b.box,0⟩
def QM(b:eU):List iD→Nat→Sc→List (List iD×List Sc)
 | [],i,s=>if Q1 b s i=true then [([],[s])]else []
 |l::ls,i,s=>if Q1 b s i=true then(jG b.chairs l).flatMap fun r=>if UF s r=true then(QM b ls (i+1) (TI b s i r)).map fun x=>(r::x.1,s::x.2)else []else []
def truths(b:eU):List (List iD×List Sc):=QM b b.lines 0 (n7 b)
def TH(b:eU)(fine:Bool):Int:=if aV b≠0 then aV b else if fine=false then 2 else if truths b=[]then 11 else 0
def UU(ss:List Sc)(k:Nat):Sc:=ss.getD k ⟨[],[],0,0⟩
end C3
open C1 C3
def oB:Rd iD:=fun _ l cs=>cs=[.int .i64 l.kind,.int .i64 l.chair,.int .i64 l.token]
theorem oB.up:oB.Up:=fun _ _ _ h=>h
def oR:Rd Cn:=fun _ c cs=>cs=[.int .i64 c.after,.int .i64 c.lo,.int .i64 c.hi]
theorem oR.up:oR.Up:=fun _ _ _ h=>h
def p6(l:iD):Value:=.agg #[.int .i64 l.kind,.int .i64 l.chair,.int .i64 l.token]
def SF(c:Cn):Value:=.agg #[.int .i64 c.after,.int .i64 c.lo,.int .i64 c.hi]
def pS(D:aA)(v:Value)(b:eU):Prop:=∃lv cv,v=.agg #[.int .i64 b.chairs,.int .i64 b.coin,.int .i64 b.box,lv,cv]∧Sl D oB 3 lv b.lines∧Sl D oR 3 cv b.counts
theorem pS.up{D D':aA}{v:Value}{b:eU}(h:pS D v b)(hl:Le D D'):pS D' v b:=by
 obtain⟨lv,cv,e,h1,h2⟩:=h;exact⟨lv,cv,e,h1.up oB.up hl,h2.up oR.up hl⟩
def SM(s:Sc):Value:=.agg (ints (UR s)).toArray
def PG:Rd Sc:=fun _ s cs=>cs=ints (UR s)
theorem PG.up:PG.Up:=fun _ _ _ h=>h
end Go.Fs
namespace Go.Fs.C3
open C1 (eY bT)

structure IX(b:eU)(s:Sc):Prop where
 lc:s.ch.length=4
 lt:s.tk.length=4
 pc:∀x∈s.ch,0≤x∧x≤8
 pt:∀x∈s.tk,0≤x∧x≤8
end Go.Fs.C3
namespace Go.Fs.C3
open C1 (eY bT)


end Go.Fs.C3
namespace Go.Fs
variable{P:Program}{X:Cx}{γb:Type}[Membership Nat γb]{bad:γb}{all:Array Oper}{K:Act→World→Prop}{Q:Exit→Act→World→Prop}
variable{σ:bF}{μ:aB}{Ds:List aA}{os:List (Bool×Nat)}{fl:Bool}{ix:Nat}
variable{d:Nat}{x y z:Operand}{u v:Value}{ty:TypeId}{pos:String}{aft:Array Edge}{g:Option (Nat×Bool)}
variable{k':IntKind}{m n:Nat}{t t':TypeId}
def lU(m n:Nat):Nat:=m ^^^ (m&&&n)
theorem vX(m n i:Nat):(lU m n).testBit i=(m.testBit i&& !n.testBit i):=by
 unfold lU;rw[Nat.testBit_xor,Nat.testBit_and];cases m.testBit i<;>cases n.testBit i<;>rfl
theorem rS(m n:Nat):lU m n≤m:=by
 apply Nat.le_of_testBit;intro i hi;rw[vX]at hi;simp at hi;exact hi.1
theorem nE{m:Nat}(h:m<9223372036854775808):(BitVec.ofInt IntKind.i64.bits (m:Int)).toNat=m:=by
 rw[BitVec.ofInt_natCast,BitVec.toNat_ofNat];exact Nat.mod_eq_of_lt (by show m<2^64;omega)
theorem QW{m n:Nat}(h:m<9223372036854775808):m&&&n<9223372036854775808:=Nat.lt_of_le_of_lt Nat.and_le_left h
theorem TC{m n:Nat}(h:m<9223372036854775808)(h':n<9223372036854775808):m|||n<9223372036854775808:=Nat.or_lt_two_pow (n:=63) h h'
theorem PV(ho:all[ix]?= some ⟨some d,.binOp .and t x y t',ty,pos,aft,g⟩)(hx:ev σ x=some (.int .i64 (m:Int)))(hy:ev σ y=some (.int .i64 (n:Int)))(hm:m<9223372036854775808)(hn:n<9223372036854775808)(hN:Nat.blt d X.N=true)(hg:cR all σ g)
  (kk:WL P X bad all K Q os ((d,.int .i64 ((m&&&n:Nat):Int))::σ) μ Ds):WL P X bad all K Q ((fl,ix)::os) σ μ Ds:=
 bD ho rfl rfl hN hg (fun ρ hρ w'=>gS Ye (by
  have e:(BitVec.ofInt IntKind.i64.bits (m:Int)&&&BitVec.ofInt IntKind.i64.bits (n:Int)).toNat=m&&&n:=by rw[BitVec.toNat_and,nE hm,nE hn]
  have h2:=QW (n:=n) hm;have h3:qD .i64 ((m&&&n:Nat):Int):=by simp only[qD];omega
  simp only[binOp,ne_eq,not_true_eq_false,if_false,Op.intBits,e,jF h3];rfl) (hρ x _ hx) (hρ y _ hy)) kk
theorem FS(ho:all[ix]?= some ⟨some d,.binOp .or t x y t',ty,pos,aft,g⟩)(hx:ev σ x=some (.int .i64 (m:Int)))(hy:ev σ y=some (.int .i64 (n:Int)))(hm:m<9223372036854775808)(hn:n<9223372036854775808)(hN:Nat.blt d X.N=true)(hg:cR all σ g)
  (kk:WL P X bad all K Q os ((d,.int .i64 ((m|||n:Nat):Int))::σ) μ Ds):WL P X bad all K Q ((fl,ix)::os) σ μ Ds:=
 bD ho rfl rfl hN hg (fun ρ hρ w'=>gS Ye (by
  have e:(BitVec.ofInt IntKind.i64.bits (m:Int)|||BitVec.ofInt IntKind.i64.bits (n:Int)).toNat=m|||n:=by rw[BitVec.toNat_or,nE hm,nE hn]
  have h2:=TC hm hn;have h3:qD .i64 ((m|||n:Nat):Int):=by simp only[qD];omega
  simp only[binOp,ne_eq,not_true_eq_false,if_false,Op.intBits,e,jF h3];rfl) (hρ x _ hx) (hρ y _ hy)) kk
theorem JS(ho:all[ix]?= some ⟨some d,.binOp .andNot t x y t',ty,pos,aft,g⟩)(hx:ev σ x=some (.int .i64 (m:Int)))(hy:ev σ y=some (.int .i64 (n:Int)))(hm:m<9223372036854775808)(hn:n<9223372036854775808)(hN:Nat.blt d X.N=true)(hg:cR all σ g)
  (kk:WL P X bad all K Q os ((d,.int .i64 ((lU m n:Nat):Int))::σ) μ Ds):WL P X bad all K Q ((fl,ix)::os) σ μ Ds:=
 bD ho rfl rfl hN hg (fun ρ hρ w'=>gS Ye (by
  have e:(BitVec.ofInt IntKind.i64.bits (m:Int)&&& ~~~ BitVec.ofInt IntKind.i64.bits (n:Int)).toNat=lU m n:=by
   apply Nat.eq_of_testBit_eq;intro i;rw[vX,BitVec.testBit_toNat,BitVec.getLsbD_and,BitVec.getLsbD_not,←BitVec.testBit_toNat,←BitVec.testBit_toNat,nE hm,nE hn];by_cases hi:i<IntKind.i64.bits
   ·simp[hi]
   ·have:m.testBit i=false:=Nat.testBit_lt_two_pow (Nat.lt_of_lt_of_le hm (Nat.le_trans (show 9223372036854775808≤2^64 by decide) (Nat.pow_le_pow_right Yz (show 64≤i from Nat.le_of_not_lt hi))));simp[this]
  have h2:=rS m n;have h3:qD .i64 ((lU m n:Nat):Int):=by simp only[qD];omega
  simp only[binOp,ne_eq,not_true_eq_false,if_false,Op.intBits,e,jF h3];rfl) (hρ x _ hx) (hρ y _ hy)) kk
theorem m5{a b:Int}(ho:all[ix]?= some ⟨some d,.binOp .or t x y t',ty,pos,aft,g⟩)(hx:ev σ x=some (.int .i64 a))(hy:ev σ y=some (.int .i64 b))(ha:0≤a∧a≤1)(hb:0≤b∧b≤1)(hN:Nat.blt d X.N=true)(hg:cR all σ g)
  (kk:WL P X bad all K Q os ((d,.int .i64 (max a b))::σ) μ Ds):WL P X bad all K Q ((fl,ix)::os) σ μ Ds:=by
 have h1:a=((a.toNat:Nat):Int):=by omega
 have h2:b=((b.toNat:Nat):Int):=by omega
 have h3:max a b=((a.toNat|||b.toNat:Nat):Int):=by
  have ha':a=0∨a=1:=by omega
  have hb':b=0∨b=1:=by omega
  rcases ha' with rfl|rfl<;>rcases hb' with rfl|rfl<;>decide
 rw[h3]at kk;rw[h1]at hx;rw[h2]at hy;exact FS ho hx hy Yd Yd hN hg kk
theorem PF{k:IntKind}{a:Int}(ho:all[ix]?= some ⟨some d,.unOp .neg t x,ty,pos,aft,g⟩)(hx:ev σ x=some (.int k a))(hr:qD k (-a))(hN:Nat.blt d X.N=true)(hg:cR all σ g)
  (kk:WL P X bad all K Q os ((d,.int k (-a))::σ) μ Ds):WL P X bad all K Q ((fl,ix)::os) σ μ Ds:=
 bD ho rfl rfl hN hg (fun ρ hρ w'=>by
  have h2:(0:Int)-a= -a:=by omega
  simp only[execOp,hρ x _ hx,Op.unary,Op.intArith,h2,jF hr];rfl) kk
theorem Q6{t e:TypeId}{n sz:Nat}{parts:Array (Nat×Operand)}{us:List (Nat×Value)}{zs cs:List Value}(ho:all[ix]?= some ⟨some d,.build t parts,ty,pos,aft,g⟩)(ht:P.underlying t=some (.array n e))(hs:TS P e sz)(hz:TZ P t (.agg zs.toArray))(hu:zR σ parts.toList=some us)
  (hf:Instr.fill (fun i=>some (i*sz,sz)) zs.toArray us=some cs.toArray) (hN:Nat.blt d X.N=true) (hg:cR all σ g) (kk:WL P X bad all K Q os ((d,.agg cs.toArray)::σ) μ Ds):WL P X bad all K Q ((fl,ix)::os) σ μ Ds:=
 bD ho rfl rfl hN hg (fun ρ hρ w'=>by
  have e:(parts.map fun(i,x)=>(i,ρ x)).toList=us:=by rw[←qC hρ hu];simp
  simp only[execOp,Instr.build,Sem.run_bind,hz w',Result.andThen_ok,TU.of ht w',hs w',Value.cells,e,hf,Sem.run_pure]) kk
theorem AZ{op:BinOp}(he:op=.shl∨op=.shr){k:IntKind}{a b:Int}{w:World}{r:Value}(h:(Op.shift op k a k' b).run P w=.ok r w){ρ:Operand→Value}(hx:ρ x=.int k a)(hy:ρ y=.int k' b):
  (execOp ρ ⟨some d,.binOp op t x y t',ty,pos,aft,g⟩).run P w=.ok (.value r) w:=by
 rcases he with rfl|rfl<;>simp[execOp,hx,hy,binOp,h,go_sem]
theorem KF(ho:all[ix]?= some ⟨some d,.binOp .shr t x y t',ty,pos,aft,g⟩)(hx:ev σ x=some (.int .i64 (m:Int)))(hy:ev σ y=some (.int k' (n:Int)))(hn:n≤62)(hN:Nat.blt d X.N=true)(hg:cR all σ g)
  (kk:WL P X bad all K Q os ((d,.int .i64 ((m >>> n:Nat):Int))::σ) μ Ds):WL P X bad all K Q ((fl,ix)::os) σ μ Ds:=
 bD ho rfl rfl hN hg (fun ρ hρ w'=>AZ (Or.inr rfl) (by
  have h1:¬((n:Int)<0):=by omega
  have h2:min (n:Int).toNat IntKind.i64.bits=n:=by rw[Int.toNat_natCast];exact Nat.min_eq_left (Nat.le_trans hn Yz)
  have h3:(m:Int).fdiv (2^n)=((m >>> n:Nat):Int):=by
   rw[Nat.shiftRight_eq_div_pow,Int.fdiv_eq_ediv_of_nonneg _ (by exact_mod_cast Nat.zero_le (2^n))];simp
  simp only[Op.shift,h1,if_false,h2,h3];rfl) (hρ x _ hx) (hρ y _ hy)) kk
theorem pW(m n:Nat):((m >>> n:Nat):Int)%2=if m.testBit n then 1 else 0:=by
 rw[Nat.testBit,Nat.one_and_eq_mod_two];have:=Nat.mod_two_eq_zero_or_one (m >>> n);rcases this with h|h
 ·have:((m >>> n:Nat):Int)%2=0:=by omega
  rw[this];simp[h]
 ·have:((m >>> n:Nat):Int)%2=1:=by omega
  rw[this];simp[h]
end Go.Fs
namespace Go.Fs
namespace C7
structure Pt where
 a:Int
 b:Int
 c:Int
deriving DecidableEq
structure Ch where
 size:Int
 parts:Pt
structure bO where
 chairs:List Ch
 fit:Int
 claims:List (Int×Int)
def Pt.l(p:Pt):List Int:=[p.a,p.b,p.c]
def eY(n lo hi:Int):Bool:=decide (lo≤n)&&decide (n≤hi)
theorem bT{n lo hi:Int}:eY n lo hi=true ↔ lo≤n∧n≤hi:=by simp[eY]
def y7(p:Pt)(m:Int):Bool:=p.l.all fun n=>eY n 0 m
def fY(c:Ch):Bool:=eY c.size 0 9&&y7 c.parts 2
def jN(r:Int×Int):Bool:=(decide (0≤r.1)&&decide (r.1≤r.2))&&decide (r.2≤7)
def PU(p:Pt):Nat:=(p.l.filter fun n=>decide (n=2)).length
def gR(l:List Ch):Nat:=(l.map fun c=>PU c.parts).sum
def rF(y:bO):Bool:=(eY y.fit 0 9&&y.chairs.all fY)&&y.claims.all jN
def aV(y:bO):Int:=if 7<y.chairs.length∨5<y.claims.length then 3 else if rF y=false then 1 else if 8<gR y.chairs then 3 else 0
def g8(n t:Int):Bool:=eY t 0 1&&(decide (n=2)||decide (t=n))
def gM(p:Pt):Bool:=decide (p=⟨1,1,1⟩)
def whole(t:List Pt):Nat:=(t.filter gM).length
end C7
open C7
def TY(p:Pt):Value:=.agg #[.int .i64 p.a,.int .i64 p.b,.int .i64 p.c]
def SE(c:Ch):Value:=.agg #[.int .i64 c.size,.int .i64 c.parts.a,.int .i64 c.parts.b,.int .i64 c.parts.c]
def RP:Rd Pt:=fun _ p cs=>cs=[.int .i64 p.a,.int .i64 p.b,.int .i64 p.c]
theorem RP.up:RP.Up:=fun _ _ _ h=>h
def qY:Rd Ch:=fun _ c cs=>cs=[.int .i64 c.size,.int .i64 c.parts.a,.int .i64 c.parts.b,.int .i64 c.parts.c]
theorem qY.up:qY.Up:=fun _ _ _ h=>h
def R2:Rd (Int×Int):=fun _ p cs=>cs=[.int .i64 p.1,.int .i64 p.2]
theorem R2.up:R2.Up:=fun _ _ _ h=>h
def kS(D:aA)(v:Value)(y:bO):Prop:=∃cv rv,v=.agg #[cv,.int .i64 y.fit,rv]∧Sl D qY 4 cv y.chairs∧Sl D R2 2 rv y.claims
theorem kS.up{D D':aA}{v:Value}{y:bO}(h:kS D v y)(hl:Le D D'):kS D' v y:=by
 obtain⟨cv,rv,hv,hc,hr⟩:=h;exact⟨cv,rv,hv,hc.up qY.up hl,hr.up R2.up hl⟩
end Go.Fs
namespace Go.Fs
variable{P:Program}{X:Cx}{γb:Type}[Membership Nat γb]{bad:γb}{all:Array Oper}{K:Act→World→Prop}{Q:Exit→Act→World→Prop}
variable{σ:bF}{μ:aB}{Ds:List aA}{os:List (Bool×Nat)}{fl:Bool}{ix:Nat}
variable{d:Nat}{x y z:Operand}{u v:Value}{ty:TypeId}{pos:String}{aft:Array Edge}{g:Option (Nat×Bool)}
abbrev aB.ks(μ:aB):List Nat:=μ.map fun p=>p.1
def O8(P:Program)(f:FuncId)(args:List Value)(D:aA)(ν:aB)(post:aA→Value→aB→Prop):Prop:=
 EF P f∧∀w,dD D w→(∀p∈ν,w.heap[p.1]?= some p.2∧D p.1=[]∧cB p.2)→ν.ks.Nodup→Calls P f args.toArray w fun e w'=>∃v D' ν',e=.returned v∧ν'.ks=ν.ks∧fA (hd w) w.heap.size D ν.ks ν' D' w'∧post D' v ν'
theorem fA.afterM{h0:H0}{lo:Nat}{D0 D D':aA}{mods:List Nat}{A B ν ν':aB}{w w':World}(h:fA h0 lo D0 mods (A++ν++B) D w)(hk:ν'.ks=ν.ks)(hs:fA (hd w) w.heap.size D ν.ks ν' D' w'):fA h0 lo D0 mods (A++ν'++B) D' w':=by
 have hle:=Nat.le_trans h.hlo h.size;have hin:∀c∈ν.ks,∃o,(c,o)∈ν:=fun c hc=>by
  obtain⟨p,hp,rfl⟩:=List.mem_map.1 hc;exact⟨p.2,hp⟩
 have hbx:∀p∈ν,_:=fun p hp=>h.box p (List.mem_append_left _ (List.mem_append_right _ hp))
 have hnd:=h.nd;simp only[List.map_append]at hnd;have keys:(A++ν'++B).map (fun p=>p.1)=(A++ν++B).map (fun p=>p.1):=by
  simp only[List.map_append];rw[show ν'.map (fun p=>p.1)=ν.map (fun p=>p.1)from hk]
 refine⟨h.hlo,Nat.le_trans h.size hs.size,fun c hc hm=>?_,fun c hc=>?_,hs.agr,fun p hp=>?_,by rw[keys];exact h.nd,fun p hp=>?_,fun e he=>(hs.env _ rfl).trans (h.env e he)⟩
 ·have hne:c∉ν.ks:=by
   intro hcm;obtain⟨o,ho⟩:=hin c hcm;rcases(hbx _ ho).2.2 with h'|h'
   ·have:=h.hlo;simp at h';omega
   ·exact hm h'
  rw[hs.old c (Nat.lt_of_lt_of_le hc hle) hne];exact h.old c hc hm
 ·rw[hs.dold c (Nat.lt_of_lt_of_le hc hle)];exact h.dold c hc
 ·rcases List.mem_append.1 hp with hp|hp
  ·rcases List.mem_append.1 hp with hp|hp
   ·obtain⟨h1,h2,h3⟩:=h.box p (List.mem_append_left _ (List.mem_append_left _ hp));have hl:=bA h1;have hne:p.1∉ν.ks:=fun hm=>(List.nodup_append.1 (List.nodup_append.1 hnd).1).2.2 p.1 (List.mem_map.2 ⟨p,hp,rfl⟩) p.1 hm rfl
    exact⟨by rw[hs.old _ hl hne];exact h1,by rw[hs.dold _ hl];exact h2,h3⟩
   ·obtain⟨q1,q2,_⟩:=hs.box p hp;have hm:p.1∈ν.ks:=by rw[←hk];exact List.mem_map.2 ⟨p,hp,rfl⟩
    obtain⟨o,ho⟩:=hin p.1 hm;exact⟨q1,q2,(hbx _ ho).2.2⟩
  ·obtain⟨h1,h2,h3⟩:=h.box p (List.mem_append_right _ hp);have hl:=bA h1;have hne:p.1∉ν.ks:=fun hm=>(List.nodup_append.1 hnd).2.2 p.1 (List.mem_append_right _ hm) p.1 (List.mem_map.2 ⟨p,hp,rfl⟩) rfl
   exact⟨by rw[hs.old _ hl hne];exact h1,by rw[hs.dold _ hl];exact h2,h3⟩
 ·rcases List.mem_append.1 hp with hp|hp
  ·rcases List.mem_append.1 hp with hp|hp
   ·exact h.fz p (List.mem_append_left _ (List.mem_append_left _ hp))
   ·exact hs.fz p hp
  ·exact h.fz p (List.mem_append_right _ hp)
theorem iQ{c:Operand}{xs:Array Operand}{ats:Array TypeId}{f:FuncId}{c1 c2:List Value}{vs:List Value}{A B ν:aB}{post:aA→Value→aB→Prop}(ho:all[ix]?= some ⟨some d,.call {callee:=.value c,args:=xs,argTypes:=ats},ty,pos,aft,g⟩)(hc:ev σ c=some (.func (.func f) c1.toArray c2.toArray))(hxs:zJ σ xs.toList=some vs)
  (hex:X.ex=none) (hfl:fl=false∨∀p∈ν,p.1∈bad) (hu:∀p∈ν,cB p.2) (hf:∀D,(∀D₁∈Ds,Le D₁ D)→O8 P f (c1++vs++c2) D ν post) (hN:Nat.blt d X.N=true) (hg:cR all σ g)
  (kk:∀v D ν',(∀D₁∈Ds,Le D₁ D)→post D v ν'→WL P X bad all K Q os ((d,v)::σ) (A++ν'++B) (D::Ds)):
  WL P X bad all K Q ((fl,ix)::os) σ (A++ν++B) Ds:=by
 refine dW ho rfl rfl hg fun a w hh=>?_
 obtain⟨h1,h2,h3,D,h4,h5,h6⟩:=id hh;have hF:=hf D h5;have hbx:∀p∈ν,_:=fun p hp=>h4.box p (List.mem_append_left _ (List.mem_append_right _ hp))
 have hnd:=h4.nd;simp only[List.map_append]at hnd;rw[pK hF.1 (hh.eval hc) (iJ (fun _ _ hx=>hh.eval hx) hxs)];refine⟨fun h=>by simp[FW]at h,cQ.2 ((hF.2 w h4.agr (fun p hp=>⟨(hbx p hp).1,(hbx p hp).2.1,hu p hp⟩) (List.nodup_append.1 (List.nodup_append.1 hnd).1).2.1).mono ?_)⟩;rintro e w' ⟨v,D',ν',rfl,hk,hs,hpost⟩;have hle:=eM h4.agr hs;refine⟨fun hflt=>⟨hs.size,fun c hc hcb=>hs.old c hc (fun hm=>?_)⟩,kk v D' ν' (fun D₁ hD₁=>(h5 D₁ hD₁).trans hle) hpost _ _ ?_⟩
 ·obtain⟨p,hp,rfl⟩:=List.mem_map.1 hm;rcases hfl with h|h
  ·rw[hflt]at h;cases h
  ·exact hcb (h p hp)
 ·refine Hl.put ⟨h1,h2,h3,D',h4.afterM hk hs,fun D₁ hD₁=>?_,by unfold sG;rw[hex];trivial⟩ hN v;rcases List.mem_cons.1 hD₁ with rfl|hD₁
  ·exact Le.refl _
  ·exact(h5 D₁ hD₁).trans hle
theorem yD{c:Operand}{xs:Array Operand}{ats:Array TypeId}{f:FuncId}{c1 c2:List Value}{vs:List Value}{A ν:aB}{post:aA→Value→aB→Prop}(ho:all[ix]?= some ⟨some d,.call {callee:=.value c,args:=xs,argTypes:=ats},ty,pos,aft,g⟩)(hc:ev σ c=some (.func (.func f) c1.toArray c2.toArray))(hxs:zJ σ xs.toList=some vs)
  (hex:X.ex=none) (hfl:fl=false∨∀p∈ν,p.1∈bad) (hu:∀p∈ν,cB p.2) (hf:∀D,(∀D₁∈Ds,Le D₁ D)→O8 P f (c1++vs++c2) D ν post) (hN:Nat.blt d X.N=true) (hg:cR all σ g)
  (kk:∀v D ν',(∀D₁∈Ds,Le D₁ D)→post D v ν'→WL P X bad all K Q os ((d,v)::σ) (A++ν') (D::Ds)):
  WL P X bad all K Q ((fl,ix)::os) σ (A++ν) Ds:=by
 have:=iQ (A:=A) (B:=[]) ho hc hxs hex hfl hu hf hN hg (fun v D ν' h1 h2=>by rw[List.append_nil];exact kk v D ν' h1 h2)
 rwa [List.append_nil]at this
def iH(X:Cx)(ks:List Nat)(post:aA→Value→aB→Prop):Ending→World→Prop:=fun e w'=>∃v D' ν',e=.returned v∧ν'.ks=ks∧fA X.h0 X.lo X.D0 X.mods ν' D' w'∧post D' v ν'
theorem dF{fn:Func}{ks:List Nat}{post:aA→Value→aB→Prop}:NP (bodyPost P fn (iH X ks post)):=by
 rintro c a w ⟨_,v,D',μ',h,_⟩;cases h
def kJ(N:Nat)(h0:H0)(D:aA)(ks:List Nat):Cx:=⟨none,N,[],h0,h0.size,D,ks,none⟩
theorem gI{f:FuncId}{fn:Func}{c:Code}{args:List Value}{D:aA}{ν:aB}{post:aA→Value→aB→Prop}(N:Nat)(hf:P.funcs[f]?= some fn)(hn:(fn.name== "runtime.NumGoroutine")=false)(hb:fn.body=some c)(hN:fn.ntmps=N)(hsz:Nat.ble args.length N=true)
  (h:∀h0:H0,(∀p∈ν,p.1<h0.size)→ν.ks.Nodup→WC P (kJ N h0 D ν.ks) (bodyPost P fn (iH (kJ N h0 D ν.ks) ν.ks post)) c (fJ 0 args) ν [D]):O8 P f args D ν post:=by
 refine⟨EF.of hf hn hb,fun w hw hν hnd=>?_⟩;subst hN;have hsz:=Nat.le_of_ble_eq_true hsz;refine(cQ (r:=none) (n:=0)).1 ((callsIn_of_wp (R:=iH (kJ fn.ntmps (hd w) D ν.ks) ν.ks post) hf hb trivial (h (hd w) (fun p hp=>bA (hν p hp).1) hnd _ w ⟨?_,fun s v hs=>?_,rfl,D,⟨Nat.le_refl _,Nat.le_refl _,fun _ _ _=>rfl,fun _ _=>rfl,hw,(fun p hp=>?_),hnd,(fun p hp=>(hν p hp).2.2),fun e he=>Option.some.inj he⟩,fun D₁ h1=>?_,trivial⟩) rfl).mono ?_)
 ·simp[kJ];omega
 ·obtain⟨_,h2⟩:=dP args 0 s v hs;have hl:=(List.getElem?_eq_some_iff.1 h2).1;simp only[Nat.sub_zero]at h2 hl;show(args.toArray++_)[s]?= some v;rw[Array.getElem?_append_left Yab];simpa using h2
 ·exact⟨(hν p hp).1,(hν p hp).2.1,Or.inr (List.mem_map.2 ⟨p,hp,rfl⟩)⟩
 ·simp only[List.mem_singleton]at h1;subst h1;exact Le.refl _
 ·rintro e w' ⟨v,D',ν',rfl,hk,hs,hp⟩;exact⟨v,D',ν',rfl,hk,hs,hp⟩
theorem eV{fn:Func}{ks:List Nat}{A B ν':aB}{post:aA→Value→aB→Prop}{e:Exit}(he:(match e with|.normal=>true|.ret=>true|_=>false)=true){rs:List ResultVar}{vs:List Value}(hds:X.ds=[])(hr:fn.results=rs.toArray)(h:oX P X σ (A++ν'++B) rs vs)
  (hk:ν'.ks=ks) (hp:∀D,(∀D₁∈Ds,Le D₁ D)→post D (lZ vs) ν'):∀a w,Hl X σ (A++ν'++B) Ds a w→bodyPost P fn (iH X ks post) e a w:=by
 intro a w hh;have hrun:=eT hh hr h;obtain⟨h1,h2,h3,D,h4,h5,h6⟩:=hh;have hnd:=h4.nd;simp only[List.map_append]at hnd;have:a.defers=[]∧∃v,(results fn a.tmps).run P w=.ok v w∧iH X ks post (.returned v) w:=⟨h3.trans hds,_,hrun,_,D,ν',rfl,hk,h4.sub (fun p hp=>List.mem_append_left _ (List.mem_append_right _ hp)) (List.nodup_append.1 (List.nodup_append.1 hnd).1).2.1,hp D h5⟩
 cases e<;>first|exact this|cases he
end Go.Fs
