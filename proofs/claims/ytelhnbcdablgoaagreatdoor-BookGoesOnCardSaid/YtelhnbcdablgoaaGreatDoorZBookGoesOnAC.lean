/- Of the proof of BookGoesOn: Rest, Types, Spec, Row, Keys, Own, Tide, Book, BookLaw, BookEnds, Bits, Yard, Many. -/
import Derived.Test.YtelhnbcdablgoaaGreatDoorZBookGoesOnAB
import Derived.Test.YtelhnbcdablgoaaGreatDoorProg
import Derived.Test.YtelhnbcdablgoaaGreatDoorZBookGoesOnAA
import Derived.ChangeKeysEq
namespace Go.Fs
variable{P:Program}{X:Cx}{γb:Type}[Membership Nat γb]{bad:γb}{all:Array Oper}{K:Act→World→Prop}{Q:Exit→Act→World→Prop}
variable{σ:bS}{μ:aC}{Ds:List aA}{os:List (Bool×Nat)}{fl:Bool}{ix:Nat}
variable{d:Nat}{x y z:Operand}{u v:Value}{ty:TypeId}{pos:String}{aft:Array Edge}{g:Option (Nat×Bool)}
theorem RQ{t e:TypeId}{n b:Nat}(ho:all[ix]?= some ⟨some d,.slice t x none none none,ty,pos,aft,g⟩)(ht:P.underlying t=some (.array n e))(hs:TS P e 1)(hx:ev σ x=some (.pointer (some ⟨b,0,none⟩)))
  (hN:Nat.blt d X.N=true) (hg:cT all σ g) (kk:WL P X bad all K Q os ((d,.slice (some ⟨b,0,none⟩) n n)::σ) μ Ds):WL P X bad all K Q ((fl,ix)::os) σ μ Ds:=
 bG ho rfl rfl hN hg (fun ρ hρ w'=>by
  simp only[execOp,hρ x _ hx,aLF];unfold Instr.sliceAt Instr.sureAddr Instr.sliceBounds;simp only[Sem.run_bind,TU.of ht w',Result.andThen_ok,hs w',Sem.run_pure,pure_bind,aNF,aML];split<;>simp[Addr.add]) kk
theorem MS{k k':IntKind}{s t:TypeId}{n:Int}(ho:all[ix]?= some ⟨some d,.convert s t x,ty,pos,aft,g⟩)(hr:∀w,(Go.convert s t (.int k n)).run P w=.ok (.int k' n) w)(hx:ev σ x=some (.int k n))(hN:Nat.blt d X.N=true)(hg:cT all σ g)
  (kk:WL P X bad all K Q os ((d,.int k' n)::σ) μ Ds):WL P X bad all K Q ((fl,ix)::os) σ μ Ds:=
 bG ho rfl rfl hN hg (fun ρ hρ w'=>by simp only[execOp,hρ x _ hx,Sem.run_bind,hr w',Result.andThen_ok,Sem.run_pure]) kk
theorem tM{t t':TypeId}{b:Bool}(ho:all[ix]?= some ⟨some d,.binOp .eql t x y t',ty,pos,aft,g⟩)(hr:∀w,((do eqGuard .eql t x y u v;binOp .eql t u v):Sem Value).run P w=.ok (.bool b) w)(hx:ev σ x=some u)(hy:ev σ y=some v)(hN:Nat.blt d X.N=true)(hg:cT all σ g)
  (kk:WL P X bad all K Q os ((d,.bool b)::σ) μ Ds):WL P X bad all K Q ((fl,ix)::os) σ μ Ds:=
 bG ho rfl rfl hN hg (fun ρ hρ w'=>by simp only[execOp,hρ x _ hx,hρ y _ hy];rw[Sem.run_bind,hr w'];rfl) kk
theorem m3{t t':TypeId}{b:Bool}(ho:all[ix]?= some ⟨some d,.binOp .neq t x y t',ty,pos,aft,g⟩)(hr:∀w,((do eqGuard .neq t x y u v;binOp .neq t u v):Sem Value).run P w=.ok (.bool b) w)(hx:ev σ x=some u)(hy:ev σ y=some v)(hN:Nat.blt d X.N=true)(hg:cT all σ g)
  (kk:WL P X bad all K Q os ((d,.bool b)::σ) μ Ds):WL P X bad all K Q ((fl,ix)::os) σ μ Ds:=
 bG ho rfl rfl hN hg (fun ρ hρ w'=>by simp only[execOp,hρ x _ hx,hρ y _ hy];rw[Sem.run_bind,hr w'];rfl) kk
theorem sQ{t:TypeId}{a b:Bool}(ht:P.underlying t=some .bool)(w:World):(Op.equal t (.bool a) (.bool b)).run P w=.ok (a==b) w:=by
 have h:(Op.equalIn (9999+1) t (.bool a) (.bool b)).run P w=.ok (a==b) w:=by
  rw[Op.equalIn,Sem.run_bind,TU.of ht w];rfl
 exact h
theorem aFS{t t':TypeId}{a b:Bool}(ho:all[ix]?= some ⟨some d,.binOp .eql t x y t',ty,pos,aft,g⟩)(ht:P.underlying t=some .bool)(hx:ev σ x=some (.bool a))(hy:ev σ y=some (.bool b))(hN:Nat.blt d X.N=true)(hg:cT all σ g)
  (kk:WL P X bad all K Q os ((d,.bool (a==b))::σ) μ Ds):WL P X bad all K Q ((fl,ix)::os) σ μ Ds:=
 tM ho (fun w=>by
  have hg:(eqGuard .eql t x y (.bool a) (.bool b)).run P w=.ok () w:=rfl;rw[Sem.run_bind,hg];show((do Pure.pure (Value.bool (←Op.equal t (.bool a) (.bool b)))):Sem Value).run P w=_;rw[Sem.run_bind,sQ ht];rfl) hx hy hN hg kk
theorem i7{t t':TypeId}{a b:Bool}(ho:all[ix]?= some ⟨some d,.binOp .neq t x y t',ty,pos,aft,g⟩)(ht:P.underlying t=some .bool)(hx:ev σ x=some (.bool a))(hy:ev σ y=some (.bool b))(hN:Nat.blt d X.N=true)(hg:cT all σ g)
  (kk:WL P X bad all K Q os ((d,.bool (!(a==b)))::σ) μ Ds):WL P X bad all K Q ((fl,ix)::os) σ μ Ds:=
 m3 ho (fun w=>by
  have hg:(eqGuard .neq t x y (.bool a) (.bool b)).run P w=.ok () w:=rfl;rw[Sem.run_bind,hg];show((do Pure.pure (Value.bool (!(←Op.equal t (.bool a) (.bool b))))):Sem Value).run P w=_;rw[Sem.run_bind,sQ ht];rfl) hx hy hN hg kk
theorem G5{n:Nat}(h:∀a w,Hl X σ μ Ds a w→Q .normal a w):WC P X Q (.label n) σ μ Ds:=fun a w hh=>wpIn_label (h a w hh)
theorem I9{t e:TypeId}{n:Nat}{l:List Int}{k:IntKind}{i m:Int}(ho:all[ix]?= some ⟨some d,.index t x y,ty,pos,aft,g⟩)(ht:P.underlying t=some (.array n e))(ha:TA P e false)(hs:TS P e 1)(hx:ev σ x=some (.agg (ints l).toArray))(hy:ev σ y=some (.int k i))(h0:0≤i)(h1:i<n)(hm:l[i.toNat]?= some m)
  (hN:Nat.blt d X.N=true) (hg:cT all σ g) (kk:WL P X bad all K Q os ((d,.int .i64 m)::σ) μ Ds):WL P X bad all K Q ((fl,ix)::os) σ μ Ds:=
 bG ho rfl rfl hN hg (fun ρ hρ w'=>by
  have hg:(ints l).toArray[i.toNat]?= some (.int .i64 m):=by simpa using cD hm
  simp only[execOp,hρ x _ hx,hρ y _ hy];unfold Instr.index asIntOf part;simp only[Sem.run_bind,TU.of ht w',Result.andThen_ok,hs w',ha w',Sem.run_pure,pure_bind,h0,h1,aNM,aLH,aLV,aKI,aLR,hg]) kk
theorem eN(l m:List Int):ints l++ints m=ints (l++m):=by simp[ints]
theorem aCI{t f k ft:Nat}{cs:List Value}{fs:Array Field}(ho:all[ix]?= some ⟨some d,.field t x f,ty,pos,aft,g⟩)(ht:P.underlying t=some (.struct fs))(hk:(fs[f]?).map (fun f=>(f.offset,f.type))=some (k,ft))(ha:TA P ft false)(hx:ev σ x=some (.agg cs.toArray))(hv:cs[k]?= some v)
  (hN:Nat.blt d X.N=true) (hg:cT all σ g) (kk:WL P X bad all K Q os ((d,v)::σ) μ Ds):WL P X bad all K Q ((fl,ix)::os) σ μ Ds:=
 bG ho rfl rfl hN hg (fun ρ hρ w'=>by
  cases hf:fs[f]? with
  |none=>simp[hf]at hk
  |some f0=>
   simp only[hf,aKJ,aOD,aMW]at hk;obtain⟨rfl,rfl⟩:=hk;have hv':cs.toArray[f0.offset]?= some v:=by simpa using hv
   simp only[execOp,hρ x _ hx];unfold Instr.field asAgg part;simp only[Sem.run_bind,TU.of ht w',Result.andThen_ok,hf,ha w',Sem.run_pure,pure_bind,aKI,aLR,hv']) kk
theorem gL{t:TypeId}{D₁:aA}{b k:Nat}{cs:List Value}(ho:all[ix]?= some ⟨some d,.load t x,ty,pos,aft,g⟩)(ha:TA P t false)(hx:ev σ x=some (.pointer (some ⟨b,k,none⟩)))(hA:At D₁ b 0 cs)(hD:D₁∈Ds)(hv:cs[k]?= some v)(hb:b∉bad)
  (hN:Nat.blt d X.N=true) (hg:cT all σ g) (kk:WL P X bad all K Q os ((d,v)::σ) μ Ds):WL P X bad all K Q ((fl,ix)::os) σ μ Ds:=
 bC (o:=0) (k:=k) ho ha (by rw[aMC];exact hx) hA hD hv hb hN hg kk
theorem xU{γ:Type}{c:Code}{N lo:Nat}{J0:oK}(m:γ→Nat)(I:γ→Prop)(J:γ→oK)(ch:γ→bS)(rest:bS)(M:γ→aC)(E:γ→List aA)(g₀:γ)(h₀:I g₀)(hJ:J0=J g₀)(hch:o8 σ (ch g₀))(hrest:o8 σ rest)(hμ:(M g₀).Sublist μ)(hD:∀D∈E g₀,∃D'∈Ds,Le D D')
  (round:∀g,I g→WC P (Xj N lo (J g)) (Exit.then (fun a w=>∃g',I g'∧m g'<m g∧Hl (Xj N lo (J g')) (ch g'++rest) (M g') (E g') a w) Q) c (ch g++rest) (M g) (E g)):WC P (Xj N lo J0) Q (.loop c) σ μ Ds:=by
 subst hJ
 let p:Act→World→Nat→Prop:=fun a w n=>∃g,I g∧m g=n∧Hl (Xj N lo (J g)) (ch g++rest) (M g) (E g) a w
 have ex:∀a w,(∃n,p a w n)→∃n,p a w n∧∀k,p a w k→n≤k:=by
  intro a w ⟨n,hn⟩;induction n using Nat.strongRecOn with
  |_ n ih=>
   by_cases h:∃k,k<n∧p a w k
   ·obtain⟨k,hk,hp⟩:=h;exact ih k hk hp
   ·exact⟨n,hn,fun k hk=>Nat.le_of_not_lt fun hl=>h ⟨k,hl,hk⟩⟩
 intro a w hh;refine wpIn_loop (fun a w=>∃n,p a w n) (fun a w=>open Classical in if h:∃n,p a w n then(ex a w h).choose else 0) ⟨_,g₀,h₀,rfl,hh.weak (o8.app hch hrest) hμ hD⟩ ?_;intro a w hI;obtain⟨⟨g,hg,hm,hst⟩,hmin⟩:=(ex a w hI).choose_spec;refine wpIn_mono (round g hg a w hst) fun e a' w' hq=>?_
 cases e with
 |normal=>
  obtain⟨g',hg',hlt,hst'⟩:=hq;have hI':∃n,p a' w' n:=⟨_,g',hg',rfl,hst'⟩
  refine⟨hI',?_⟩;simp only[dif_pos hI',dif_pos hI];have:=(ex a' w' hI').choose_spec.2 _ ⟨g',hg',rfl,hst'⟩;omega
 |_=>exact hq
theorem mG{γ:Type}{N lo:Nat}{J1:oK}{m:γ→Nat}{I:γ→Prop}{J:γ→oK}{ch:γ→bS}{rest:bS}{M:γ→aC}{E:γ→List aA}{g:γ}(n:Nat)(g':γ)(h1:I g')(h2:m g'<m g)(hJ:J1=J g')(hch:o8 σ (ch g'))(hn:vD n σ=true)(hr:σ.drop n=rest)(hμ:(M g').Sublist μ)(hD:∀D∈E g',∃D'∈Ds,Le D D'):
  ∀a w,Hl (Xj N lo J1) σ μ Ds a w→Exit.then (fun a w=>∃g',I g'∧m g'<m g∧Hl (Xj N lo (J g')) (ch g'++rest) (M g') (E g') a w) Q .normal a w:=by
 subst hJ;intro a w hh;refine⟨g',h1,h2,?_⟩;have h3:=hh.weak (σ':=ch g') hch hμ hD;refine⟨h3.1,fun s v hs=>?_,h3.2.2⟩;rcases A7 hs with hs|hs
 ·exact h3.2.1 s v hs
 ·subst hr;exact hh.2.1 s v (tS n σ hn s v hs)
theorem R1{J J1 J0:oK}{l N lo:Nat}{c:Operand}{xs:Array Operand}{ats:Array TypeId}{vs:List Value}(ho:all[ix]?= some ⟨some d,.call {callee:=.value c,args:=xs,argTypes:=ats},ty,pos,aft,g⟩)
  (hc:ev σ c=some (.func (.yield l) #[] #[])) (hxs:C0 σ xs.toList=some vs) (hfl:fl=false) (hs1:vE lo J1) (hs0:vE lo J0)
  (hY:∀D w,tJ lo D w→J (μ.map (·.1)) D w→(∀p∈μ,p.1<w.heap.size)→(∀D₁∈Ds,Le D₁ D)→gD P l vs w fun b D' w'=>tJ lo D' w'∧sT (μ.map (·.1)) D w D' w'∧(if b then J1 (μ.map (·.1)) D' w' else J0 (μ.map (·.1)) D' w'))
  (hN:Nat.blt d N=true) (hg:cT all σ g)
  (kk:∀b J',J'=(if b=true then J1 else J0)→WL P (Xj N lo J') bad all K Q os ((d,.bool b)::σ) μ Ds):WL P (Xj N lo J) bad all K Q ((fl,ix)::os) σ μ Ds:=
 aAV (X:=Xj N lo J) ho hc hxs rfl hfl rfl rfl hs1 hs0 hY hN hg (kk true J1 rfl) (kk false J0 rfl)
theorem rZ{c:Code}(k:(μ.map (·.1)).Nodup→WC P X Q c σ μ Ds):WC P X Q c σ μ Ds:=fun a w hh=>k (by obtain⟨_,_,_,D,h4,_⟩:=hh;exact h4.nd) a w hh
theorem aW{t:TypeId}{b n:Nat}{vs us:List Value}{e:TypeId}{μ':aC}(ho:all[ix]?= some ⟨none,.store t x y,ty,pos,aft,g⟩)(hx:ev σ x=some (.pointer (some ⟨b,0,none⟩)))(hy:ev σ y=some v)(hv:v.cells=us.toArray)(hs:TS P t n)
  (hn:us.length=n) (hl:vs.length=n) (hm:bM μ b (.cells vs.toArray e (0,0)) (.cells us.toArray e (0,0)) μ') (hc1:∀u∈us,cell1 u=true) (hg:cT all σ g)
  (kk:WL P X bad all K Q os σ μ' Ds):WL P X bad all K Q ((false,ix)::os) σ μ Ds:=
 aY ho hx hy hv (by rw[hn];exact hs) hm Yd (by rw[List.take_zero,aMC,aKK Yd];simp) hc1 hg kk
theorem _root_.Go.Fs.Zv{t:TypeId}{b:Nat}{n:Nat}{vs:List Value}{us:List Value}{e:TypeId}{μ':aC}(e9:(all[ix]?,ev σ x,ev σ y,v.cells)=(some ⟨none,.store t x y,ty,pos,aft,g⟩,some (.pointer (some ⟨b,0,none⟩)),some v,us.toArray))(hs:TS P t n)(hm:bM μ b (.cells vs.toArray e (0,0)) (.cells us.toArray e (0,0)) μ')(kk:WL P X bad all K Q os σ μ' Ds)(hn:us.length=n:=by exact Ya)(hl:vs.length=n:=by exact Ya)(hc1:∀u∈us,cell1 u=true:=by exact Yh)(hg:cT all σ g:=by exact aOJ):WL P X bad all K Q ((false,ix)::os) σ μ Ds:=aW (aJS (fun z=>z.1) e9) (aJS (fun z=>z.2.1) e9) (aJS (fun z=>z.2.2.1) e9) (aJS (fun z=>z.2.2.2) e9) hs hn hl hm hc1 hg kk
theorem dS{t e tr e':TypeId}{n sz:Nat}{cells:List Value}{ν:aC}{ats:Array TypeId}(ho:all[ix]?= some ⟨some d,.call {callee:=.builtin .len,args:=#[x],argTypes:=ats},tr,pos,aft,g⟩)(ht:P.underlying t=some (.slice e))(hx:ev σ x=some v)(hS:bL e' sz v n cells ν)(hat:ats[0]?= some t)
  (hN:Nat.blt d X.N=true) (hg:cT all σ g) (kk:WL P X bad all K Q os ((d,.int .i64 (n:Int))::σ) μ Ds):
  WL P X bad all K Q ((fl,ix)::os) σ μ Ds:=
 bG ho rfl rfl hN hg (fun ρ hρ w'=>by
  have hx':=hρ x _ hx;rcases hS with⟨a,rfl,rfl,_⟩|⟨b,cap,junk,rfl,_⟩
  ·simp[Builtin.len_,hat,hx',Sem.run_bind,TU.of ht w',goInt,Sem.run_pure,go_sem]
  ·simp[Builtin.len_,hat,hx',Sem.run_bind,TU.of ht w',goInt,Sem.run_pure,go_sem]) kk
theorem Hl.dropBoxes{a:Act}{w:World}(n:Nat)(h:Hl X σ μ Ds a w):Hl X σ (μ.drop n) Ds a w:=by
 obtain⟨h1,h2,h3,D,h4,h5,h6⟩:=h;have hμ:(μ.drop n).Sublist μ:=List.drop_sublist n μ;exact⟨h1,h2,h3,D,h4.sub (fun p hp=>hμ.mem hp) ((hμ.map (·.1)).nodup h4.nd),h5,h6.step (fun _ p hp=>aJQ (aIY.2 ⟨p,hμ.mem hp,rfl⟩)) (fun _=>XZ.refl _ _ _) h4.dom⟩
theorem bL.cells1{e:TypeId}{sz n:Nat}{cells:List Value}{ν:aC}(h:bL e sz v n cells ν):v.cells=[v].toArray:=by
 rcases h with⟨a,rfl,_⟩|⟨b,cap,junk,rfl,_⟩<;>rfl
theorem bL.cell1{e:TypeId}{sz n:Nat}{cells:List Value}{ν:aC}(h:bL e sz v n cells ν):∀u∈[v],Fs.cell1 u=true:=by
 rcases h with⟨a,rfl,_⟩|⟨b,cap,junk,rfl,_⟩<;>simp[Fs.cell1]

theorem jG{b:Frame}{a:Act}{k:List Item}{cs:List Frame}{w:World}{c:Code}:step P (lone (b.atR a (.code (.scope c)::k)) cs w)=.next (lone (b.atR a (.code c::.inScope c::k)) cs w):=
 step_lone_go (by simp[stepG,stepG.exec,Frame.atR])
theorem R9{b:Frame}{a:Act}{k:List Item}{cs:List Frame}{w:World}{c:Code}:step P (lone (b.atR a (.inScope c::k)) cs w)=.next (lone (b.atR a k) cs w):=
 step_lone_go (by simp[stepG,stepG.exec,Frame.atR])
def p7(Q:Exit→Act→World→Prop):Exit→Act→World→Prop
 |.goto _,_,_=>False
 |e,a,w=>Q e a w
theorem AV{F:Fence}{n:Nat}{c:Code}{a:Act}{w:World}(h:c.wpIn F n P (p7 Q) a w):(Code.scope c).wpIn F n P Q a w:=by
 intro b k cs hro hb hr;have h0:(lone (b.atR a (.code (.scope c)::k)) cs w).fenced P F:=fenced_calm hb hr rfl;obtain⟨e,a₁,w₁,hq,harr⟩:=h b (.inScope c::k) cs hro hb hr;cases e with
 |normal=>exact⟨.normal,a₁,w₁,hq,.head h0 jG (StepsIn.trans harr (.one (fenced_calm hb hr rfl) R9))⟩
 |exit id'=>
  have hx:exitTo id' (.inScope c::k)=exitTo id' k:=by simp[exitTo]
  exact⟨.exit id',a₁,w₁,hq,fun k' hk=>.head h0 jG (harr.1 k' (by rw[hx];exact hk)),
   fun hr' hk=>let ⟨k₁,h1,h2⟩:=harr.2 hr' (by rw[hx];exact hk);⟨k₁,h1,.head h0 jG h2⟩⟩
 |goto l=>exact hq.elim
 |ret=>exact⟨_,a₁,w₁,hq,.of_steps (.one h0 jG) harr⟩
 |panic ch=>exact⟨_,a₁,w₁,hq,.of_steps (.one h0 jG) harr⟩
 |outgrown=>exact⟨_,a₁,w₁,hq,.of_steps (.one h0 jG) harr⟩
theorem f7{c:Code}(h:WC P X (p7 Q) c σ μ Ds):WC P X Q (.scope c) σ μ Ds:=fun a w hh=>AV (h a w hh)
theorem lM(h:∀a w,Hl X σ μ Ds a w→Q .normal a w):∀a w,Hl X σ μ Ds a w→p7 Q .normal a w:=h
theorem rO(h:∀a w,Hl X σ μ Ds a w→Q .ret a w):∀a w,Hl X σ μ Ds a w→p7 Q .ret a w:=h
theorem aF(μ':aC)(h:μ=μ')(k:WL P X bad all K Q os σ μ' Ds):WL P X bad all K Q os σ μ Ds:=h▸k
theorem PA{c:Code}(μ':aC)(h:μ=μ')(k:WC P X Q c σ μ' Ds):WC P X Q c σ μ Ds:=h▸k
theorem Sl.cell1{α:Type}{R:Rd α}{D:aA}{sz:Nat}{v:Value}{xs:List α}(h:Sl D R sz v xs):∀u∈[v],Fs.cell1 u=true:=by
 obtain⟨a,cap,rfl,_⟩:=h;simp[Fs.cell1]
end Go.Fs
namespace Go.Fs
open Go.Proofs
namespace Tf
theorem follows:Tryz.prog.follows .mixedOrders=true:=by kernel_rfl
theorem _root_.Go.Fs.U3:type_of% Tryz.underlying3:=Tryz.underlying3
theorem _root_.Go.Fs.U4:type_of% Tryz.underlying4:=Tryz.underlying4
theorem _root_.Go.Fs.U5:type_of% Tryz.underlying5:=Tryz.underlying5
theorem _root_.Go.Fs.U9:type_of% Tryz.underlying9:=Tryz.underlying9
theorem _root_.Go.Fs.U20:type_of% Tryz.underlying20:=Tryz.underlying20
theorem _root_.Go.Fs.U22:type_of% Tryz.underlying22:=Tryz.underlying22
theorem _root_.Go.Fs.U25:type_of% Tryz.underlying25:=Tryz.underlying25
theorem _root_.Go.Fs.U26:type_of% Tryz.underlying26:=Tryz.underlying26
theorem _root_.Go.Fs.U29:type_of% Tryz.underlying29:=Tryz.underlying29
theorem _root_.Go.Fs.U30:type_of% Tryz.underlying30:=Tryz.underlying30
theorem _root_.Go.Fs.U33:type_of% Tryz.underlying33:=Tryz.underlying33
theorem _root_.Go.Fs.U34:type_of% Tryz.underlying34:=Tryz.underlying34
theorem _root_.Go.Fs.U37:type_of% Tryz.underlying37:=Tryz.underlying37
theorem _root_.Go.Fs.U38:type_of% Tryz.underlying38:=Tryz.underlying38
theorem _root_.Go.Fs.U43:type_of% Tryz.underlying43:=Tryz.underlying43
theorem _root_.Go.Fs.U51:type_of% Tryz.underlying51:=Tryz.underlying51
theorem _root_.Go.Fs.U92:type_of% Tryz.underlying92:=Tryz.underlying92
theorem _root_.Go.Fs.U99:type_of% Tryz.underlying99:=Tryz.underlying99
theorem _root_.Go.Fs.U101:type_of% Tryz.underlying101:=Tryz.underlying101
theorem _root_.Go.Fs.U113:type_of% Tryz.underlying113:=Tryz.underlying113
theorem _root_.Go.Fs.U117:type_of% Tryz.underlying117:=Tryz.underlying117
theorem _root_.Go.Fs.U136:type_of% Tryz.underlying136:=Tryz.underlying136
theorem _root_.Go.Fs.U174:type_of% Tryz.underlying174:=Tryz.underlying174
theorem _root_.Go.Fs.U179:type_of% Tryz.underlying179:=Tryz.underlying179
theorem _root_.Go.Fs.U186:type_of% Tryz.underlying186:=Tryz.underlying186
theorem _root_.Go.Fs.U205:type_of% Tryz.underlying205:=Tryz.underlying205
theorem _root_.Go.Fs.U210:type_of% Tryz.underlying210:=Tryz.underlying210
theorem _root_.Go.Fs.U240:type_of% Tryz.underlying240:=Tryz.underlying240
theorem _root_.Go.Fs.U246:type_of% Tryz.underlying246:=Tryz.underlying246
theorem _root_.Go.Fs.U255:type_of% Tryz.underlying255:=Tryz.underlying255
theorem _root_.Go.Fs.U257:type_of% Tryz.underlying257:=Tryz.underlying257
theorem _root_.Go.Fs.U263:type_of% Tryz.underlying263:=Tryz.underlying263
theorem _root_.Go.Fs.U275:type_of% Tryz.underlying275:=Tryz.underlying275
theorem _root_.Go.Fs.U276:type_of% Tryz.underlying276:=Tryz.underlying276
theorem _root_.Go.Fs.U282:type_of% Tryz.underlying282:=Tryz.underlying282
theorem _root_.Go.Fs.U295:type_of% Tryz.underlying295:=Tryz.underlying295
theorem _root_.Go.Fs.U303:type_of% Tryz.underlying303:=Tryz.underlying303
theorem _root_.Go.Fs.U309:type_of% Tryz.underlying309:=Tryz.underlying309
theorem _root_.Go.Fs.U315:type_of% Tryz.underlying315:=Tryz.underlying315
theorem _root_.Go.Fs.U317:type_of% Tryz.underlying317:=Tryz.underlying317
theorem _root_.Go.Fs.U327:type_of% Tryz.underlying327:=Tryz.underlying327
theorem a3:TA Tryz.prog 3 false:=TA.of Tryz.underlying3 _ rfl
theorem s3:TS Tryz.prog 3 1:=TS.of Yg
theorem z3:TZ Tryz.prog 3 (.int .i64 0):=TZ.of Yg
theorem i3:(Tryz.prog.info? 3).map (fun i=>Nat.ble 1 i.bytes&&Nat.ble i.bytes 4096)=some true:=by kernel_rfl
theorem a4:TA Tryz.prog 4 false:=TA.of Tryz.underlying4 _ rfl
theorem s4:TS Tryz.prog 4 1:=TS.of Yg
theorem z4:TZ Tryz.prog 4 (.bool false):=TZ.of Yg
theorem a5:TA Tryz.prog 5 false:=TA.of Tryz.underlying5 _ rfl
theorem s5:TS Tryz.prog 5 1:=TS.of Yg
theorem z5:TZ Tryz.prog 5 (.int .u8 0):=TZ.of Yg
theorem i5:(Tryz.prog.info? 5).map (fun i=>Nat.ble 1 i.bytes&&Nat.ble i.bytes 4096)=some true:=by kernel_rfl
theorem a9:TA Tryz.prog 9 false:=TA.of Tryz.underlying9 _ rfl
theorem s9:TS Tryz.prog 9 1:=TS.of Yg
theorem i9:(Tryz.prog.info? 9).map (fun i=>Nat.ble 1 i.bytes&&Nat.ble i.bytes 4096)=some true:=by kernel_rfl
theorem a22:TA Tryz.prog 22 false:=TA.of Tryz.underlying22 _ rfl
theorem s22:TS Tryz.prog 22 1:=TS.of Yg
theorem z22:TZ Tryz.prog 22 (.slice none 0 0):=TZ.of Yg
theorem a25:TA Tryz.prog 25 false:=TA.of Tryz.underlying25 _ rfl
theorem s25:TS Tryz.prog 25 1:=TS.of Yg
theorem z25:TZ Tryz.prog 25 (.slice none 0 0):=TZ.of Yg
theorem a26:TA Tryz.prog 26 false:=TA.of Tryz.underlying26 _ rfl
theorem s26:TS Tryz.prog 26 1:=TS.of Yg
theorem a28:TA Tryz.prog 28 true:=TA.of Tryz.underlying28 _ rfl
theorem s28:TS Tryz.prog 28 4:=TS.of Yg
theorem f28_0:TF Tryz.prog 28 0 0:=TF.of Tryz.underlying28 rfl s25 rfl
theorem f28_1:TF Tryz.prog 28 1 1:=TF.of Tryz.underlying28 rfl s26 rfl
theorem f28_2:TF Tryz.prog 28 2 2:=TF.of Tryz.underlying28 rfl s3 rfl
theorem f28_3:TF Tryz.prog 28 3 3:=TF.of Tryz.underlying28 rfl s3 rfl
theorem a29:TA Tryz.prog 29 false:=TA.of Tryz.underlying29 _ rfl
theorem s29:TS Tryz.prog 29 1:=TS.of Yg
theorem a30:TA Tryz.prog 30 false:=TA.of Tryz.underlying30 _ rfl
theorem s30:TS Tryz.prog 30 1:=TS.of Yg
theorem a32:TA Tryz.prog 32 true:=TA.of Tryz.underlying32 _ rfl
theorem s32:TS Tryz.prog 32 5:=TS.of Yg
theorem f32_0:TF Tryz.prog 32 0 0:=TF.of Tryz.underlying32 rfl s3 rfl
theorem f32_1:TF Tryz.prog 32 1 1:=TF.of Tryz.underlying32 rfl s29 rfl
theorem f32_2:TF Tryz.prog 32 2 2:=TF.of Tryz.underlying32 rfl s3 rfl
theorem f32_3:TF Tryz.prog 32 3 3:=TF.of Tryz.underlying32 rfl s25 rfl
theorem f32_4:TF Tryz.prog 32 4 4:=TF.of Tryz.underlying32 rfl s30 rfl
theorem a33:TA Tryz.prog 33 false:=TA.of Tryz.underlying33 _ rfl
theorem s33:TS Tryz.prog 33 1:=TS.of Yg
theorem z33:TZ Tryz.prog 33 (.slice none 0 0):=TZ.of Yg
theorem a34:TA Tryz.prog 34 false:=TA.of Tryz.underlying34 _ rfl
theorem s34:TS Tryz.prog 34 1:=TS.of Yg
theorem a36:TA Tryz.prog 36 true:=TA.of Tryz.underlying36 _ rfl
theorem s36:TS Tryz.prog 36 5:=TS.of Yg
theorem z36:TZ Tryz.prog 36 (.agg #[.int .i64 0,.int .i64 0,.int .i64 0,.slice none 0 0,.slice none 0 0]):=TZ.of Yg
theorem f36_0:TF Tryz.prog 36 0 0:=TF.of Tryz.underlying36 rfl s3 rfl
theorem f36_1:TF Tryz.prog 36 1 1:=TF.of Tryz.underlying36 rfl s3 rfl
theorem f36_2:TF Tryz.prog 36 2 2:=TF.of Tryz.underlying36 rfl s3 rfl
theorem f36_3:TF Tryz.prog 36 3 3:=TF.of Tryz.underlying36 rfl s33 rfl
theorem f36_4:TF Tryz.prog 36 4 4:=TF.of Tryz.underlying36 rfl s34 rfl
theorem a37:TA Tryz.prog 37 false:=TA.of Tryz.underlying37 _ rfl
theorem s37:TS Tryz.prog 37 1:=TS.of Yg
theorem a38:TA Tryz.prog 38 false:=TA.of Tryz.underlying38 _ rfl
theorem s38:TS Tryz.prog 38 1:=TS.of Yg
theorem a40:TA Tryz.prog 40 true:=TA.of Tryz.underlying40 _ rfl
theorem s40:TS Tryz.prog 40 3:=TS.of Yg
theorem f40_0:TF Tryz.prog 40 0 0:=TF.of Tryz.underlying40 rfl s37 rfl
theorem f40_1:TF Tryz.prog 40 1 1:=TF.of Tryz.underlying40 rfl s3 rfl
theorem f40_2:TF Tryz.prog 40 2 2:=TF.of Tryz.underlying40 rfl s38 rfl
theorem a42:TA Tryz.prog 42 true:=TA.of Tryz.underlying42 _ rfl
theorem s42:TS Tryz.prog 42 17:=TS.of Yg
theorem z42:TZ Tryz.prog 42 (.agg #[.slice none 0 0,.slice none 0 0,.int .i64 0,.int .i64 0,.int .i64 0,.slice none 0 0,.int .i64 0,.slice none 0 0,.slice none 0 0,.int .i64 0,.int .i64 0,.int .i64 0,.slice none 0 0,.slice none 0 0,.slice none 0 0,.int .i64 0,.slice none 0 0]):=TZ.of Yg
theorem p42:TP Tryz.prog 42 [(0,4),(4,5),(9,5),(14,3)]:=TP.of Tryz.underlying42 Yg Yg
theorem f42_0:TF Tryz.prog 42 0 0:=TF.of Tryz.underlying42 rfl s28 rfl
theorem f42_1:TF Tryz.prog 42 1 4:=TF.of Tryz.underlying42 rfl s32 rfl
theorem f42_2:TF Tryz.prog 42 2 9:=TF.of Tryz.underlying42 rfl s36 rfl
theorem f42_3:TF Tryz.prog 42 3 14:=TF.of Tryz.underlying42 rfl s40 rfl
theorem a44:TA Tryz.prog 44 false:=TA.of Tryz.underlying44 _ rfl
theorem s44:TS Tryz.prog 44 1:=TS.of Yg
theorem z44:TZ Tryz.prog 44 (.int .i64 0):=TZ.of Yg
theorem i44:(Tryz.prog.info? 44).map (fun i=>Nat.ble 1 i.bytes&&Nat.ble i.bytes 4096)=some true:=by kernel_rfl
theorem a51:TA Tryz.prog 51 false:=TA.of Tryz.underlying51 _ rfl
theorem s51:TS Tryz.prog 51 1:=TS.of Yg
theorem a65:TA Tryz.prog 65 true:=TA.of Tryz.underlying65 _ rfl
theorem s65:TS Tryz.prog 65 2:=TS.of Yg
theorem z65:TZ Tryz.prog 65 (.agg #[.int .i64 0,.int .i64 0]):=TZ.of Yg
theorem p65:TP Tryz.prog 65 [(0,1),(1,1)]:=TP.of Tryz.underlying65 Yg Yg
theorem f65_0:TF Tryz.prog 65 0 0:=TF.of Tryz.underlying65 rfl s3 rfl
theorem f65_1:TF Tryz.prog 65 1 1:=TF.of Tryz.underlying65 rfl s3 rfl
theorem a88:TA Tryz.prog 88 true:=TA.of Tryz.underlying88 _ rfl
theorem s88:TS Tryz.prog 88 2:=TS.of Yg
theorem z88:TZ Tryz.prog 88 (.agg #[.int .i64 0,.int .i64 0]):=TZ.of Yg
theorem p88:TP Tryz.prog 88 [(0,1),(1,1)]:=TP.of Tryz.underlying88 Yg Yg
theorem f88_0:TF Tryz.prog 88 0 0:=TF.of Tryz.underlying88 rfl s3 rfl
theorem f88_1:TF Tryz.prog 88 1 1:=TF.of Tryz.underlying88 rfl s3 rfl
theorem a99:TA Tryz.prog 99 true:=TA.of Tryz.underlying99 _ rfl
theorem s99:TS Tryz.prog 99 2:=TS.of Yg
theorem z99:TZ Tryz.prog 99 (.agg #[.int .i64 0,.int .i64 0]):=TZ.of Yg
theorem i99:(Tryz.prog.info? 99).map (fun i=>Nat.ble 1 i.bytes&&Nat.ble i.bytes 4096)=some true:=by kernel_rfl
theorem p99:TP Tryz.prog 99 [(0,1),(1,1)]:=TP.of Tryz.underlying99 Yg Yg
theorem f99_0:TF Tryz.prog 99 0 0:=TF.of Tryz.underlying99 rfl s3 rfl
theorem f99_1:TF Tryz.prog 99 1 1:=TF.of Tryz.underlying99 rfl s3 rfl
theorem a101:TA Tryz.prog 101 true:=TA.of Tryz.underlying101 _ rfl
theorem s101:TS Tryz.prog 101 3:=TS.of Yg
theorem z101:TZ Tryz.prog 101 (.agg #[.int .i64 0,.int .i64 0,.int .i64 0]):=TZ.of Yg
theorem i101:(Tryz.prog.info? 101).map (fun i=>Nat.ble 1 i.bytes&&Nat.ble i.bytes 4096)=some true:=by kernel_rfl
theorem a103:TA Tryz.prog 103 true:=TA.of Tryz.underlying103 _ rfl
theorem s103:TS Tryz.prog 103 4:=TS.of Yg
theorem z103:TZ Tryz.prog 103 (.agg #[.int .i64 0,.int .i64 0,.int .i64 0,.int .i64 0]):=TZ.of Yg
theorem i103:(Tryz.prog.info? 103).map (fun i=>Nat.ble 1 i.bytes&&Nat.ble i.bytes 4096)=some true:=by kernel_rfl
theorem p103:TP Tryz.prog 103 [(0,1),(1,3)]:=TP.of Tryz.underlying103 Yg Yg
theorem f103_0:TF Tryz.prog 103 0 0:=TF.of Tryz.underlying103 rfl s3 rfl
theorem f103_1:TF Tryz.prog 103 1 1:=TF.of Tryz.underlying103 rfl s101 rfl
theorem a113:TA Tryz.prog 113 false:=TA.of Tryz.underlying113 _ rfl
theorem s113:TS Tryz.prog 113 1:=TS.of Yg
theorem s115:TS Tryz.prog 115 2:=TS.of Yg
theorem z115:TZ Tryz.prog 115 (.agg #[.pointer none,.slice none 0 0]):=TZ.of Yg
theorem f115_0:TF Tryz.prog 115 0 0:=TF.of Tryz.underlying115 rfl s113 rfl
theorem f115_1:TF Tryz.prog 115 1 1:=TF.of Tryz.underlying115 rfl s51 rfl
theorem a133:TA Tryz.prog 133 true:=TA.of Tryz.underlying133 _ rfl
theorem s133:TS Tryz.prog 133 2:=TS.of Yg
theorem z133:TZ Tryz.prog 133 (.agg #[.int .i64 0,.int .i64 0]):=TZ.of Yg
theorem i133:(Tryz.prog.info? 133).map (fun i=>Nat.ble 1 i.bytes&&Nat.ble i.bytes 4096)=some true:=by kernel_rfl
theorem p133:TP Tryz.prog 133 [(0,1),(1,1)]:=TP.of Tryz.underlying133 Yg Yg
theorem f133_0:TF Tryz.prog 133 0 0:=TF.of Tryz.underlying133 rfl s3 rfl
theorem f133_1:TF Tryz.prog 133 1 1:=TF.of Tryz.underlying133 rfl s3 rfl
theorem a136:TA Tryz.prog 136 false:=TA.of Tryz.underlying136 _ rfl
theorem s136:TS Tryz.prog 136 1:=TS.of Yg
theorem z136:TZ Tryz.prog 136 (.slice none 0 0):=TZ.of Yg
theorem a150:TA Tryz.prog 150 false:=TA.of Tryz.underlying150 _ rfl
theorem a156:TA Tryz.prog 156 true:=TA.of Tryz.underlying156 _ rfl
theorem s156:TS Tryz.prog 156 3:=TS.of Yg
theorem z156:TZ Tryz.prog 156 (.agg #[.bool false,.int .i64 0,.int .i64 0]):=TZ.of Yg
theorem i156:(Tryz.prog.info? 156).map (fun i=>Nat.ble 1 i.bytes&&Nat.ble i.bytes 4096)=some true:=by kernel_rfl
theorem p156:TP Tryz.prog 156 [(0,1),(1,1),(2,1)]:=TP.of Tryz.underlying156 Yg Yg
theorem f156_0:TF Tryz.prog 156 0 0:=TF.of Tryz.underlying156 rfl s4 rfl
theorem f156_1:TF Tryz.prog 156 1 1:=TF.of Tryz.underlying156 rfl s3 rfl
theorem f156_2:TF Tryz.prog 156 2 2:=TF.of Tryz.underlying156 rfl s3 rfl
theorem a158:TA Tryz.prog 158 true:=TA.of Tryz.underlying158 _ rfl
theorem s158:TS Tryz.prog 158 4:=TS.of Yg
theorem z158:TZ Tryz.prog 158 (.agg #[.int .i64 0,.int .i64 0,.int .i64 0,.int .i64 0]):=TZ.of Yg
theorem i158:(Tryz.prog.info? 158).map (fun i=>Nat.ble 1 i.bytes&&Nat.ble i.bytes 4096)=some true:=by kernel_rfl
theorem p158:TP Tryz.prog 158 [(0,1),(1,1),(2,2)]:=TP.of Tryz.underlying158 Yg Yg
theorem f158_0:TF Tryz.prog 158 0 0:=TF.of Tryz.underlying158 rfl s3 rfl
theorem f158_1:TF Tryz.prog 158 1 1:=TF.of Tryz.underlying158 rfl s3 rfl
theorem f158_2:TF Tryz.prog 158 2 2:=TF.of Tryz.underlying158 rfl s99 rfl
theorem a160:TA Tryz.prog 160 true:=TA.of Tryz.underlying160 _ rfl
theorem s160:TS Tryz.prog 160 3:=TS.of Yg
theorem z160:TZ Tryz.prog 160 (.agg #[.int .i64 0,.int .i64 0,.int .i64 0]):=TZ.of Yg
theorem i160:(Tryz.prog.info? 160).map (fun i=>Nat.ble 1 i.bytes&&Nat.ble i.bytes 4096)=some true:=by kernel_rfl
theorem p160:TP Tryz.prog 160 [(0,1),(1,1),(2,1)]:=TP.of Tryz.underlying160 Yg Yg
theorem f160_0:TF Tryz.prog 160 0 0:=TF.of Tryz.underlying160 rfl s3 rfl
theorem f160_1:TF Tryz.prog 160 1 1:=TF.of Tryz.underlying160 rfl s3 rfl
theorem f160_2:TF Tryz.prog 160 2 2:=TF.of Tryz.underlying160 rfl s3 rfl
theorem a162:TA Tryz.prog 162 true:=TA.of Tryz.underlying162 _ rfl
theorem s162:TS Tryz.prog 162 3:=TS.of Yg
theorem z162:TZ Tryz.prog 162 (.agg #[.int .i64 0,.int .i64 0,.int .i64 0]):=TZ.of Yg
theorem i162:(Tryz.prog.info? 162).map (fun i=>Nat.ble 1 i.bytes&&Nat.ble i.bytes 4096)=some true:=by kernel_rfl
theorem p162:TP Tryz.prog 162 [(0,1),(1,2)]:=TP.of Tryz.underlying162 Yg Yg
theorem f162_0:TF Tryz.prog 162 0 0:=TF.of Tryz.underlying162 rfl s3 rfl
theorem f162_1:TF Tryz.prog 162 1 1:=TF.of Tryz.underlying162 rfl s65 rfl
theorem a169:TA Tryz.prog 169 false:=TA.of Tryz.underlying169 _ rfl
theorem s169:TS Tryz.prog 169 1:=TS.of Yg
theorem z169:TZ Tryz.prog 169 (.pointer none):=TZ.of Yg
theorem a174:TA Tryz.prog 174 false:=TA.of Tryz.underlying174 _ rfl
theorem s174:TS Tryz.prog 174 1:=TS.of Yg
theorem z176:TZ Tryz.prog 176 (.agg #[.slice none 0 0,.slice none 0 0,.int .i64 0,.int .i64 0,.slice none 0 0]):=TZ.of Yg
theorem p176:TP Tryz.prog 176 [(0,4),(4,1)]:=TP.of Tryz.underlying176 Yg Yg
theorem f176_1:TF Tryz.prog 176 1 4:=TF.of Tryz.underlying176 rfl s174 rfl
theorem a179:TA Tryz.prog 179 true:=TA.of Tryz.underlying179 _ rfl
theorem s179:TS Tryz.prog 179 9:=TS.of Yg
theorem z179:TZ Tryz.prog 179 (.agg #[.int .i64 0,.int .i64 0,.int .i64 0,.int .i64 0,.int .i64 0,.int .i64 0,.int .i64 0,.int .i64 0,.int .i64 0]):=TZ.of Yg
theorem i179:(Tryz.prog.info? 179).map (fun i=>Nat.ble 1 i.bytes&&Nat.ble i.bytes 4096)=some true:=by kernel_rfl
theorem a186:TA Tryz.prog 186 true:=TA.of Tryz.underlying186 _ rfl
theorem s186:TS Tryz.prog 186 10:=TS.of Yg
theorem z186:TZ Tryz.prog 186 (.agg #[.int .i64 0,.int .i64 0,.int .i64 0,.int .i64 0,.int .i64 0,.int .i64 0,.int .i64 0,.int .i64 0,.int .i64 0,.int .i64 0]):=TZ.of Yg
theorem a188:TA Tryz.prog 188 false:=TA.of Tryz.underlying188 _ rfl
theorem s188:TS Tryz.prog 188 1:=TS.of Yg
theorem z188:TZ Tryz.prog 188 (.pointer none):=TZ.of Yg
theorem a191:TA Tryz.prog 191 false:=TA.of Tryz.underlying191 _ rfl
theorem s191:TS Tryz.prog 191 1:=TS.of Yg
theorem z191:TZ Tryz.prog 191 (.nilFunc):=TZ.of Yg
theorem a192:TA Tryz.prog 192 false:=TA.of Tryz.underlying192 _ rfl
theorem s192:TS Tryz.prog 192 1:=TS.of Yg
theorem z195:TZ Tryz.prog 195 (.agg #[.nilFunc]):=TZ.of Yg
theorem p195:TP Tryz.prog 195 [(0,1)]:=TP.of Tryz.underlying195 Yg Yg
theorem f195_0:TF Tryz.prog 195 0 0:=TF.of Tryz.underlying195 rfl s192 rfl
theorem a198:TA Tryz.prog 198 false:=TA.of Tryz.underlying198 _ rfl
theorem s198:TS Tryz.prog 198 1:=TS.of Yg
theorem z198:TZ Tryz.prog 198 (.nilFunc):=TZ.of Yg
theorem a205:TA Tryz.prog 205 true:=TA.of Tryz.underlying205 _ rfl
theorem s205:TS Tryz.prog 205 4:=TS.of Yg
theorem z205:TZ Tryz.prog 205 (.agg #[.int .i64 0,.int .i64 0,.int .i64 0,.int .i64 0]):=TZ.of Yg
theorem a207:TA Tryz.prog 207 true:=TA.of Tryz.underlying207 _ rfl
theorem s207:TS Tryz.prog 207 10:=TS.of Yg
theorem z207:TZ Tryz.prog 207 (.agg #[.int .i64 0,.int .i64 0,.int .i64 0,.int .i64 0,.int .i64 0,.int .i64 0,.int .i64 0,.int .i64 0,.int .i64 0,.int .i64 0]):=TZ.of Yg
theorem i207:(Tryz.prog.info? 207).map (fun i=>Nat.ble 1 i.bytes&&Nat.ble i.bytes 4096)=some true:=by kernel_rfl
theorem p207:TP Tryz.prog 207 [(0,4),(4,4),(8,1),(9,1)]:=TP.of Tryz.underlying207 Yg Yg
theorem f207_0:TF Tryz.prog 207 0 0:=TF.of Tryz.underlying207 rfl s205 rfl
theorem f207_1:TF Tryz.prog 207 1 4:=TF.of Tryz.underlying207 rfl s205 rfl
theorem f207_2:TF Tryz.prog 207 2 8:=TF.of Tryz.underlying207 rfl s3 rfl
theorem f207_3:TF Tryz.prog 207 3 9:=TF.of Tryz.underlying207 rfl s3 rfl
theorem a208:TA Tryz.prog 208 false:=TA.of Tryz.underlying208 _ rfl
theorem a210:TA Tryz.prog 210 false:=TA.of Tryz.underlying210 _ rfl
theorem s210:TS Tryz.prog 210 1:=TS.of Yg
theorem z210:TZ Tryz.prog 210 (.slice none 0 0):=TZ.of Yg
theorem a212:TA Tryz.prog 212 false:=TA.of Tryz.underlying212 _ rfl
theorem a215:TA Tryz.prog 215 false:=TA.of Tryz.underlying215 _ rfl
theorem s215:TS Tryz.prog 215 1:=TS.of Yg
theorem s218:TS Tryz.prog 218 1:=TS.of Yg
theorem z218:TZ Tryz.prog 218 (.agg #[.nilFunc]):=TZ.of Yg
theorem p218:TP Tryz.prog 218 [(0,1)]:=TP.of Tryz.underlying218 Yg Yg
theorem f218_0:TF Tryz.prog 218 0 0:=TF.of Tryz.underlying218 rfl s215 rfl
theorem a219:TA Tryz.prog 219 false:=TA.of Tryz.underlying219 _ rfl
theorem s219:TS Tryz.prog 219 1:=TS.of Yg
theorem z219:TZ Tryz.prog 219 (.nilFunc):=TZ.of Yg
theorem a223:TA Tryz.prog 223 true:=TA.of Tryz.underlying223 _ rfl
theorem s223:TS Tryz.prog 223 2:=TS.of Yg
theorem z223:TZ Tryz.prog 223 (.agg #[.int .i64 0,.int .i64 0]):=TZ.of Yg
theorem i223:(Tryz.prog.info? 223).map (fun i=>Nat.ble 1 i.bytes&&Nat.ble i.bytes 4096)=some true:=by kernel_rfl
theorem p223:TP Tryz.prog 223 [(0,1),(1,1)]:=TP.of Tryz.underlying223 Yg Yg
theorem f223_0:TF Tryz.prog 223 0 0:=TF.of Tryz.underlying223 rfl s3 rfl
theorem f223_1:TF Tryz.prog 223 1 1:=TF.of Tryz.underlying223 rfl s3 rfl
theorem s240:TS Tryz.prog 240 1:=TS.of Yg
theorem z240:TZ Tryz.prog 240 (.agg #[.int .i64 0]):=TZ.of Yg
theorem p240:TP Tryz.prog 240 [(0,1)]:=TP.of Tryz.underlying240 Yg Yg
theorem f240_0:TF Tryz.prog 240 0 0:=TF.of Tryz.underlying240 rfl s44 rfl
theorem a242:TA Tryz.prog 242 false:=TA.of Tryz.underlying242 _ rfl
theorem s242:TS Tryz.prog 242 1:=TS.of Yg
theorem s244:TS Tryz.prog 244 2:=TS.of Yg
theorem z244:TZ Tryz.prog 244 (.agg #[.int .i64 0,.nilFunc]):=TZ.of Yg
theorem p244:TP Tryz.prog 244 [(0,1),(1,1)]:=TP.of Tryz.underlying244 Yg Yg
theorem f244_0:TF Tryz.prog 244 0 0:=TF.of Tryz.underlying244 rfl s3 rfl
theorem f244_1:TF Tryz.prog 244 1 1:=TF.of Tryz.underlying244 rfl s242 rfl
theorem z253:TZ Tryz.prog 253 (.agg #[.slice none 0 0,.slice none 0 0,.int .i64 0,.int .i64 0,.int .i64 0,.slice none 0 0,.int .i64 0,.slice none 0 0,.slice none 0 0,.int .i64 0,.int .i64 0,.int .i64 0,.slice none 0 0,.slice none 0 0,.slice none 0 0,.int .i64 0,.slice none 0 0]):=TZ.of Yg
theorem p253:TP Tryz.prog 253 [(0,17)]:=TP.of Tryz.underlying253 Yg Yg
theorem f253_0:TF Tryz.prog 253 0 0:=TF.of Tryz.underlying253 rfl s42 rfl
theorem a255:TA Tryz.prog 255 true:=TA.of Tryz.underlying255 _ rfl
theorem s255:TS Tryz.prog 255 3:=TS.of Yg
theorem z255:TZ Tryz.prog 255 (.agg #[.int .u8 0,.int .u8 0,.int .u8 0]):=TZ.of Yg
theorem a257:TA Tryz.prog 257 true:=TA.of Tryz.underlying257 _ rfl
theorem s257:TS Tryz.prog 257 4:=TS.of Yg
theorem z257:TZ Tryz.prog 257 (.agg #[.int .u8 0,.int .u8 0,.int .u8 0,.int .u8 0]):=TZ.of Yg
theorem a259:TA Tryz.prog 259 true:=TA.of Tryz.underlying259 _ rfl
theorem s259:TS Tryz.prog 259 7:=TS.of Yg
theorem z259:TZ Tryz.prog 259 (.agg #[.int .u8 0,.int .u8 0,.int .u8 0,.int .u8 0,.int .u8 0,.int .u8 0,.int .u8 0]):=TZ.of Yg
theorem p259:TP Tryz.prog 259 [(0,3),(3,4)]:=TP.of Tryz.underlying259 Yg Yg
theorem f259_0:TF Tryz.prog 259 0 0:=TF.of Tryz.underlying259 rfl s255 rfl
theorem f259_1:TF Tryz.prog 259 1 3:=TF.of Tryz.underlying259 rfl s257 rfl
theorem a268:TA Tryz.prog 268 false:=TA.of Tryz.underlying268 _ rfl
theorem a271:TA Tryz.prog 271 false:=TA.of Tryz.underlying271 _ rfl
theorem a275:TA Tryz.prog 275 false:=TA.of Tryz.underlying275 _ rfl
theorem s275:TS Tryz.prog 275 1:=TS.of Yg
theorem a276:TA Tryz.prog 276 false:=TA.of Tryz.underlying276 _ rfl
theorem s276:TS Tryz.prog 276 1:=TS.of Yg
theorem z278:TZ Tryz.prog 278 (.agg #[.int .i64 0,.slice none 0 0,.int .i64 0,.slice none 0 0,.slice none 0 0,.slice none 0 0,.map none]):=TZ.of Yg
theorem p278:TP Tryz.prog 278 [(0,5),(5,1),(6,1)]:=TP.of Tryz.underlying278 Yg Yg
theorem f278_0:TF Tryz.prog 278 0 0:=TF.of Tryz.underlying278 rfl s32 rfl
theorem f278_1:TF Tryz.prog 278 1 5:=TF.of Tryz.underlying278 rfl s276 rfl
theorem f278_2:TF Tryz.prog 278 2 6:=TF.of Tryz.underlying278 rfl s275 rfl
theorem a282:TA Tryz.prog 282 true:=TA.of Tryz.underlying282 _ rfl
theorem s282:TS Tryz.prog 282 10:=TS.of Yg
theorem z282:TZ Tryz.prog 282 (.agg #[.int .i64 0,.int .i64 0,.int .i64 0,.int .i64 0,.int .i64 0,.int .i64 0,.int .i64 0,.int .i64 0,.int .i64 0,.int .i64 0]):=TZ.of Yg
theorem i282:(Tryz.prog.info? 282).map (fun i=>Nat.ble 1 i.bytes&&Nat.ble i.bytes 4096)=some true:=by kernel_rfl
theorem s285:TS Tryz.prog 285 2:=TS.of Yg
theorem z285:TZ Tryz.prog 285 (.agg #[.int .i64 0,.int .i64 0]):=TZ.of Yg
theorem p285:TP Tryz.prog 285 [(0,1),(1,1)]:=TP.of Tryz.underlying285 Yg Yg
theorem f285_0:TF Tryz.prog 285 0 0:=TF.of Tryz.underlying285 rfl s3 rfl
theorem f285_1:TF Tryz.prog 285 1 1:=TF.of Tryz.underlying285 rfl s3 rfl
theorem a288:TA Tryz.prog 288 false:=TA.of Tryz.underlying288 _ rfl
theorem a289:TA Tryz.prog 289 false:=TA.of Tryz.underlying289 _ rfl
theorem a295:TA Tryz.prog 295 false:=TA.of Tryz.underlying295 _ rfl
theorem s295:TS Tryz.prog 295 1:=TS.of Yg
theorem z297:TZ Tryz.prog 297 (.agg #[.int .i64 0,.int .i64 0,.int .i64 0,.slice none 0 0,.slice none 0 0,.map none]):=TZ.of Yg
theorem p297:TP Tryz.prog 297 [(0,5),(5,1)]:=TP.of Tryz.underlying297 Yg Yg
theorem f297_0:TF Tryz.prog 297 0 0:=TF.of Tryz.underlying297 rfl s36 rfl
theorem f297_1:TF Tryz.prog 297 1 5:=TF.of Tryz.underlying297 rfl s295 rfl
theorem a303:TA Tryz.prog 303 false:=TA.of Tryz.underlying303 _ rfl
theorem s303:TS Tryz.prog 303 1:=TS.of Yg
theorem z303:TZ Tryz.prog 303 (.slice none 0 0):=TZ.of Yg
theorem a305:TA Tryz.prog 305 false:=TA.of Tryz.underlying305 _ rfl
theorem a307:TA Tryz.prog 307 false:=TA.of Tryz.underlying307 _ rfl
theorem a309:TA Tryz.prog 309 false:=TA.of Tryz.underlying309 _ rfl
theorem s309:TS Tryz.prog 309 1:=TS.of Yg
theorem z311:TZ Tryz.prog 311 (.agg #[.slice none 0 0,.int .i64 0,.slice none 0 0,.map none]):=TZ.of Yg
theorem p311:TP Tryz.prog 311 [(0,3),(3,1)]:=TP.of Tryz.underlying311 Yg Yg
theorem f311_0:TF Tryz.prog 311 0 0:=TF.of Tryz.underlying311 rfl s40 rfl
theorem f311_1:TF Tryz.prog 311 1 3:=TF.of Tryz.underlying311 rfl s309 rfl
theorem a315:TA Tryz.prog 315 false:=TA.of Tryz.underlying315 _ rfl
theorem s315:TS Tryz.prog 315 1:=TS.of Yg
theorem z315:TZ Tryz.prog 315 (.slice none 0 0):=TZ.of Yg
theorem a317:TA Tryz.prog 317 true:=TA.of Tryz.underlying317 _ rfl
theorem s317:TS Tryz.prog 317 7:=TS.of Yg
theorem a319:TA Tryz.prog 319 true:=TA.of Tryz.underlying319 _ rfl
theorem s319:TS Tryz.prog 319 9:=TS.of Yg
theorem z319:TZ Tryz.prog 319 (.agg #[.int .i64 0,.int .i64 0,.int .i64 0,.int .i64 0,.int .i64 0,.int .i64 0,.int .i64 0,.int .i64 0,.int .i64 0]):=TZ.of Yg
theorem i319:(Tryz.prog.info? 319).map (fun i=>Nat.ble 1 i.bytes&&Nat.ble i.bytes 4096)=some true:=by kernel_rfl
theorem f319_0:TF Tryz.prog 319 0 0:=TF.of Tryz.underlying319 rfl s3 rfl
theorem f319_1:TF Tryz.prog 319 1 1:=TF.of Tryz.underlying319 rfl s3 rfl
theorem f319_2:TF Tryz.prog 319 2 2:=TF.of Tryz.underlying319 rfl s317 rfl
theorem a347:TA Tryz.prog 347 false:=TA.of Tryz.underlying347 _ rfl
theorem a349:TA Tryz.prog 349 false:=TA.of Tryz.underlying349 _ rfl
theorem a352:TA Tryz.prog 352 false:=TA.of Tryz.underlying352 _ rfl
theorem a358:TA Tryz.prog 358 true:=TA.of Tryz.underlying358 _ rfl
theorem s358:TS Tryz.prog 358 9:=TS.of Yg
theorem z358:TZ Tryz.prog 358 (.agg #[.int .i64 0,.int .i64 0,.int .i64 0,.int .i64 0,.int .i64 0,.int .i64 0,.int .i64 0,.int .i64 0,.int .i64 0]):=TZ.of Yg
theorem p358:TP Tryz.prog 358 [(0,1),(1,4),(5,4)]:=TP.of Tryz.underlying358 Yg Yg
theorem a362:TA Tryz.prog 362 false:=TA.of Tryz.underlying362 _ rfl
theorem a363:TA Tryz.prog 363 false:=TA.of Tryz.underlying363 _ rfl
theorem a367:TA Tryz.prog 367 true:=TA.of Tryz.underlying367 _ rfl
theorem s367:TS Tryz.prog 367 8:=TS.of Yg
theorem z367:TZ Tryz.prog 367 (.agg #[.int .i64 0,.int .i64 0,.int .i64 0,.int .i64 0,.int .i64 0,.int .i64 0,.int .i64 0,.int .i64 0]):=TZ.of Yg
theorem p367:TP Tryz.prog 367 [(0,1),(1,7)]:=TP.of Tryz.underlying367 Yg Yg
theorem f367_0:TF Tryz.prog 367 0 0:=TF.of Tryz.underlying367 rfl s3 rfl
theorem f367_1:TF Tryz.prog 367 1 1:=TF.of Tryz.underlying367 rfl s317 rfl
theorem a381:TA Tryz.prog 381 false:=TA.of Tryz.underlying381 _ rfl
theorem s381:TS Tryz.prog 381 1:=TS.of Yg
theorem z384:TZ Tryz.prog 384 (.agg #[.nilFunc]):=TZ.of Yg
theorem p384:TP Tryz.prog 384 [(0,1)]:=TP.of Tryz.underlying384 Yg Yg
theorem f384_0:TF Tryz.prog 384 0 0:=TF.of Tryz.underlying384 rfl s381 rfl
end Tf
end Go.Fs
namespace Go.Fs.C1
structure sC where
 back:Bool
 many:Int
 num:Int
 deriving DecidableEq
structure dK where
 places:List Int
 counts:List sC
 wrong:Int
 off:Int
 deriving DecidableEq
def fR(n lo hi:Int):Bool:=decide (lo≤n)&&decide (n≤hi)
def nE(n:Int):Bool:=fR n 0 2
def mO(len:Nat)(c:sC):Bool:=fR c.many 0 len&&fR c.num 0 9
def aT(r:dK):Int:=
 if 9<r.places.length∨6<r.counts.length then 3
 else if r.places.length=0∨fR r.wrong 0 6=false∨fR r.off 0 9=false∨r.places.all nE=false∨r.counts.all (mO r.places.length)=false then 1
 else 0
def iR(l:List Int):Nat:=(l.filter (· ==2)).length
def IT(t p:Int):Bool:=fR t 0 1&&(p==2||t==p)
def nI(r:dK)(t:List Int):Bool:=(t.length==r.places.length)&&(t.zip r.places).all fun x=>IT x.1 x.2
def dB(l:List Int)(i k:Nat):Int:=((l.drop i).take k).sum
def J5(t:List Int)(c:sC):Int:=if c.back then dB t (t.length-c.many.toNat) c.many.toNat else dB t 0 c.many.toNat
def gX(t:List Int)(c:sC):Int:=max (J5 t c-c.num) (c.num-J5 t c)
def dX(r:dK)(t:List Int):Bool:=r.counts.all fun c=>decide (gX t c≤r.off)
def oF(r:dK)(t:List Int):Nat:=(r.counts.filter fun c=>decide (0<gX t c)).length
def cW:List Int→List (List Int)
 | []=>[[]]
 |p::ps=>(if p=2∨p=0 then(cW ps).map (0:: ·)else [])++(if p=2∨p=1 then(cW ps).map (1:: ·)else [])
def fits(r:dK)(t:List Int):Bool:=dX r t&&decide ((oF r t:Int)≤r.wrong)
def truths(r:dK):List (List Int):=(cW r.places).filter (fits r)
def lB(t:List Int)(i j:Nat):Int:=dB t i (j+1-i)
def pB:List Int→Int
 | []=>0
 |x::xs=>xs.foldl min x
def nQ:List Int→Int
 | []=>0
 |x::xs=>xs.foldl max x

theorem xQ{l:List Int}{i k:Nat}{x:Int}(h:l[i+k]?= some x):dB l i (k+1)=dB l i k+x:=by
 unfold dB;rw[aJP,aLM,h];simp
theorem fA{l:List Int}(hb:∀x∈l,0≤x∧x≤1)(i k:Nat):0≤dB l i k∧dB l i k≤k:=by
 induction k with
 |zero=>simp[dB]
 |succ k ih=>
  cases h:l[i+k]? with
  |none=>
   have:dB l i (k+1)=dB l i k:=by
    unfold dB;rw[aJP,aLM,h];simp
   rw[this];omega
  |some x=>rw[xQ h];have:=hb x (aJA h);omega
theorem uY(l:List Int)(i k m:Nat):dB l i (k+m)=dB l i k+dB l (i+k) m:=by
 unfold dB;rw[List.take_add,aMZ];simp
def eD(t:List Int):List Int:=t++List.replicate (9-t.length) 0
theorem fJ{t:List Int}(h:t.length≤9):(eD t).length=9:=by simp[eD];omega
theorem FL{t:List Int}(h:∀x∈t,0≤x∧x≤1):∀x∈eD t,0≤x∧x≤1:=by
 intro x hx;rcases aJO.1 hx with hx|hx
 ·exact h x hx
 ·rw[(List.mem_replicate.1 hx).2];omega
theorem vR(n:Nat):(List.replicate n (0:Int)).sum=0:=by
 induction n with
 |zero=>rfl
 |succ n ih=>rw[List.replicate_succ,List.sum_cons,ih];rfl
theorem BO(t:List Int)(k:Nat):dB (eD t) 0 k=dB t 0 k:=by
 unfold dB eD;simp only[aMS,List.take_append,List.sum_append,List.take_replicate,vR];omega
def jP(c:List Int):List Int:=(List.range 10).map fun k=>dB c 0 k
def lZ(c:List Int)(k:Nat):List Int:=(List.range 10).map fun j=>if j≤k then dB c 0 j else 0
theorem mB(c:List Int):(jP c).length=10:=by simp[jP]
theorem I4(c:List Int)(k:Nat):(lZ c k).length=10:=by simp[lZ]
theorem q9(c:List Int):lZ c 9=jP c:=by simp[lZ,jP,List.range,List.range.loop]
theorem CW(c:List Int)(k:Nat)(h:k<10):(lZ c k)[k]?= some (dB c 0 k):=by simp[lZ,h]
theorem DS(c:List Int)(k:Nat):(lZ c k).set (k+1) (dB c 0 (k+1))=lZ c (k+1):=by
 apply aOE;intro j;rw[List.getElem?_set];simp only[lZ,aKA];by_cases hj:k+1=j
 ·subst hj;by_cases hk:k+1<10
  ·simp[hk]
  ·simp[hk]
 ·rw[aJM hj];by_cases hk:j<10
  ·simp only[aNW hk,aKJ];by_cases h1:j≤k
   ·rw[aJT h1,aJT Yd]
   ·rw[aJM h1,aJM Yd]
  ·simp[hk]
theorem nZ(c:List Int)(k:Nat)(h:k<10):(jP c)[k]?= some (dB c 0 k):=by simp[jP,h]
theorem FH(t:List Int):jP (eD t)=jP t:=by simp[jP,BO]

structure oQ(r:dK):Prop where
 len0:0<r.places.length
 len9:r.places.length≤9
 cnt6:r.counts.length≤6
 wrong:0≤r.wrong∧r.wrong≤6
 off:0≤r.off∧r.off≤9
 place:∀p∈r.places,0≤p∧p≤2
 cnt:∀c∈r.counts,0≤c.many∧c.many≤r.places.length∧0≤c.num∧c.num≤9
theorem cG{n lo hi:Int}:fR n lo hi=true ↔ lo≤n∧n≤hi:=by simp[fR]
theorem X9{r:dK}:aT r=0 ↔ oQ r:=by
 unfold aT;constructor
 ·intro h;split at h
  ·cases h
  ·split at h
   ·cases h
   ·rename_i h1 h2;simp only[not_or]at h1 h2;obtain⟨a,b,c,d,e⟩:=h2;simp only[Bool.not_eq_false,aJW,nE,mO,aJI,cG]at b c d e;exact⟨by omega,by omega,by omega,b,c,d,fun x hx=>⟨(e x hx).1.1,(e x hx).1.2,(e x hx).2.1,(e x hx).2.2⟩⟩
 ·intro h;rw[aJM (by have:=h.len9;have:=h.cnt6;omega),aJM]
  simp only[not_or,Bool.not_eq_false,aJW,nE,mO,aJI,cG];exact⟨by have:=h.len0;omega,h.wrong,h.off,h.place,fun x hx=>⟨⟨(h.cnt x hx).1,(h.cnt x hx).2.1⟩,(h.cnt x hx).2.2⟩⟩
def mD(r:dK)(t:List Int):Prop:=t.length=r.places.length∧∀x∈t,0≤x∧x≤1
def aIO(r:dK)(t:List Int):Bool:=(t.length==r.places.length)&&t.all (fun x=>fR x 0 1)&&(t.zip r.places).all fun x=>x.2==2||x.1==x.2
theorem yI{α β:Type}{p:α→Bool}:∀{l:List α} {m:List β},l.length=m.length→((l.zip m).all fun x=>p x.1)=l.all p
 | [],[],_=>rfl
 |a::l,b::m,h=>by simp only[aOB,List.all_cons];rw[yI Yai]
theorem aGO(r:dK)(t:List Int):aIO r t=nI r t:=by
 unfold aIO nI IT;by_cases h:t.length=r.places.length
 ·rw[←yI h];simp only[h,beq_self_eq_true,aNA];rw[aMN];simp only[aJI,aJW];constructor
  ·rintro⟨h1,h2⟩ x hx;exact⟨h1 x hx,h2 x hx⟩
  ·intro h;exact⟨fun x hx=>(h x hx).1,fun x hx=>(h x hx).2⟩
 ·have:(t.length==r.places.length)=false:=by simpa using h
  simp[this]
theorem aER{r:dK}{t:List Int}(h:nI r t=true):mD r t:=by
 rw[←aGO]at h;simp only[aIO,aJI,aNR,aJW,cG]at h;exact⟨h.1.1,h.1.2⟩
theorem EA{r:dK}{t:List Int}{c:sC}(ht:mD r t)(h0:0≤c.many)(h1:c.many≤r.places.length):
  J5 t c=if c.back then dB t 0 t.length-dB t 0 (t.length-c.many.toNat)else dB t 0 c.many.toNat:=by
 unfold J5;split
 ·have h:=uY t 0 (t.length-c.many.toNat) c.many.toNat;rw[show t.length-c.many.toNat+c.many.toNat=t.length by rw[ht.1];omega,aMC]at h
  omega
 ·rfl
theorem A5{r:dK}{t:List Int}{c:sC}(ht:mD r t)(_h0:0≤c.many)(h1:c.many≤r.places.length)(h9:r.places.length≤9):0≤J5 t c∧J5 t c≤9:=by
 unfold J5;split
 ·have:=fA ht.2 (t.length-c.many.toNat) c.many.toNat;omega
 ·have:=fA ht.2 0 c.many.toNat;omega
theorem DH{r:dK}{t:List Int}{c:sC}(hr:oQ r)(ht:mD r t)(hc:c∈r.counts):0≤gX t c∧gX t c≤9:=by
 obtain⟨a,b,d,e⟩:=hr.cnt c hc;have:=A5 ht a b hr.len9;unfold gX;omega

def DK(p:Int)(ps pre:List Int)(k:Nat):List (List Int):=(List.range k).flatMap fun(m:Nat)=>if p=2∨p=(m:Int)then(cW ps).map (fun t=>eD (pre++(m:Int)::t))else []
theorem TO{p:Int}{ps pre:List Int}:DK p ps pre 0=[]:=rfl
theorem aDW{p:Int}{ps pre:List Int}{k:Nat}(h:¬(p=2∨p=(k:Int))):DK p ps pre (k+1)=DK p ps pre k:=by
 unfold DK;rw[aLG,aKE];simp[h]
theorem KP{p:Int}{ps pre:List Int}{k:Nat}(h:p=2∨p=(k:Int)):DK p ps pre (k+1)=DK p ps pre k++(cW ps).map (fun t=>eD (pre++[(k:Int)]++t)):=by
 unfold DK;rw[aLG,aKE];simp[h]
theorem JL{p:Int}{ps pre:List Int}:DK p ps pre 2=(cW (p::ps)).map (fun t=>eD (pre++t)):=by
 by_cases h2:p=2
 ·simp[DK,cW,List.range,List.range.loop,Function.comp_def,h2]
 ·by_cases h0:p=0
  ·simp[DK,cW,List.range,List.range.loop,Function.comp_def,h0]
  ·by_cases h1:p=1
   ·simp[DK,cW,List.range,List.range.loop,Function.comp_def,h1]
   ·have:¬(1:Int)=p:=fun e=>h1 e.symm
    simp[DK,cW,List.range,List.range.loop,h2,h0,h1]
theorem UY{p:Int}{ps pre:List Int}{k:Nat}(hk:k<2):∃r,DK p ps pre 2=DK p ps pre (k+1)++r:=by
 rcases(by omega:k=0∨k=1)with rfl|rfl
 ·refine⟨if p=2∨p=1 then(cW ps).map (fun t=>eD (pre++1::t))else [],?_⟩;simp[DK,List.range,List.range.loop]
 ·exact⟨[],by simp⟩
theorem BX{pre c:List Int}{n:Nat}(_h9:c.length=9)(hp:c.take n=pre)(hn:pre.length=n)(hz:c.drop n=List.replicate (9-n) 0):c=eD pre:=by
 rw[←aLD n c,hp,hz];unfold eD;rw[hn]
theorem GM{pre c:List Int}{i n:Nat}{k:Int}(h9:c.length=9)(hi:i<n)(hn:n≤9)(hp:c.take i=pre)(hz:c.drop n=List.replicate (9-n) 0):
  (c.set i k).length=9∧(c.set i k).take (i+1)=pre++[k]∧(c.set i k).drop n=List.replicate (9-n) 0:=by
 refine⟨by simpa using h9,?_,?_⟩
 ·rw[List.take_succ_eq_append_getElem Yaf,List.take_set_of_le (aJU _),hp];simp
 ·rw[List.drop_set_of_lt hi,hz]
theorem sN(l:List Int):(cW l).length≤2^l.length:=by
 induction l with
 |nil=>simp[cW]
 |cons p ps ih=>
  simp only[cW,aIX,aJD,Nat.pow_succ];have:∀(c:Prop) [Decidable c] (f:List Int→List Int),(if c then(cW ps).map f else []).length≤(cW ps).length:=by intro c _ f;split<;>simp
  have h1:=this (p=2∨p=0) (0:: ·);have h2:=this (p=2∨p=1) (1:: ·);omega
theorem nC{l t:List Int}(h:t∈cW l):t.length=l.length∧∀x∈t,0≤x∧x≤1:=by
 induction l generalizing t with
 |nil=>simp[cW]at h;subst h;simp
 |cons p ps ih=>
  simp only[cW,aJO]at h;rcases h with h|h
  ·split at h
   ·obtain⟨t',ht',rfl⟩:=aIY.1 h;refine⟨by simp[(ih ht').1],fun x hx=>?_⟩;rcases aIW.1 hx with rfl|hx
    ·omega
    ·exact(ih ht').2 x hx
   ·simp at h
  ·split at h
   ·obtain⟨t',ht',rfl⟩:=aIY.1 h;refine⟨by simp[(ih ht').1],fun x hx=>?_⟩;rcases aIW.1 hx with rfl|hx
    ·omega
    ·exact(ih ht').2 x hx
   ·simp at h
theorem tU{places x:List Int}{pre r:List (List Int)}(h:(cW places).map eD=pre++x::r):∃t,(cW places)[pre.length]?= some t∧x=eD t∧t∈cW places∧(cW places).take (pre++[x]).length=(cW places).take pre.length++[t]:=by
 have h1:((cW places).map eD)[pre.length]?= some x:=by rw[h];simp
 rw[aKA,aMB]at h1;obtain⟨t,ht,hx⟩:=h1;refine⟨t,ht,hx.symm,aJA ht,?_⟩;rw[aIX,aMM,aJP,ht];rfl
def dF(r:dK)(fine:Bool):Int:=if aT r≠0 then aT r else if fine=false then 2 else if truths r=[]then 11 else 0
def nW(r:dK)(i j:Int):Bool:=fR i 0 (r.places.length-1)&&fR j i (r.places.length-1)

def XE(ts:List (List Int))(i j:Nat):Int:=pB (ts.map fun t=>lB t i j)
def TD(ts:List (List Int))(i j:Nat):Int:=nQ (ts.map fun t=>lB t i j)
theorem I2(l:List Int)(a:Int)(h:l[0]?= some a):l.foldl min a=pB l:=by
 cases l with
 |nil=>simp at h
 |cons x l=>simp at h;subst h;simp[pB]
theorem H1(l:List Int)(a:Int)(h:l[0]?= some a):l.foldl max a=nQ l:=by
 cases l with
 |nil=>simp at h
 |cons x l=>simp at h;subst h;simp[nQ]
theorem w9{t:List Int}(hb:∀x∈t,0≤x∧x≤1)(i j:Nat)(hj:j<9):0≤lB t i j∧lB t i j≤9:=by
 unfold lB;have:=fA hb i (j+1-i);omega
def vd(ts:List (List Int))(q:List Int→Bool):Int:=
 match ts with
 | []=>1
 |t0::_=>if(ts.all fun t=>q t==q t0)=true then(if q t0=true then 1 else 2)else 3
theorem YJ{ts:List (List Int)}{q:List Int→Bool}{t0:List Int}(h0:ts[0]?= some t0){j:Nat}(hj:ts.length≤j)(h:(ts.take j).all (fun t=>q t==q t0)=true):vd ts q=if q t0=true then 1 else 2:=by
 rw[aKC hj]at h;cases ts with
 |nil=>simp at h0
 |cons x l=>simp at h0;subst h0;simp only[vd];rw[aJT h]
theorem aDF{ts:List (List Int)}{q:List Int→Bool}{t0 t:List Int}(h0:ts[0]?= some t0){j:Nat}(hj:ts[j]?= some t)(h:(!(q t==q t0))=true):vd ts q=3:=by
 cases ts with
 |nil=>simp at h0
 |cons x l=>
  simp only[List.getElem?_cons_zero,aOD]at h0;subst h0;simp only[vd]
  rw[aJM];intro ha;have:=aJW.1 ha t (aJA hj);simp[this]at h
def QT(i:Nat)(t:List Int):Bool:=decide (0<t.getD i 0)
def rK(r:dK)(i:Nat)(t:List Int):Bool:=match r.counts[i]? with|some c=>decide (gX t c=0)|none=>false
theorem UQ{t:List Int}{i:Nat}(h:i<9)(h9:t.length≤9):(eD t)[i]?= some (t.getD i 0):=by
 unfold eD;by_cases hi:i<t.length
 ·rw[aMA hi,aKX,aJC hi];rfl
 ·rw[aNK Yd,List.getElem?_replicate,aJT Yd,aKX,aMG Yd];rfl
theorem uI{r:dK}{t:List Int}(h:t∈truths r):mD r t:=nC (List.mem_filter.1 h).1


def iK(r:dK)(o:Option Int)(t:List Int):Option Int:=if dX r t=true then some (match o with|none=>(oF r t:Int)|some m=>min m (oF r t))else o
def kC(r:dK)(us:List (List Int)):Option Int:=us.foldl (iK r) none
theorem rJ(r:dK)(us:List (List Int))(t:List Int):kC r (us++[t])=iK r (kC r us) t:=by simp[kC,aLE]
theorem x8{r:dK}{o:Option Int}{t:List Int}{w:Int}(h:∃m,o=some m∧m≤w):∃m,iK r o t=some m∧m≤w:=by
 obtain⟨m,rfl,hm⟩:=h;unfold iK;split
 ·exact⟨_,rfl,by simp only;omega⟩
 ·exact⟨m,rfl,hm⟩
theorem wH{r:dK}{w:Int}:∀(us:List (List Int)) (o:Option Int),(∃m,o=some m∧m≤w)→∃m,us.foldl (iK r) o=some m∧m≤w
 | [],o,h=>h
 |t::us,o,h=>by rw[aLK];exact wH us _ (x8 h)
theorem uU{r:dK}{t:List Int}(he:dX r t=true):∀(us:List (List Int)) (o:Option Int),t∈us→∃m,us.foldl (iK r) o=some m∧m≤(oF r t:Int)
 |u::us,o,h=>by
  rw[aLK];rcases aIW.1 h with rfl|h
  ·refine wH us _ ?_;unfold iK;rw[aJT he];refine⟨_,rfl,?_⟩;split<;>omega
  ·exact uU he us _ h
theorem T4{r:dK}{us:List (List Int)}{t:List Int}(h:t∈us):kC r (us++[t])=kC r us:=by
 rw[rJ];unfold iK;split
 ·rename_i he;obtain⟨m,hm,hle⟩:=uU he us none h;have:kC r us=some m:=hm;rw[this];simp only;rw[Int.min_eq_left hle]
 ·rfl
theorem SO{t u:List Int}(hl:t.length=u.length)(h:eD t=eD u):t=u:=by
 have:=aJS (List.take t.length) h;unfold eD at this;rw[aNL,hl,aNL]at this;exact this
def tH(r:dK)(pre:List (List Int))(g:Option Int×List Int):Prop:=g.1=kC r ((cW r.places).take pre.length)∧g.2.length=9∧∀u,((cW r.places).take pre.length).getLast?= some u→g.2=eD u
theorem FE{r:dK}{pre:List (List Int)}{o:Option Int}{last t:List Int}(h:tH r pre (o,last))(ht:t∈cW r.places)(htake:(cW r.places).take (pre++[eD t]).length=(cW r.places).take pre.length++[t])(hc:(o.isSome&&(eD t==last))=true):tH r (pre++[eD t]) (o,last):=by
 obtain⟨h1,h2,h3⟩:=h;simp only[aJI,aNR]at hc;obtain⟨ho,hl⟩:=hc;cases hg:((cW r.places).take pre.length).getLast? with
 |none=>
  rw[List.getLast?_eq_none_iff]at hg;rw[hg]at h1;simp only at h1;rw[h1]at ho;cases ho
 |some u=>
  have hu:=List.mem_of_getLast? hg;have h4:=h3 u hg;simp only at h4;have hut:t=u:=SO (by rw[(nC ht).1,(nC (aNO hu)).1]) (by rw[hl,h4]);subst hut;refine⟨?_,h2,fun v hv=>?_⟩
  ·rw[htake,T4 hu];exact h1
  ·rw[htake,List.getLast?_concat]at hv;cases hv;exact h4
theorem LL{r:dK}{pre:List (List Int)}{o:Option Int}{last t:List Int}(h:tH r pre (o,last))(h9:(eD t).length=9)(htake:(cW r.places).take (pre++[eD t]).length=(cW r.places).take pre.length++[t])
  (hc:(dX r t&&(!o.isSome||decide ((if dX r t=true then(oF r t:Int)else 0)<o.getD 0)))=true):tH r (pre++[eD t]) (some (if dX r t=true then(oF r t:Int)else 0),eD t):=by
 obtain⟨h1,h2,h3⟩:=h;simp only[aJI]at hc;obtain⟨he,hc⟩:=hc;refine⟨?_,h9,fun v hv=>?_⟩
 ·simp only at h1;rw[htake,rJ,←h1];simp only[iK,he,aLH]at hc ⊢
  cases o with
  |none=>rfl
  |some m=>
   simp only[Option.isSome_some,aOF,Bool.false_or,aJV,aMO]at hc;simp only;rw[Int.min_eq_right Yd]
 ·rw[htake,List.getLast?_concat]at hv;cases hv;rfl
theorem WO{r:dK}{pre:List (List Int)}{o:Option Int}{last t:List Int}(h:tH r pre (o,last))(h9:(eD t).length=9)(htake:(cW r.places).take (pre++[eD t]).length=(cW r.places).take pre.length++[t])
  (hc:(dX r t&&(!o.isSome||decide ((if dX r t=true then(oF r t:Int)else 0)<o.getD 0)))=false):tH r (pre++[eD t]) (o,eD t):=by
 obtain⟨h1,h2,h3⟩:=h;refine⟨?_,h9,fun v hv=>?_⟩
 ·simp only at h1;rw[htake,rJ,←h1];unfold iK;split
  ·rename_i he;simp only[he,aNA,aLH]at hc;cases o with
   |none=>simp at hc
   |some m=>
    simp only[Option.isSome_some,aOF,Bool.false_or,aLY,aMO]at hc;simp only;rw[Int.min_eq_left Yd]
  ·rfl
 ·rw[htake,List.getLast?_concat]at hv;cases hv;rfl
def pD(r:dK):Int:=if aT r≠0 then 0 else(kC r (cW r.places)).getD 0
def yT(r:dK):Int:=if aT r≠0 then aT r else if(kC r (cW r.places)).isSome=true then 0 else 10
theorem BL{r:dK}{o:Option Int}(ho:o=kC r (cW r.places))(hf:aT r=0)(h:(!o.isSome)=true):pD r=0∧yT r=10:=by
 have hn:o=none:=by simpa using h
 rw[pD,yT,←ho,hn,hf];exact⟨rfl,rfl⟩
theorem AF{r:dK}{o:Option Int}(ho:o=kC r (cW r.places))(hf:aT r=0)(h:(!o.isSome)=false):pD r=o.getD 0∧yT r=0:=by
 have hn:o.isSome=true:=by simpa using h
 rw[pD,yT,←ho,hf,hn];exact⟨rfl,rfl⟩

end Go.Fs.C1
namespace Go.Fs
open C1
def RC:Rd sC:=fun _ c cs=>cs=[.bool c.back,.int .i64 c.many,.int .i64 c.num]
theorem RC.up:RC.Up:=fun _ _ _ h=>h
def iV(n:Int):Value:=.int .i64 n
def cV(c:sC):Value:=.agg #[.bool c.back,.int .i64 c.many,.int .i64 c.num]
def mW(D:aA)(v:Value)(r:dK):Prop:=∃pv cv,v=.agg #[pv,cv,.int .i64 r.wrong,.int .i64 r.off]∧Sl D RI 1 pv r.places∧Sl D RC 3 cv r.counts
theorem mW.up{D D':aA}{v:Value}{r:dK}(h:mW D v r)(hl:Le D D'):mW D' v r:=by
 obtain⟨pv,cv,hv,hp,hc⟩:=h;exact⟨pv,cv,hv,hp.up RI.up hl,hc.up RC.up hl⟩
def idxOf{α:Type}(p:α→Bool)(xs:List α):Int:=if xs.any p then(xs.findIdx p:Int)else -1
def RT:Rd (List Int):=fun _ t cs=>cs=ints (eD t)
theorem RT.up:RT.Up:=fun _ _ _ h=>h
def TT(D:aA)(v:Value)(r:dK):Prop:=∃b pv cv tv,v=.pointer (some ⟨b,0,none⟩)∧At D b 0 [pv,cv,.int .i64 r.wrong,.int .i64 r.off,tv]∧Sl D RI 1 pv r.places∧Sl D RC 3 cv r.counts∧Sl D RT 9 tv (truths r)
def vQ(e:Nat)(r:dK)(pre:List (List Int))(g:Value×aC):Prop:=bL e 9 g.1 (((cW r.places).take pre.length).filter (fits r)).length ((((cW r.places).take pre.length).filter (fits r)).flatMap fun t=>ints (eD t)) g.2
theorem AI{l:List (List Int)}(h:∀t∈l,t.length≤9):(l.flatMap fun t=>ints (eD t)).length=l.length*9:=by
 induction l with
 |nil=>rfl
 |cons t l ih=>
  rw[aKR,aIX,ih (fun t ht=>h t (aJB _ ht)),aJD,Fs.aH,fJ (h t aJH),aLW];omega
theorem SW{l:List (List Int)}(h:∀t∈l,t.length≤9){i:Nat}{t:List Int}(hi:l[i]?= some t):((l.flatMap fun t=>ints (eD t)).drop (i*9)).take 9=ints (eD t):=by
 induction l generalizing i with
 |nil=>simp at hi
 |cons u l ih=>
  have hu:(ints (eD u)).length=9:=by rw[Fs.aH,fJ (h u aJH)]
  rw[aKR];cases i with
  |zero=>
   obtain rfl:u=t:=by simpa using hi
   rw[aNF,aMS,aKM Yd,aKC Yd]
  |succ i=>
   rw[aMY,aKK Yd,aKF,hu,show(i+1)*9-9=i*9 by omega];exact ih (fun t ht=>h t (aJB _ ht)) Yaj
theorem jN.truths{D:aA}{v:Value}{n:Nat}{l:List (List Int)}(hF:jN D v n (l.flatMap fun t=>Fs.ints (eD t)))(hn:l.length=n)(hb:n≤9223372036854775807)(h:∀t∈l,t.length≤9):Sl D RT 9 v l:=
 hF.sl hn hb fun i t hi=>⟨Fs.ints (eD t),rfl,by rw[Fs.aH,fJ (h t (aJA hi))],SW h hi⟩
theorem aBM{e sz b:Nat}{cells:List Value}(h:cells.length=sz):bL e sz (.slice (some ⟨b,0,none⟩) 1 1) 1 cells [(b,.cells cells.toArray e (0,0))]:=
 aJE ⟨b,1,[],rfl,aJU _,by simp,by omega,by simp;omega⟩
theorem jN.at{D:aA}{b n cap:Nat}{cells:List Value}(h:jN D (.slice (some ⟨b,0,none⟩) n cap) n cells)(hn:0<n):At D b 0 cells:=by
 rcases h with⟨a,hv,h0,_⟩|⟨b',cap',hv,_,hA⟩
 ·omega
 ·cases hv;exact hA
end Go.Fs
namespace Go.Fs
variable{P:Program}{X:Cx}{γb:Type}[Membership Nat γb]{bad:γb}{all:Array Oper}{K:Act→World→Prop}{Q:Exit→Act→World→Prop}
variable{σ:bS}{μ:aC}{Ds:List aA}{os:List (Bool×Nat)}{fl:Bool}{ix:Nat}
variable{d:Nat}{x y z:Operand}{u v:Value}{ty:TypeId}{pos:String}{aft:Array Edge}{g:Option (Nat×Bool)}
theorem dD{e:TypeId}{q:IntKind}(hu:P.underlying e=some (.int q)){xs:Array Value}{off:Nat}{v:Value}(hx:xs[off]?= some v)(w:World):(part e xs off).run P w=.ok v w:=
 run_part_plain w (by simp[Program.plainKey,hu]) hx
theorem jM(dp:Nat){e:TypeId}(hu:P.underlying e=some (.int .i64))(l m:List Int)(w:World):∀(is:List Nat),(∀i∈is,i<l.length∧i<m.length)→
  (Op.eqItems (dp+1) e 1 (ints l).toArray (ints m).toArray is).run P w=.ok (is.all fun i=>l[i]? ==m[i]?) w
 | [],_=>by simp[Op.eqItems,Sem.run_pure]
 |i::is,h=>by
  obtain⟨h1,h2⟩:=h i aJH;have g1:(ints l).toArray[i*1]?= some (.int .i64 l[i]):=by rw[aLV];simpa using cD (aJC h1)
  have g2:(ints m).toArray[i*1]?= some (.int .i64 m[i]):=by rw[aLV];simpa using cD (aJC h2)
  simp only[Op.eqItems,Sem.run_bind,dD hu g1,dD hu g2,run_equalIn_int w dp e .i64 .i64 _ _ hu,Result.andThen_ok,List.all_cons,aJC h1,aJC h2];by_cases he:l[i]=m[i]
  ·simp[he,jM dp hu l m w is (fun j hj=>h j (aJB _ hj))]
  ·simp[he,Sem.run_pure]
theorem nG{l m:List Int}{n:Nat}(hl:l.length=n)(hm:m.length=n):((List.range n).all fun i=>l[i]? ==m[i]?)=(l==m):=by
 rw[aMN];simp only[aJW,aMJ,aNR];constructor
 ·intro h;apply aOE;intro i;by_cases hi:i<n
  ·exact h i hi
  ·rw[aMG Yd,aMG Yd]
 ·rintro rfl i _;rfl
theorem FF{t e t':TypeId}{n:Nat}{l m:List Int}(ho:all[ix]?= some ⟨some d,.binOp .eql t x y t',ty,pos,aft,g⟩)(hgt:P.eqGuardType P.depth t=false)(ht:P.underlying t=some (.array n e))(he:P.underlying e=some (.int .i64))(hc:P.cellsOf e=1)
  (hl:l.length=n) (hm:m.length=n) (hx:ev σ x=some (.agg (ints l).toArray)) (hy:ev σ y=some (.agg (ints m).toArray)) (hN:Nat.blt d X.N=true) (hg:cT all σ g)
  (kk:WL P X bad all K Q os ((d,.bool (l==m))::σ) μ Ds):WL P X bad all K Q ((fl,ix)::os) σ μ Ds:=
 tM ho (fun w=>by
  have hgd:(eqGuard .eql t x y (.agg (ints l).toArray) (.agg (ints m).toArray)).run P w=.ok () w:=by
   simp only[eqGuard,program];simp[Sem.run,hgt,go_sem]
  have heq:(Op.equal t (.agg (ints l).toArray) (.agg (ints m).toArray)).run P w=.ok (l==m) w:=by
   obtain⟨i,hi⟩:=info_of_underlying he;have h:=run_equalIn_array (P:=P) w 9999 (ints l).toArray (ints m).toArray ht hi;rw[hc,jM 9998 he l m w (List.range n) (fun j hj=>by have:=aMJ.1 hj;omega),nG hl hm]at h
   exact h
  rw[Sem.run_bind,hgd];show((do Pure.pure (Value.bool (←Op.equal t (.agg (ints l).toArray) (.agg (ints m).toArray)))):Sem Value).run P w=_;rw[Sem.run_bind,heq];rfl) hx hy hN hg kk

def K2(P:Program)(k:TypeId):Prop:=P.underlying k=some (.struct (P.fieldsOf k))∧P.stoodInHeld k=false∧
 (P.fieldsOf k).toList.map (fun f=>(f.name== "_",f.offset,P.underlying f.type))=[(false,0,some (.int .i64)),(false,1,some (.int .i64))]
def iU(k:Int×Int):Value:=.agg #[.int .i64 k.1,.int .i64 k.2]
theorem K2.fields{k:TypeId}(h:K2 P k):∃f0 f1,P.underlying k=some (.struct #[f0,f1])∧P.fieldsOf k=#[f0,f1]∧f0.name≠ "_" ∧f1.name≠ "_" ∧f0.offset=0∧f1.offset=1∧P.underlying f0.type=some (.int .i64)∧P.underlying f1.type=some (.int .i64):=by
 obtain⟨h1,h2,h3⟩:=h;generalize hl:(P.fieldsOf k).toList=fs at h3;have h0:=aJS List.length h3;simp only[aLA,aJD,aKZ]at h0;rcases fs with _|⟨f0,_|⟨f1,_|⟨f2,fs⟩⟩⟩<;>simp only[aJD,aKZ]at h0<;>try omega
 have he:P.fieldsOf k=#[f0,f1]:=by rw[←Array.toArray_toList (xs:=P.fieldsOf k),hl]
 simp only[aJY,aNC,aLN,aMW,and_true,beq_eq_false_iff_ne]at h3;exact⟨f0,f1,by rw[h1,he],he,h3.1.1,h3.2.1,h3.1.2.1,h3.2.2.1,h3.1.2.2,h3.2.2.2⟩
theorem xM{k:TypeId}(h:K2 P k)(a b:Int×Int)(w:World):(Op.equal k (iU a) (iU b)).run P w=.ok (a==b) w:=by
 obtain⟨a1,a2⟩:=a;obtain⟨b1,b2⟩:=b;obtain⟨f0,f1,hu,hf,n0,n1,o0,o1,t0,t1⟩:=h.fields;have he:=run_equalIn_struct (P:=P) w 9999 k #[.int .i64 a1,.int .i64 a2] #[.int .i64 b1,.int .i64 b2] h.1 h.2.1;show(Op.equalIn (9999+1) k (.agg #[.int .i64 a1,.int .i64 a2]) (.agg #[.int .i64 b1,.int .i64 b2])).run P w=_;rw[he,hf];have p0:∀c1 c2:Int,(part f0.type #[.int .i64 c1,.int .i64 c2] f0.offset).run P w=.ok (.int .i64 c1) w:=fun c1 c2=>dD t0 (by rw[o0];rfl) w
 have p1:∀c1 c2:Int,(part f1.type #[.int .i64 c1,.int .i64 c2] f1.offset).run P w=.ok (.int .i64 c2) w:=fun c1 c2=>dD t1 (by rw[o1];rfl) w
 have e0:=run_equalIn_int w 9998 f0.type .i64 .i64 a1 b1 t0;have e1:=run_equalIn_int w 9998 f1.type .i64 .i64 a2 b2 t1;have s1:(Op.eqFields 9999 #[.int .i64 a1,.int .i64 a2] #[.int .i64 b1,.int .i64 b2] [f1]).run P w=.ok (a2==b2) w:=by
  simp only[Op.eqFields,n1,ne_eq,aNQ,aLH,Sem.run_bind,p1,Result.andThen_ok];rw[e1];simp only[Result.andThen_ok];cases a2==b2<;>rfl
 show(Op.eqFields 9999 #[.int .i64 a1,.int .i64 a2] #[.int .i64 b1,.int .i64 b2] (f0::[f1])).run P w=_;rw[Op.eqFields,aJT n0];simp only[Sem.run_bind,p0,Result.andThen_ok];rw[e0];simp only[Result.andThen_ok];by_cases hab:a1=b1
 ·subst hab;simp only[beq_self_eq_true,aOF,aKI,aLR];rw[s1];have:(a2==b2)=((a1,a2)==(a1,b2)):=by rw[aMN];simp
  rw[this]
 ·have hb:(a1==b1)=false:=by simpa using hab
  simp only[hb,aOA,aLH,Sem.run_pure];simp[hab]
theorem YN{t t':TypeId}{a b:Int×Int}(ho:all[ix]?= some ⟨some d,.binOp .eql t x y t',ty,pos,aft,g⟩)(hgt:P.eqGuardType P.depth t=false)(ht:K2 P t)(hx:ev σ x=some (iU a))(hy:ev σ y=some (iU b))(hN:Nat.blt d X.N=true)(hg:cT all σ g)
  (kk:WL P X bad all K Q os ((d,.bool (a==b))::σ) μ Ds):WL P X bad all K Q ((fl,ix)::os) σ μ Ds:=
 tM ho (fun w=>by
  have hgd:(eqGuard .eql t x y (iU a) (iU b)).run P w=.ok () w:=by
   simp only[eqGuard,iU,program];simp[Sem.run,hgt,go_sem]
  rw[Sem.run_bind,hgd];show((do Pure.pure (Value.bool (←Op.equal t (iU a) (iU b)))):Sem Value).run P w=_;rw[Sem.run_bind,xM ht];rfl) hx hy hN hg kk
theorem xV{k k':IntKind}{s t:TypeId}{u':TypeDesc}{n:Int}(ho:all[ix]?= some ⟨some d,.convert s t x,ty,pos,aft,g⟩)(hs:P.underlying s=some u')(ht:P.underlying t=some (.int k'))(hx:ev σ x=some (.int k n))(hn:qR k' n)(hN:Nat.blt d X.N=true)(hg:cT all σ g)
  (kk:WL P X bad all K Q os ((d,.int k' n)::σ) μ Ds):WL P X bad all K Q ((fl,ix)::os) σ μ Ds:=
 MS ho (fun w=>by
  simp only[Go.convert,Sem.run_bind,TU.of hs w,TU.of ht w,Result.andThen_ok,Conv.intToInt,kZ hn];rfl) hx hN hg kk
theorem bL.shape{e:TypeId}{sz n:Nat}{cells:List Value}{ν:aC}(h:bL e sz v n cells ν):∃a cap,v=.slice a n cap:=by
 rcases h with⟨a,hv,hn,_,_⟩|⟨b,cap,junk,hv,_⟩
 ·exact⟨a,0,by rw[hv,hn]⟩
 ·exact⟨_,cap,hv⟩
theorem Sl.shape{α:Type}{R:Rd α}{D:aA}{sz:Nat}{xs:List α}(h:Sl D R sz v xs):∃a cap,v=.slice a xs.length cap:=by
 obtain⟨a,cap,hv,_⟩:=h;exact⟨a,cap,hv⟩
theorem B9{k:TypeId}(h:K2 P k)(em:Bool)(a:Int×Int)(w:World):(Instr.checkKey em 10000 k (iU a)).run P w=.ok () w:=by
 obtain⟨f0,f1,hu,hf,n0,n1,o0,o1,t0,t1⟩:=h.fields;have p0:(part f0.type #[.int .i64 a.1,.int .i64 a.2] f0.offset).run P w=.ok (.int .i64 a.1) w:=dD t0 (by rw[o0];rfl) w
 have p1:(part f1.type #[.int .i64 a.1,.int .i64 a.2] f1.offset).run P w=.ok (.int .i64 a.2) w:=dD t1 (by rw[o1];rfl) w;have c0:(Instr.checkKey em (9998+1) f0.type (.int .i64 a.1)).run P w=.ok () w:=by
  rw[Instr.checkKey,Sem.run_bind,TU.of t0 w];rfl
 have c1:(Instr.checkKey em (9998+1) f1.type (.int .i64 a.2)).run P w=.ok () w:=by
  rw[Instr.checkKey,Sem.run_bind,TU.of t1 w];rfl
 show(Instr.checkKey em (9999+1) k (.agg #[.int .i64 a.1,.int .i64 a.2])).run P w=_;rw[Instr.checkKey,Sem.run_bind,TU.of hu w];simp only[Result.andThen_ok];rw[←Array.forIn_toList];simp only[List.forIn_cons,List.forIn_nil,n0,n1,ne_eq,aNQ,aLH,Sem.run_bind,p0,Result.andThen_ok,Sem.run_pure];rw[c0];simp only[Result.andThen_ok,Sem.run_pure,Sem.run_bind,p1];rw[c1];simp[Sem.run_pure,Result.andThen_ok]
theorem pN{t:TypeId}(ho:all[ix]?= some ⟨some d,.makeMap t none,ty,pos,aft,g⟩)(hN:Nat.blt d X.N=true)(hg:cT all σ g)
  (kk:∀b,WL P X bad all K Q os ((d,.map (some b))::σ) ((b,.map #[] 0)::μ) Ds):WL P X bad all K Q ((fl,ix)::os) σ μ Ds:=by
 refine dI ho rfl rfl hg fun a w hh=>?_
 obtain⟨h1,h2,h3,D,h4,h5,h6⟩:=id hh;have:(execOp a.eval ⟨some d,.makeMap t none,ty,pos,aft,g⟩).run P w=.ok (.value (.map (some w.heap.size))) {w with heap:=w.heap.push (.map #[] 0)}:=rfl;rw[this];exact⟨fun _=>lQ _ _ _,kk _ _ _ (Hl.put ⟨h1,h2,h3,D,h4.push _ (show cN (.map #[] 0)from aOJ),h5,h6.step (fun _ p hp=>by rcases aIW.1 hp with rfl|hp;exact Or.inr (aJU _);exact Or.inl (aIY.2 ⟨p,hp,rfl⟩)) (fun _=>wL _ _) (h4.push _ (show cN (.map #[] 0)from aOJ)).dom⟩ hN _)⟩
theorem gR{w:World}{r:Nat}{es:Array MapEntry}{clock:Nat}(h:w.heap[r]?= some (.map es clock)):(getObj r).run P w=.ok (.map es clock) w:=by
 simp[getObj,Sem.run,h]

theorem aHW{t t':TypeId}{m n:Int}{k:IntKind}(ho:all[ix]?= some ⟨some d,.binOp .shl t x y t',ty,pos,aft,g⟩)(hx:ev σ x=some (.int .i64 m))(hy:ev σ y=some (.int k n))(h0:0≤n)(h1:n<64)(hr:qR .i64 (m*2^n.toNat))(hN:Nat.blt d X.N=true)(hg:cT all σ g)
  (kk:WL P X bad all K Q os ((d,.int .i64 (m*2^n.toNat))::σ) μ Ds):WL P X bad all K Q ((fl,ix)::os) σ μ Ds:=
 bG ho rfl rfl hN hg (fun ρ hρ w'=>by
  have hn:min n.toNat IntKind.i64.bits=n.toNat:=by have:IntKind.i64.bits=64:=rfl;omega
  have h0':¬n<0:=by omega
  have hs:(binOp .shl t (.int .i64 m) (.int k n)).run P w'=.ok (.int .i64 (m*2^n.toNat)) w':=by
   show(Op.shift .shl .i64 m k n).run P w'=_;unfold Op.shift;rw[aJM h0'];simp only[hn,kZ hr,Sem.run_pure]
  have hg:∀w,(eqGuard .shl t x y (.int .i64 m) (.int k n)).run P w=.ok () w:=fun w=>rfl
  simp only[execOp,hρ x _ hx,hρ y _ hy,Sem.run_bind,hg,Result.andThen_ok,hs,Sem.run_pure]) kk

def aDH(X:Cx)(b:Nat)(post:aA→Value→Obj→Prop):Ending→World→Prop:=fun e w'=>∃v D' o',e=.returned v∧fP X.h0 X.lo X.D0 X.mods [(b,o')] D' w'∧post D' v o'
theorem dP{fn:Func}{b:Nat}{o':Obj}{post:aA→Value→Obj→Prop}{e:Exit}(he:(match e with|.normal=>true|.ret=>true|_=>false)=true){rs:List ResultVar}{vs:List Value}(hds:X.ds=[])(hr:fn.results=rs.toArray)(h:rW P X σ μ rs vs)
  (hm:(b,o')∈μ) (hp:∀D,(∀D₁∈Ds,Le D₁ D)→post D (mX vs) o'):∀a w,Hl X σ μ Ds a w→bodyPost P fn (aDH X b post) e a w:=by
 intro a w hh;have hrun:=fZ hh hr h;obtain⟨h1,h2,h3,D,h4,h5,h6⟩:=hh;have:a.defers=[]∧∃v,(results fn a.tmps).run P w=.ok v w∧aDH X b post (.returned v) w:=⟨h3.trans hds,_,hrun,_,D,o',rfl,h4.sub (fun p hp=>by rw[aJR.1 hp];exact hm) Ye,hp D h5⟩
 cases e<;>first|exact this|cases he
theorem H9{t t':TypeId}{n:Nat}(ho:all[ix]?= some ⟨some d,.binOp .shl t x y t',ty,pos,aft,g⟩)(hx:ev σ x=some (.int .i64 1))(hy:ev σ y=some (.int .i64 (n:Int)))(h1:n<62)(hN:Nat.blt d X.N=true)(hg:cT all σ g)
  (kk:WL P X bad all K Q os ((d,.int .i64 ((2^n:Nat):Int))::σ) μ Ds):WL P X bad all K Q ((fl,ix)::os) σ μ Ds:=by
 have h2:(2:Nat)^n<2^62:=Nat.pow_lt_pow_right Yd h1;have e:(1:Int)*2^(n:Int).toNat=((2^n:Nat):Int):=by simp
 have hr:qR .i64 ((1:Int)*2^(n:Int).toNat):=by
  rw[e];generalize (2:Nat)^n=q at h2;simp only[qR];omega
 refine aHW ho hx hy Yd Yd hr hN hg ?_;rw[e];exact kk
end Go.Fs
namespace Go.Fs
variable{P:Program}{X:Cx}{γb:Type}[Membership Nat γb]{bad:γb}{all:Array Oper}{K:Act→World→Prop}{Q:Exit→Act→World→Prop}
variable{σ:bS}{μ:aC}{Ds:List aA}{os:List (Bool×Nat)}{fl:Bool}{ix:Nat}
variable{d:Nat}{x y z:Operand}{u v:Value}{ty:TypeId}{pos:String}{aft:Array Edge}{g:Option (Nat×Bool)}
def CN(P:Program)(f:FuncId)(args:Array Value)(D:aA)(post:aA→Value→aC→Prop):Prop:=
 EF P f∧∀w,dM D w→Calls P f args w fun e w'=>∃v D' ν,e=.returned v∧fP (hd w) w.heap.size D [] ν D' w'∧post D' v ν
theorem mT{f:FuncId}{fn:Func}{c:Code}{args:List Value}{D:aA}{post:aA→Value→aC→Prop}(N:Nat)(hf:P.funcs[f]?= some fn)(hn:(fn.name== "runtime.NumGoroutine")=false)(hb:fn.body=some c)(hN:fn.ntmps=N)(hsz:Nat.ble args.length N=true)
  (h:∀h0:H0,WC P ⟨none,N,[],h0,h0.size,D,[],none⟩ (bodyPost P fn (lW ⟨none,N,[],h0,h0.size,D,[],none⟩ post)) c (gJ 0 args) [] [D]):CN P f args.toArray D post:=by
 refine⟨EF.of hf hn hb,fun w hw=>?_⟩;subst hN;have hsz:=aLJ hsz;refine(cS (r:=none) (n:=0)).1 ((callsIn_of_wp (R:=lW ⟨none,fn.ntmps,[],hd w,w.heap.size,D,[],none⟩ post) hf hb aOJ (h (hd w) _ w ⟨?_,fun s v hs=>?_,rfl,D,⟨aJU _,aJU _,fun _ _ _=>rfl,fun _ _=>rfl,hw,(fun p hp=>by cases hp),aLI,(fun p hp=>by cases hp),fun e he=>aJZ he⟩,fun D₁ h1=>?_,aOJ⟩) rfl).mono ?_)
 ·simp;omega
 ·obtain⟨_,h2⟩:=eL args 0 s v hs;have hl:=(aJK.1 h2).1;simp only[aML]at h2 hl;show(args.toArray++_)[s]?= some v;rw[aLX Yam];simpa using h2
 ·simp only[aJR]at h1;subst h1;exact Le.refl _
 ·rintro e w' ⟨v,D',μ',rfl,hs,hp⟩;exact⟨v,D',μ',rfl,hs,hp⟩
theorem fP.afterO{h0:H0}{lo:Nat}{D0 D D':aA}{mods:List Nat}{μ ν:aC}{w w':World}(h:fP h0 lo D0 mods μ D w)(hs:fP (hd w) w.heap.size D [] ν D' w'):fP h0 lo D0 mods (ν++μ) D' w':=by
 have h1:=h.after (hs.sub (μ':=[]) (fun p hp=>by cases hp) aLI);have hge:∀p∈ν,w.heap.size≤p.1:=fun p hp=>(hs.box p hp).2.2.resolve_right Ye
 refine⟨h1.hlo,h1.size,h1.old,h1.dold,h1.agr,fun p hp=>?_,?_,(fun p hp=>by rcases aJO.1 hp with hp|hp;exact hs.fz p hp;exact h.fz p hp),h1.env⟩
 ·rcases aJO.1 hp with hp|hp
  ·obtain⟨a,b,_⟩:=hs.box p hp;exact⟨a,b,aJQ (aLS h.size (hge p hp))⟩
  ·exact h1.box p hp
 ·rw[aJN,aJJ];refine⟨hs.nd,h.nd,fun a ha b hb=>?_⟩;obtain⟨p,hp,rfl⟩:=aIY.1 ha;obtain⟨q,hq,rfl⟩:=aIY.1 hb;have:=hge p hp;have:=bA (h.box q hq).1;omega
theorem eJ{c:Operand}{xs:Array Operand}{ats:Array TypeId}{f:FuncId}{c1 c2:List Value}{vs:List Value}{post:aA→Value→aC→Prop}(ho:all[ix]?= some ⟨some d,.call {callee:=.value c,args:=xs,argTypes:=ats},ty,pos,aft,g⟩)(hc:ev σ c=some (.func (.func f) c1.toArray c2.toArray))(hxs:C0 σ xs.toList=some vs)
  (hf:∀D,(∀D₁∈Ds,Le D₁ D)→CN P f (c1++vs++c2).toArray D post) (hN:Nat.blt d X.N=true) (hg:cT all σ g)
  (kk:∀v D ν,(∀D₁∈Ds,Le D₁ D)→post D v ν→WL P X bad all K Q os ((d,v)::σ) (ν++μ) (D::Ds)):
  WL P X bad all K Q ((fl,ix)::os) σ μ Ds:=by
 refine dI ho rfl rfl hg fun a w hh=>?_
 obtain⟨h1,h2,h3,D,h4,h5,h6⟩:=id hh;have hF:=hf D h5;rw[nO hF.1 (hh.eval hc) (gU (fun _ _ hx=>hh.eval hx) hxs)];refine⟨fun h=>by simp[FW]at h,cS.2 ((hF.2 w h4.agr).mono ?_)⟩;rintro e w' ⟨v,D',ν,rfl,hs,hpost⟩;have hle:=eG h4.agr hs;refine⟨fun _=>hs.keep bad,kk v D' ν (fun D₁ hD₁=>(h5 D₁ hD₁).trans hle) hpost _ _ ?_⟩;refine Hl.put ⟨h1,h2,h3,D',h4.afterO hs,fun D₁ hD₁=>?_,h6.step (fun _ p hp=>?_) (fun _=>hs.low _) (h4.afterO hs).dom⟩ hN v
 ·rcases aIW.1 hD₁ with rfl|hD₁
  ·exact Le.refl _
  ·exact(h5 D₁ hD₁).trans hle
 ·rcases aJO.1 hp with hp|hp
  ·exact aJE ((hs.box p hp).2.2.resolve_right Ye)
  ·exact aJQ (aIY.2 ⟨p,hp,rfl⟩)
theorem fD{t e:TypeId}{sz b o n cap:Nat}{k:IntKind}{i:Int}(ho:all[ix]?= some ⟨some d,.indexAddr t x y,ty,pos,aft,g⟩)(ht:P.underlying t=some (.slice e))(hs:TS P e sz)(hx:ev σ x=some (.slice (some ⟨b,o,none⟩) n cap))
  (hy:ev σ y=some (.int k i)) (h0:0≤i) (hi:i<n) (hN:Nat.blt d X.N=true) (hg:cT all σ g)
  (kk:WL P X bad all K Q os ((d,.pointer (some ⟨b,o+i.toNat*sz,none⟩))::σ) μ Ds):WL P X bad all K Q ((fl,ix)::os) σ μ Ds:=
 bG ho rfl rfl hN hg (fun ρ hρ w'=>by
  simp only[execOp,hρ x _ hx,hρ y _ hy];unfold Instr.indexAt asIntOf;simp only[Sem.run_bind,TU.of ht w',Result.andThen_ok,hs w',Sem.run_pure,pure_bind,h0,hi,aNM,aLH,dW]) kk
theorem bL.some{e:TypeId}{sz n:Nat}{cells:List Value}{ν:aC}(h:bL e sz v n cells ν)(hn:0<n):∃b cap junk,v=.slice (some ⟨b,0,none⟩) n cap∧n≤cap∧ν=[(b,.cells (cells++junk).toArray e (0,0))]∧cells.length=n*sz∧(cells++junk).length=cap*sz:=by
 rcases h with⟨_,_,h0,_⟩|h
 ·omega
 ·exact h
end Go.Fs
namespace Go.Fs
namespace C2
open C1 (fR cG pB nQ)
structure Mk where
 frm:Int
 to:Int
 lo:Int
 hi:Int
deriving DecidableEq
structure aZ where
 last:Int
 heights:List (Int×Int)
 step:Int
 levels:List Int
 marks:List Mk
def eH(n:Int):Bool:=fR n 0 99
def gH(r:Int×Int):Bool:=decide (r.1≤r.2)&&eH r.1&&eH r.2
def eX(r:Int×Int):Int:=r.2-r.1+1
def W0(last n:Int):Bool:=fR n 0 last
def nU(last a b:Int):Bool:=W0 last a&&W0 last b&&decide (a≤b)
def pO(last:Int)(m:Mk):Bool:=nU last m.frm m.to&&gH (m.lo,m.hi)
def mF(hs:List (Int×Int)):Int:=hs.foldl (fun(m:Int) r=>min (m*eX r) 2001) 1
def jZ(step:Int)(p:Option Int)(n:Int):Bool:=match p with
 |none=>true
 |some q=>fR (n-q) (-step) step
def gI(step:Int):List (Int×Int)→Option Int→List (List Int)
 | [],_=>[[]]
 |r::rs,p=>(List.range (eX r).toNat).flatMap fun(k:Nat)=>if jZ step p (r.1+k)=true then(gI step rs (some (r.1+k))).map (fun l=>(r.1+(k:Int))::l)else []
def fG(t:aZ):List (List Int):=gI t.step t.heights none
def aBP(t:aZ):Bool:=decide (t.last>9)||decide ((t.levels.length:Int)>6)||decide ((t.marks.length:Int)>5)
def aGT(t:aZ):Bool:=decide (0≤t.last)&&decide ((t.heights.length:Int)=t.last+1)&&t.heights.all gH&&eH t.step&&t.levels.all eH&&t.marks.all (pO t.last)
def aT(t:aZ):Int:=if aBP t=true then 3 else if aGT t=false then 1 else if 2000<mF t.heights then 3 else if fG t=[]then 9 else 0
def jH(s:List Int)(a b:Int):Int:=nQ ((s.drop a.toNat).take (b+1-a).toNat)
def lI(t:aZ)(s:List Int):Bool:=t.marks.all fun m=>fR (jH s m.frm m.to) m.lo m.hi
def zG(t:aZ)(acc:List (List Int))(s:List Int):List (List Int):=if lI t s=false∨acc.getLast?= some s then acc else acc++[s]
def bH(t:aZ):List (List Int):=(fG t).foldl (zG t) []
def kK(t:aZ)(fine:Bool):Int:=if aT t≠0 then aT t else if fine=false then 2 else if bH t=[]then 11 else 0
def aHZ(s:List Int)(i:Nat):Int:=s.getD i 0
def qT(t:aZ)(i:Nat):Int×Int:=(pB ((bH t).map (aHZ · i)),nQ ((bH t).map (aHZ · i)))
def rQ(s:List Int)(level:Int):Int:=((s.takeWhile fun n=>decide (n≤level)).length:Int)
def XY(t:aZ)(level:Int):Int×Int:=(pB ((bH t).map (rQ · level)),nQ ((bH t).map (rQ · level)))
def aHS(t:aZ)(a b:Int):Int:=nQ ((bH t).map (jH · a b))
def cO(l:List Int):List Int:=l++List.replicate (10-l.length) 0
theorem eI{l:List Int}(h:l.length≤10):(cO l).length=10:=by simp[cO];omega
theorem FB{c l:List Int}(h2:c.take l.length=l)(h3:c.drop l.length=List.replicate (10-l.length) 0):cO l=c:=by
 unfold cO;rw[←h3]
 conv=>rhs;rw[←aLD l.length c,h2]
def DV(step:Int)(rs:List (Int×Int))(pre:List Int)(r:Int×Int)(k:Nat):List (List Int):=(List.range k).flatMap fun(m:Nat)=>if jZ step pre.getLast? (r.1+m)=true then(gI step rs (some (r.1+m))).map (fun t=>cO (pre++(r.1+(m:Int))::t))else []
theorem YM{step:Int}{rs:List (Int×Int)}{pre:List Int}{r:Int×Int}:DV step rs pre r 0=[]:=rfl
theorem aEM{step:Int}{rs:List (Int×Int)}{pre:List Int}{r:Int×Int}{k:Nat}(h:jZ step pre.getLast? (r.1+k)=false):DV step rs pre r (k+1)=DV step rs pre r k:=by
 unfold DV;rw[aLG,aKE,aKV,aJM (by simp[h]),aJF]
theorem JY{step:Int}{rs:List (Int×Int)}{pre:List Int}{r:Int×Int}{k:Nat}(h:jZ step pre.getLast? (r.1+k)=true):DV step rs pre r (k+1)=DV step rs pre r k++(gI step rs ((pre++[r.1+(k:Int)]).getLast?)).map (fun t=>cO ((pre++[r.1+(k:Int)])++t)):=by
 unfold DV;rw[aLG,aKE,aKV,aJT h,List.getLast?_concat];simp
theorem KC{step:Int}{rs:List (Int×Int)}{pre:List Int}{r:Int×Int}:DV step rs pre r (eX r).toNat=(gI step (r::rs) pre.getLast?).map (fun t=>cO (pre++t)):=by
 unfold DV;simp only[gI];rw[List.map_flatMap]
 congr 1;funext m
 split<;>simp
theorem VW{step:Int}{rs:List (Int×Int)}{pre:List Int}{r:Int×Int}{k n:Nat}(hk:k<n):∃rr,DV step rs pre r n=DV step rs pre r (k+1)++rr:=by
 refine⟨((List.range n).drop (k+1)).flatMap fun(m:Nat)=>if jZ step pre.getLast? (r.1+m)=true then(gI step rs (some (r.1+m))).map (fun t=>cO (pre++(r.1+(m:Int))::t))else [],?_⟩;unfold DV;rw[←aKE];congr 1;have h:=aLD (k+1) (List.range n);rw[List.take_range,aNH Yd]at h;exact h.symm
theorem M7{step:Int}:∀(rs:List (Int×Int)) (p:Option Int) (t:List Int),t∈gI step rs p→t.length=rs.length
 | [],p,t,h=>by simp[gI]at h;subst h;rfl
 |r::rs,p,t,h=>by
  simp only[gI,aOG,aMJ]at h;obtain⟨m,hm,h⟩:=h;split at h
  ·obtain⟨u,hu,rfl⟩:=aIY.1 h;rw[aJD,M7 rs _ u hu,aJD]
  ·cases h
theorem k9{step:Int}:∀(rs:List (Int×Int)) (p:Option Int) (t:List Int),(∀r∈rs,gH r=true)→t∈gI step rs p→∀x∈t,0≤x∧x≤99
 | [],p,t,_,h=>by simp[gI]at h;subst h;intro x hx;cases hx
 |r::rs,p,t,hr,h=>by
  simp only[gI,aOG,aMJ]at h;obtain⟨m,hm,h⟩:=h;split at h
  ·obtain⟨u,hu,rfl⟩:=aIY.1 h;intro x hx;rcases aIW.1 hx with rfl|hx
   ·have h1:=hr r aJH;unfold gH eH at h1;simp only[aJI,aJV,cG]at h1;unfold eX at hm;omega
   ·exact k9 rs _ u (fun q hq=>hr q (aJB _ hq)) hu x hx
  ·cases h
structure x9(t:aZ):Prop where
 last:0≤t.last∧t.last≤9
 len:(t.heights.length:Int)=t.last+1
 step:0≤t.step∧t.step≤99
 hts:∀r∈t.heights,gH r=true
 lev:t.levels.length≤6
 levs:∀n∈t.levels,0≤n∧n≤99
 mks:t.marks.length≤5
 mark:∀m∈t.marks,pO t.last m=true
theorem aIV{t:aZ}(h1:aBP t=false)(h2:aGT t=true):x9 t:=by
 unfold aBP at h1;unfold aGT eH at h2;simp only[aMK,aLY]at h1;simp only[aJI,aJV,aJW,cG]at h2;obtain⟨⟨⟨⟨⟨h3,h4⟩,h5⟩,h6⟩,h7⟩,h8⟩:=h2;exact⟨by omega,h4,h6,h5,by omega,h7,by omega,h8⟩
theorem W5{t:aZ}(h:aT t=0):x9 t:=by
 unfold aT at h;split at h
 ·omega
 ·rename_i h1;split at h
  ·omega
  ·rename_i h2;exact aIV (by simpa using h1) (by simpa using h2)
theorem x9.len10{t:aZ}(h:x9 t):t.heights.length≤10:=by have:=h.len;have:=h.last;omega

theorem XW{s:List Int}{a k:Nat}(h:a+k≤s.length):((cO s).drop a).take k=(s.drop a).take k:=by
 unfold cO;rw[List.drop_append_of_le_length Yd,aKM Yaf]
theorem tO{s:List Int}{a b:Int}(h0:0≤a)(h1:a≤b)(h2:b<s.length):jH (cO s) a b=jH s a b:=by
 unfold jH;rw[XW Yd]
theorem LZ{last:Int}{m:Mk}(h:pO last m=true):0≤m.frm∧m.frm≤m.to∧m.to≤last∧0≤m.lo∧m.lo≤m.hi∧m.hi≤99:=by
 unfold pO nU W0 gH eH at h;simp only[aJI,aJV,cG]at h;omega
theorem OB{t:aZ}(ht:x9 t){s:List Int}(hs:(s.length:Int)=t.last+1):lI t (cO s)=lI t s:=by
 unfold lI;rw[aMN,aJW,aJW];constructor<;>intro h m hm<;>have h1:=LZ (ht.mark m hm)<;>have h2:=h m hm
 ·rwa [tO Yd Yd Yd]at h2
 ·rwa [tO Yd Yd Yd]
theorem EC{l:List (List Int)}{pre us:List (List Int)}{x:List Int}(h:l.map cO=pre++x::us):∃s,l[pre.length]?= some s∧x=cO s∧s∈l∧l.take (pre.length+1)=l.take pre.length++[s]:=by
 have h1:(l.map cO)[pre.length]?= some x:=by rw[h];simp
 rw[aKA]at h1;obtain⟨s,hs,hx⟩:=aMB.1 h1;exact⟨s,hs,hx.symm,aJA hs,by rw[aJP,hs];rfl⟩
def iA(t:aZ)(k:Nat):List (List Int):=((fG t).take k).foldl (zG t) []
theorem xW(t:aZ){k:Nat}(h:(fG t).length≤k):iA t k=bH t:=by unfold iA bH;rw[aKC h]
theorem X0{t:aZ}{k:Nat}{s:List Int}(h:(fG t).take (k+1)=(fG t).take k++[s]):iA t (k+1)=zG t (iA t k) s:=by
 unfold iA;rw[h,aLE];rfl
theorem SA{t:aZ}{acc:List (List Int)}{s:List Int}:∀u∈zG t acc s,u∈acc∨u=s:=by
 intro u hu;unfold zG at hu
 split at hu
 ·exact aJQ hu
 ·simpa using hu
theorem e6{t:aZ}:∀(l acc:List (List Int)),∀u∈l.foldl (zG t) acc,u∈acc∨u∈l
 | [],acc,u,h=>aJQ h
 |s::l,acc,u,h=>by
  rcases e6 l (zG t acc s) u h with h|h
  ·rcases SA u h with h|rfl
   ·exact aJQ h
   ·exact aJE aJH
  ·exact aJE (aJB _ h)
theorem Z3{t:aZ}:∀(l acc:List (List Int)),(l.foldl (zG t) acc).length≤acc.length+l.length
 | [],acc=>by simp
 |s::l,acc=>by
  have h1:=Z3 (t:=t) l (zG t acc s);have h2:(zG t acc s).length≤acc.length+1:=by
   unfold zG;split
   ·omega
   ·simp
  rw[aLK,aJD];omega
theorem wY{t:aZ}{k:Nat}{u:List Int}(h:u∈iA t k):u∈fG t:=by
 rcases e6 _ _ u h with h|h
 ·cases h
 ·exact aNO h
theorem CS(t:aZ)(k:Nat):(iA t k).length≤(fG t).length:=by
 have h1:=Z3 (t:=t) ((fG t).take k) [];have h2:=aNV k (fG t);rw[aKL]at h1;unfold iA;simp only[aKZ]at h1;omega
def oV:List (Int×Int)→Int
 | []=>1
 |r::l=>eX r*oV l
theorem X6:∀(l:List (Int×Int)) (m:Int),(∀r∈l,gH r=true)→0≤m→l.foldl (fun(m:Int) r=>min (m*eX r) 2001) m≤2000→m*oV l≤2000∧1≤oV l
 | [],m,_,_,h=>by simpa [oV]using h
 |r::l,m,hr,hm,h=>by
  have h1:1≤eX r:=by
   have h1:=hr r aJH;unfold gH eH at h1;simp only[aJI,aJV,cG]at h1;unfold eX;omega
  have h2:0≤m*eX r:=Int.mul_nonneg hm Yd;rw[aLK]at h;obtain⟨h3,h4⟩:=X6 l (min (m*eX r) 2001) (fun q hq=>hr q (aJB _ hq)) Yd h;have h5:1≤eX r*oV l:=by
   have:=Int.mul_le_mul h1 h4 Yd Yd;omega
  refine⟨?_,h5⟩;show m*(eX r*oV l)≤2000;rw[←Int.mul_assoc];by_cases hc:m*eX r≤2001
  ·rwa [Int.min_eq_left hc]at h3
  ·rw[Int.min_eq_right Yd]at h3;omega
theorem iZ{α β:Type}{f:α→List β}{n:Nat}:∀(l:List α),(∀x∈l,(f x).length≤n)→(l.flatMap f).length≤l.length*n
 | [],_=>by simp
 |x::l,h=>by
  have h1:=iZ l fun y hy=>h y (aJB _ hy)
  have h2:=h x aJH;rw[aKR,aIX,aJD,aLW];omega
theorem rM{step:Int}:∀(rs:List (Int×Int)) (p:Option Int),(∀r∈rs,gH r=true)→1≤oV rs∧((gI step rs p).length:Int)≤oV rs
 | [],p,_=>by simp[gI,oV]
 |r::rs,p,hr=>by
  have h1:1≤eX r:=by
   have h1:=hr r aJH;unfold gH eH at h1;simp only[aJI,aJV,cG]at h1;unfold eX;omega
  have h2:=rM (step:=step) rs none fun q hq=>hr q (aJB _ hq)
  have h3:(gI step (r::rs) p).length≤(List.range (eX r).toNat).length*(oV rs).toNat:=by
   simp only[gI];refine iZ _ fun k _=>?_
   split
   ·rw[aLA];have:=(rM (step:=step) rs (some (r.1+(k:Int))) fun q hq=>hr q (aJB _ hq)).2;omega
   ·exact aMX _
  rw[List.length_range]at h3;have h4:(((eX r).toNat*(oV rs).toNat:Nat):Int)=eX r*oV rs:=by
   rw[Int.natCast_mul,Int.toNat_of_nonneg Yd,Int.toNat_of_nonneg Yd]
  have h5:=Int.mul_le_mul h1 h2.1 Yd Yd;refine⟨?_,?_⟩
  ·show 1≤eX r*oV rs;omega
  ·show _≤eX r*oV rs;rw[←h4];exact Int.ofNat_le.2 h3
theorem CQ{t:aZ}(h:aT t=0):mF t.heights≤2000:=by
 unfold aT at h;split at h
 ·omega
 ·split at h
  ·omega
  ·split at h
   ·omega
   ·omega
theorem B1{t:aZ}(h:aT t=0):(fG t).length≤2000:=by
 have h1:=W5 h;have h2:=(rM (step:=t.step) t.heights none h1.hts).2;have h3:=(X6 t.heights 1 h1.hts Yd (CQ h)).1;show(gI t.step t.heights none).length≤2000;omega
theorem lN{t:aZ}{s:List Int}(h:s∈fG t):s.length=t.heights.length:=M7 _ _ _ h
def vA(l:List (List Int))(last:Int)(S:List (Int×Int)):Prop:=∀p,p∈S ↔∃s∈l,∃j:Nat,(j:Int)≤last∧p=((j:Int),s.getD j 0)
theorem vA.nil{last:Int}:vA [] last []:=fun p=>by simp
end C2
open C1 C2
def CG:Rd Mk:=fun _ m cs=>cs=[.int .i64 m.frm,.int .i64 m.to,.int .i64 m.lo,.int .i64 m.hi]
theorem CG.up:CG.Up:=fun _ _ _ h=>h
def E0:Rd (Int×Int):=fun _ p cs=>cs=[.int .i64 p.1,.int .i64 p.2]
theorem E0.up:E0.Up:=fun _ _ _ h=>h
def aGR(m:Mk):Value:=.agg #[.int .i64 m.frm,.int .i64 m.to,.int .i64 m.lo,.int .i64 m.hi]
def gT(D:aA)(v:Value)(t:aZ):Prop:=∃hv lv mv,v=.agg #[.int .i64 t.last,hv,.int .i64 t.step,lv,mv]∧Sl D E0 2 hv t.heights∧Sl D RI 1 lv t.levels∧Sl D CG 4 mv t.marks
def S8:Rd (List Int):=fun _ l cs=>cs=ints (cO l)
theorem S8.up:S8.Up:=fun _ _ _ h=>h
def wC(l:List (List Int)):List Value:=l.flatMap fun s=>ints (cO s)
theorem AR{l:List (List Int)}(h:∀s∈l,s.length≤10):(wC l).length=l.length*10:=by
 induction l with
 |nil=>rfl
 |cons c l ih=>
  have:=ih fun s hs=>h s (aJB _ hs)
  unfold wC at this ⊢
  rw[aKR,aIX,this,aH,eI (h c aJH),aJD];omega
theorem BW{l:List (List Int)}(h:∀s∈l,s.length≤10){i:Nat}{s:List Int}(hi:l[i]?= some s)(junk:List Value):((wC l++junk).drop (i*10)).take 10=ints (cO s):=by
 induction l generalizing i with
 |nil=>simp at hi
 |cons d l ih=>
  have h9:(ints (cO d)).length=10:=by rw[aH,eI (h d aJH)]
  have hc:wC (d::l)=ints (cO d)++wC l:=rfl;rw[hc,aJL];cases i with
  |zero=>
   obtain rfl:d=s:=by simpa using hi
   rw[aNF,aMS,aKM Yd,aKC Yd]
  |succ i=>
   rw[show(i+1)*10=(ints (cO d)).length+i*10 by omega,aNI];exact ih (fun s hs=>h s (aJB _ hs)) Yaj
theorem jN.seas{D:aA}{v:Value}{n:Nat}{l:List (List Int)}(hF:jN D v n (wC l))(hn:l.length=n)(hb:n≤9223372036854775807)(h:∀t∈l,t.length≤10):Sl D S8 10 v l:=
 hF.sl hn hb fun i t hi=>⟨Fs.ints (cO t),rfl,by rw[Fs.aH,eI (h t (aJA hi))],by have:=BW h hi [];rwa [aJF]at this⟩
theorem gT.up{D D':aA}{v:Value}{t:aZ}(h:gT D v t)(hl:Le D D'):gT D' v t:=by
 obtain⟨hv,lv,mv,e,h1,h2,h3⟩:=h;exact⟨hv,lv,mv,e,h1.up E0.up hl,h2.up RI.up hl,h3.up CG.up hl⟩
end Go.Fs
namespace Go.Fs
namespace C3
open C1 (fR cG)
structure fH where
 kind:Int
 chair:Int
 token:Int
deriving DecidableEq
structure Cn where
 after:Int
 lo:Int
 hi:Int
deriving DecidableEq
structure aX where
 chairs:Int
 coin:Int
 box:Int
 lines:List fH
 counts:List Cn
def rC(n:Int)(l:fH):Bool:=fR l.kind 0 2&&fR l.chair (-1) (n-1)&&fR l.token (-1) (n-1)
def mO(len:Int)(c:Cn):Bool:=fR c.after 0 len&&decide (0≤c.lo)&&decide (c.lo≤c.hi)&&decide (c.hi≤2000)
def dV(sign none lo hi:Int):List Int:=if sign≠none then [sign]else(List.range (hi+1-lo).toNat).map fun i:Nat=>lo+(i:Int)
def cR(n:Int)(l:fH):List fH:=(dV l.kind 0 1 2).flatMap fun k=>(dV l.chair (-1) 0 (n-1)).flatMap fun c=>(dV l.token (-1) 0 (n-1)).map fun t=>⟨k,c,t⟩
def vB(n:Int)(ls:List fH):Int:=ls.foldl (fun m l=>min (m*(cR n l).length) 4097) 1
def pI(b:aX):Bool:=fR b.chairs 1 4&&fR b.coin 1 99&&fR b.box 0 999&&b.lines.all (rC b.chairs)&&b.counts.all (mO b.lines.length)
def aT(b:aX):Int:=if 8<b.lines.length∨4<b.counts.length then 3 else if pI b=false then 1 else if 4096<vB b.chairs b.lines then 3 else 0
structure Sc where
 ch:List Int
 tk:List Int
 money:Int
 mixed:Int
deriving DecidableEq
def lL(s:Sc):List Int:=s.ch++s.tk++[s.money,s.mixed]
def jS(l:List Int)(i:Int):Int:=l.getD i.toNat 0
def iI(s:Sc)(l:fH):Bool:=(decide (jS s.ch l.chair≠0)==decide (l.kind=2))&&(decide (jS s.tk l.token≠0)==decide (l.kind=2))
def dQ(b:aX)(s:Sc)(i:Int)(l:fH):Sc:=
 if l.kind=2 then⟨s.ch.set l.chair.toNat 0,s.tk.set l.token.toNat 0,s.money-b.coin,if jS s.ch l.chair≠jS s.tk l.token then s.mixed+1 else s.mixed⟩
 else⟨s.ch.set l.chair.toNat (i+1),s.tk.set l.token.toNat (i+1),s.money+b.coin,s.mixed⟩
def eT(b:aX)(s:Sc)(after:Int):Bool:=b.counts.all fun c=>decide (c.after≠after)||fR s.money c.lo c.hi
def eF(b:aX):Sc:=⟨[0,0,0,0],[0,0,0,0],b.box,0⟩
def sL(b:aX):List fH→Nat→Sc→List (List fH×List Sc)
 | [],i,s=>if eT b s i=true then [([],[s])]else []
 |l::ls,i,s=>if eT b s i=true then(cR b.chairs l).flatMap fun r=>if iI s r=true then(sL b ls (i+1) (dQ b s i r)).map fun x=>(r::x.1,s::x.2)else []else []
def truths(b:aX):List (List fH×List Sc):=sL b b.lines 0 (eF b)
def sH(b:aX)(fine:Bool):Int:=if aT b≠0 then aT b else if fine=false then 2 else if truths b=[]then 11 else 0
def aEP(ss:List Sc)(k:Nat):Sc:=ss.getD k ⟨[],[],0,0⟩
end C3
open C1 C3
def oL:Rd fH:=fun _ l cs=>cs=[.int .i64 l.kind,.int .i64 l.chair,.int .i64 l.token]
theorem oL.up:oL.Up:=fun _ _ _ h=>h
def qQ:Rd Cn:=fun _ c cs=>cs=[.int .i64 c.after,.int .i64 c.lo,.int .i64 c.hi]
theorem qQ.up:qQ.Up:=fun _ _ _ h=>h
def AD(l:fH):Value:=.agg #[.int .i64 l.kind,.int .i64 l.chair,.int .i64 l.token]
def aFB(c:Cn):Value:=.agg #[.int .i64 c.after,.int .i64 c.lo,.int .i64 c.hi]
def fW(D:aA)(v:Value)(b:aX):Prop:=∃lv cv,v=.agg #[.int .i64 b.chairs,.int .i64 b.coin,.int .i64 b.box,lv,cv]∧Sl D oL 3 lv b.lines∧Sl D qQ 3 cv b.counts
theorem fW.up{D D':aA}{v:Value}{b:aX}(h:fW D v b)(hl:Le D D'):fW D' v b:=by
 obtain⟨lv,cv,e,h1,h2⟩:=h;exact⟨lv,cv,e,h1.up oL.up hl,h2.up qQ.up hl⟩
def FQ(s:Sc):Value:=.agg (ints (lL s)).toArray
def DW:Rd Sc:=fun _ s cs=>cs=ints (lL s)
theorem DW.up:DW.Up:=fun _ _ _ h=>h
end Go.Fs
namespace Go.Fs.C3
open C1 (fR cG)

theorem NW{sign none lo hi x:Int}:x∈dV sign none lo hi ↔ (sign≠none∧x=sign)∨(sign=none∧lo≤x∧x≤hi):=by
 unfold dV;by_cases h:sign=none
 ·rw[aJM Yai,aIY];constructor
  ·rintro⟨i,hi',rfl⟩;have:=aMJ.1 hi';exact aJE ⟨h,by omega,by omega⟩
  ·rintro(⟨h1,_⟩|⟨_,h1,h2⟩)
   ·exact absurd h h1
   ·exact⟨(x-lo).toNat,aMJ.2 Yd,by omega⟩
 ·rw[aJT h];simp[h]
def JF(l x:fH):Bool:=(decide (l.kind=0)||decide (l.kind=x.kind))&&(decide (l.chair<0)||decide (l.chair=x.chair))&&(decide (l.token<0)||decide (l.token=x.token))
def aDI(n:Int)(x:fH):Prop:=(x.kind=1∨x.kind=2)∧0≤x.chair∧x.chair<n∧0≤x.token∧x.token<n
theorem xS{n:Int}{l x:fH}(hl:rC n l=true):x∈cR n l ↔ aDI n x∧JF l x=true:=by
 unfold rC at hl;simp only[aJI,cG]at hl;unfold cR aDI JF;simp only[aOG,aIY,NW,aJI,aKS,aJV];constructor
 ·rintro⟨k,hk,c,hc,t,ht,rfl⟩;simp only;omega
 ·rintro⟨⟨h1,h2,h3,h4,h5⟩,⟨h6,h7⟩,h8⟩;refine⟨x.kind,by omega,x.chair,by omega,x.token,by omega,rfl⟩
structure DJ(b:aX)(s:Sc):Prop where
 lc:s.ch.length=4
 lt:s.tk.length=4
 pc:∀x∈s.ch,0≤x∧x≤8
 pt:∀x∈s.tk,0≤x∧x≤8
def x6(l:List Int):Int:=((l.filter fun x=>decide (x≠0)).length:Int)
end Go.Fs.C3
namespace Go.Fs.C3
open C1 (fR cG)
def jB(b:aX):List fH→Nat→Sc→Bool
 | [],i,s=>eT b s i
 |l::ls,i,s=>eT b s i&&(cR b.chairs l).any fun r=>iI s r&&jB b ls (i+1) (dQ b s i r)
theorem FS{α β:Type}{l:List α}{f:α→List β}:l.flatMap f≠[] ↔∃x∈l,f x≠[]:=by
 rw[Ne,List.flatMap_eq_nil_iff];simp
theorem AX(b:aX):∀(ls:List fH) (i:Nat) (s:Sc),jB b ls i s=true ↔ sL b ls i s≠[]
 | [],i,s=>by
  unfold jB sL;cases eT b s i<;>simp
 |l::ls,i,s=>by
  unfold jB sL;cases eT b s i with
  |false=>simp
  |true=>
   rw[aNA,aOH,aJT rfl,FS];refine exists_congr fun r=>and_congr_right fun _=>?_
   rw[aJI,AX b ls];cases iI s r<;>simp
theorem sG(b:aX):jB b b.lines 0 (eF b)=decide (truths b≠[]):=by
 rw[aMN,AX,aJV];rfl

def rX(l:List Int):List Int:=l.map fun x=>min x 1
theorem CD(l:List Int):(rX l).length=l.length:=aLA _
theorem xY(l:List Int)(k:Nat)(x:Int):rX (l.set k x)=(rX l).set k (min x 1):=List.map_set
theorem tX{l:List Int}(h:∀x∈l,0≤x)(c:Int):(jS l c≠0) ↔ jS (rX l) c≠0:=by
 unfold jS rX;rw[aKX,aKX,aKA];cases e:l[c.toNat]? with
 |none=>simp
 |some x=>
  have:=h x (aJA e);simp only[aKJ,aMO];omega
structure aID(s s':Sc):Prop where
 ch:rX s.ch=rX s'.ch
 tk:rX s.tk=rX s'.tk
 money:s.money=s'.money
structure QP(s:Sc):Prop where
 ch:∀x∈s.ch,0≤x
 tk:∀x∈s.tk,0≤x
theorem ZK{s s':Sc}(h:aID s s')(hp:QP s)(hp':QP s')(l:fH):iI s l=iI s' l:=by
 unfold iI;have e1:decide (jS s.ch l.chair≠0)=decide (jS s'.ch l.chair≠0):=decide_eq_decide.2 (by rw[tX hp.ch,tX hp'.ch,h.ch]);have e2:decide (jS s.tk l.token≠0)=decide (jS s'.tk l.token≠0):=decide_eq_decide.2 (by rw[tX hp.tk,tX hp'.tk,h.tk]);rw[e1,e2]
theorem ZA{b:aX}{s s':Sc}(h:aID s s')(i:Nat)(l:fH):aID (dQ b s i l) (dQ b s' i l):=by
 unfold dQ;split
 ·exact⟨by simp only[xY,h.ch],by simp only[xY,h.tk],by simp only[h.money]⟩
 ·exact⟨by simp only[xY,h.ch],by simp only[xY,h.tk],by simp only[h.money]⟩
theorem G8{l:List Int}(h:∀x∈l,0≤x)(k:Nat){y:Int}(hy:0≤y):∀x∈l.set k y,0≤x:=fun x hx=>by
 rcases List.mem_or_eq_of_mem_set hx with hx|rfl
 ·exact h x hx
 ·exact hy
theorem N5{b:aX}{s:Sc}(h:QP s)(i:Nat)(l:fH):QP (dQ b s i l):=by
 unfold dQ;split
 ·exact⟨G8 h.ch _ Yd,G8 h.tk _ Yd⟩
 ·exact⟨G8 h.ch _ Yd,G8 h.tk _ Yd⟩
theorem DE(b:aX):∀(ls:List fH) (i:Nat) (s s':Sc),aID s s'→QP s→QP s'→jB b ls i s=jB b ls i s'
 | [],i,s,s',h,_,_=>by unfold jB eT;rw[h.money]
 |l::ls,i,s,s',h,hp,hp'=>by
  unfold jB;have e:eT b s i=eT b s' i:=by unfold eT;rw[h.money]
  rw[e];congr 1;refine aJS _ (funext fun r=>?_);rw[ZK h hp hp',DE b ls (i+1) _ _ (ZA h i r) (N5 hp i r) (N5 hp' i r)]

theorem DT{l:List Int}{k:Nat}(hk:k<l.length)(y:Int):x6 (l.set k y)=x6 l-(if l.getD k 0≠0 then 1 else 0)+(if y≠0 then 1 else 0):=by
 induction l generalizing k with
 |nil=>simp at hk
 |cons x l ih=>
  cases k with
  |zero=>
   unfold x6;simp only[List.set_cons_zero,aMQ,List.getD_cons_zero,aJV];split<;>split<;>simp<;>omega
  |succ k=>
   have:=ih (k:=k) (by simpa using hk);unfold x6 at this ⊢
   simp only[List.set_cons_succ,aMQ,aNX];split
   ·simp only[aJD];push_cast;omega
   ·exact this
def G9(b:aX)(s:Sc):Prop:=s.money=b.box+b.coin*x6 s.ch
theorem QA{l m:List Int}(h:rX l=rX m)(hl:∀x∈l,0≤x)(hm:∀x∈m,0≤x):x6 l=x6 m:=by
 induction l generalizing m with
 |nil=>
  cases m with
  |nil=>rfl
  |cons y m=>simp[rX]at h
 |cons x l ih=>
  cases m with
  |nil=>simp[rX]at h
  |cons y m=>
   simp only[rX,aJY,aLN]at h;have:=ih h.2 (fun x hx=>hl x (aJB _ hx)) fun x hx=>hm x (aJB _ hx)
   have h1:=hl x aJH;have h2:=hm y aJH;unfold x6 at this ⊢
   simp only[aMQ,aJV];have e:x≠0 ↔ y≠0:=by have:=h.1;omega
   by_cases hx:x≠0
   ·rw[aJT hx,aJT (e.1 hx)];simp only[aJD];push_cast;omega
   ·rw[aJM hx,aJM fun hy=>hx (e.2 hy)];exact this
theorem WF{b:aX}{s:Sc}(h:G9 b s)(h4:s.ch.length=4){i:Nat}{l:fH}(hc:iI s l=true)(h0:0≤l.chair)(h1:l.chair<4):G9 b (dQ b s i l):=by
 unfold iI at hc;simp only[aJI,aNR,decide_eq_decide]at hc;have hk:l.chair.toNat<s.ch.length:=by omega
 unfold G9 at h ⊢
 unfold dQ;have hg:s.ch.getD l.chair.toNat 0=jS s.ch l.chair:=rfl;by_cases e:l.kind=2
 ·rw[aJT e];simp only;rw[DT hk,hg,aJT (hc.1.2 e),aJM Yd,h,Int.mul_add,Int.mul_sub];omega
 ·rw[aJM e];simp only;rw[DT hk,hg,aJM fun hh=>e (hc.1.1 hh),aJT Yd,h,Int.mul_add,Int.mul_sub];omega
theorem zA(b:aX):G9 b (eF b):=by unfold G9 eF x6;simp
def ST(s:Sc)(i:Nat):List Int:=(i:Int)::(rX s.ch++rX s.tk)
theorem UA{b:aX}{ls:List fH}{i i':Nat}{s s':Sc}(e:ST s i=ST s' i')(h:G9 b s)(h':G9 b s')(hp:QP s)(hp':QP s')(h4:s.ch.length=4)(h4':s'.ch.length=4):i=i'∧jB b ls i s=jB b ls i' s':=by
 unfold ST at e;rw[aLN]at e;obtain⟨e1,e2⟩:=e;obtain⟨e3,e4⟩:=List.append_inj e2 (by rw[CD,CD];omega)
 have hi:i=i':=by omega
 subst hi;refine⟨rfl,DE b ls i s s' ⟨e3,e4,?_⟩ hp hp'⟩;unfold G9 at h h';rw[h,h',QA e3 hp.ch hp'.ch]
end Go.Fs.C3
namespace Go.Fs
variable{P:Program}{X:Cx}{γb:Type}[Membership Nat γb]{bad:γb}{all:Array Oper}{K:Act→World→Prop}{Q:Exit→Act→World→Prop}
variable{σ:bS}{μ:aC}{Ds:List aA}{os:List (Bool×Nat)}{fl:Bool}{ix:Nat}
variable{d:Nat}{x y z:Operand}{u v:Value}{ty:TypeId}{pos:String}{aft:Array Edge}{g:Option (Nat×Bool)}
variable{k':IntKind}{m n:Nat}{t t':TypeId}
def nY(m n:Nat):Nat:=m ^^^ (m&&&n)
theorem C9(m n i:Nat):(nY m n).testBit i=(m.testBit i&& !n.testBit i):=by
 unfold nY;rw[Nat.testBit_xor,Nat.testBit_and];cases m.testBit i<;>cases n.testBit i<;>rfl
theorem vT(m n:Nat):nY m n≤m:=by
 apply Nat.le_of_testBit;intro i hi;rw[C9]at hi;simp at hi;exact hi.1
theorem qG{m:Nat}(h:m<9223372036854775808):(BitVec.ofInt IntKind.i64.bits (m:Int)).toNat=m:=by
 rw[BitVec.ofInt_natCast,BitVec.toNat_ofNat];exact Nat.mod_eq_of_lt (by show m<2^64;omega)
theorem aFI{m n:Nat}(h:m<9223372036854775808):m&&&n<9223372036854775808:=Nat.lt_of_le_of_lt Nat.and_le_left h
theorem aHG{m n:Nat}(h:m<9223372036854775808)(h':n<9223372036854775808):m|||n<9223372036854775808:=Nat.or_lt_two_pow (n:=63) h h'
theorem aFY(ho:all[ix]?= some ⟨some d,.binOp .and t x y t',ty,pos,aft,g⟩)(hx:ev σ x=some (.int .i64 (m:Int)))(hy:ev σ y=some (.int .i64 (n:Int)))(hm:m<9223372036854775808)(hn:n<9223372036854775808)(hN:Nat.blt d X.N=true)(hg:cT all σ g)
  (kk:WL P X bad all K Q os ((d,.int .i64 ((m&&&n:Nat):Int))::σ) μ Ds):WL P X bad all K Q ((fl,ix)::os) σ μ Ds:=
 bG ho rfl rfl hN hg (fun ρ hρ w'=>iP Ye (by
  have e:(BitVec.ofInt IntKind.i64.bits (m:Int)&&&BitVec.ofInt IntKind.i64.bits (n:Int)).toNat=m&&&n:=by rw[BitVec.toNat_and,qG hm,qG hn]
  have h2:=aFI (n:=n) hm;have h3:qR .i64 ((m&&&n:Nat):Int):=by simp only[qR];omega
  simp only[binOp,ne_eq,not_true_eq_false,aLR,Op.intBits,e,kZ h3];rfl) (hρ x _ hx) (hρ y _ hy)) kk
theorem KD(ho:all[ix]?= some ⟨some d,.binOp .or t x y t',ty,pos,aft,g⟩)(hx:ev σ x=some (.int .i64 (m:Int)))(hy:ev σ y=some (.int .i64 (n:Int)))(hm:m<9223372036854775808)(hn:n<9223372036854775808)(hN:Nat.blt d X.N=true)(hg:cT all σ g)
  (kk:WL P X bad all K Q os ((d,.int .i64 ((m|||n:Nat):Int))::σ) μ Ds):WL P X bad all K Q ((fl,ix)::os) σ μ Ds:=
 bG ho rfl rfl hN hg (fun ρ hρ w'=>iP Ye (by
  have e:(BitVec.ofInt IntKind.i64.bits (m:Int)|||BitVec.ofInt IntKind.i64.bits (n:Int)).toNat=m|||n:=by rw[BitVec.toNat_or,qG hm,qG hn]
  have h2:=aHG hm hn;have h3:qR .i64 ((m|||n:Nat):Int):=by simp only[qR];omega
  simp only[binOp,ne_eq,not_true_eq_false,aLR,Op.intBits,e,kZ h3];rfl) (hρ x _ hx) (hρ y _ hy)) kk
theorem UJ(ho:all[ix]?= some ⟨some d,.binOp .andNot t x y t',ty,pos,aft,g⟩)(hx:ev σ x=some (.int .i64 (m:Int)))(hy:ev σ y=some (.int .i64 (n:Int)))(hm:m<9223372036854775808)(hn:n<9223372036854775808)(hN:Nat.blt d X.N=true)(hg:cT all σ g)
  (kk:WL P X bad all K Q os ((d,.int .i64 ((nY m n:Nat):Int))::σ) μ Ds):WL P X bad all K Q ((fl,ix)::os) σ μ Ds:=
 bG ho rfl rfl hN hg (fun ρ hρ w'=>iP Ye (by
  have e:(BitVec.ofInt IntKind.i64.bits (m:Int)&&& ~~~ BitVec.ofInt IntKind.i64.bits (n:Int)).toNat=nY m n:=by
   apply Nat.eq_of_testBit_eq;intro i;rw[C9,BitVec.testBit_toNat,BitVec.getLsbD_and,BitVec.getLsbD_not,←BitVec.testBit_toNat,←BitVec.testBit_toNat,qG hm,qG hn];by_cases hi:i<IntKind.i64.bits
   ·simp[hi]
   ·have:m.testBit i=false:=Nat.testBit_lt_two_pow (aLU hm (aLS (show 9223372036854775808≤2^64 by decide) (aMR Yah (show 64≤i from Nat.le_of_not_lt hi))));simp[this]
  have h2:=vT m n;have h3:qR .i64 ((nY m n:Nat):Int):=by simp only[qR];omega
  simp only[binOp,ne_eq,not_true_eq_false,aLR,Op.intBits,e,kZ h3];rfl) (hρ x _ hx) (hρ y _ hy)) kk
theorem GV{a b:Int}(ho:all[ix]?= some ⟨some d,.binOp .or t x y t',ty,pos,aft,g⟩)(hx:ev σ x=some (.int .i64 a))(hy:ev σ y=some (.int .i64 b))(ha:0≤a∧a≤1)(hb:0≤b∧b≤1)(hN:Nat.blt d X.N=true)(hg:cT all σ g)
  (kk:WL P X bad all K Q os ((d,.int .i64 (max a b))::σ) μ Ds):WL P X bad all K Q ((fl,ix)::os) σ μ Ds:=by
 have h1:a=((a.toNat:Nat):Int):=by omega
 have h2:b=((b.toNat:Nat):Int):=by omega
 have h3:max a b=((a.toNat|||b.toNat:Nat):Int):=by
  have ha':a=0∨a=1:=by omega
  have hb':b=0∨b=1:=by omega
  rcases ha' with rfl|rfl<;>rcases hb' with rfl|rfl<;>decide
 rw[h3]at kk;rw[h1]at hx;rw[h2]at hy;exact KD ho hx hy Yd Yd hN hg kk
theorem aDE{k:IntKind}{a:Int}(ho:all[ix]?= some ⟨some d,.unOp .neg t x,ty,pos,aft,g⟩)(hx:ev σ x=some (.int k a))(hr:qR k (-a))(hN:Nat.blt d X.N=true)(hg:cT all σ g)
  (kk:WL P X bad all K Q os ((d,.int k (-a))::σ) μ Ds):WL P X bad all K Q ((fl,ix)::os) σ μ Ds:=
 bG ho rfl rfl hN hg (fun ρ hρ w'=>by
  have h2:(0:Int)-a= -a:=by omega
  simp only[execOp,hρ x _ hx,Op.unary,Op.intArith,h2,kZ hr];rfl) kk
theorem xG{t e:TypeId}{n sz:Nat}{parts:Array (Nat×Operand)}{us:List (Nat×Value)}{zs cs:List Value}(ho:all[ix]?= some ⟨some d,.build t parts,ty,pos,aft,g⟩)(ht:P.underlying t=some (.array n e))(hs:TS P e sz)(hz:TZ P t (.agg zs.toArray))(hu:U1 σ parts.toList=some us)
  (hf:Instr.fill (fun i=>some (i*sz,sz)) zs.toArray us=some cs.toArray) (hN:Nat.blt d X.N=true) (hg:cT all σ g) (kk:WL P X bad all K Q os ((d,.agg cs.toArray)::σ) μ Ds):WL P X bad all K Q ((fl,ix)::os) σ μ Ds:=
 bG ho rfl rfl hN hg (fun ρ hρ w'=>by
  have e:(parts.map fun(i,x)=>(i,ρ x)).toList=us:=by rw[←uL hρ hu];simp
  simp only[execOp,Instr.build,Sem.run_bind,hz w',Result.andThen_ok,TU.of ht w',hs w',Value.cells,e,hf,Sem.run_pure]) kk
theorem OI{op:BinOp}(he:op=.shl∨op=.shr){k:IntKind}{a b:Int}{w:World}{r:Value}(h:(Op.shift op k a k' b).run P w=.ok r w){ρ:Operand→Value}(hx:ρ x=.int k a)(hy:ρ y=.int k' b):
  (execOp ρ ⟨some d,.binOp op t x y t',ty,pos,aft,g⟩).run P w=.ok (.value r) w:=by
 rcases he with rfl|rfl<;>simp[execOp,hx,hy,binOp,h,go_sem]
theorem O6(ho:all[ix]?= some ⟨some d,.binOp .shr t x y t',ty,pos,aft,g⟩)(hx:ev σ x=some (.int .i64 (m:Int)))(hy:ev σ y=some (.int k' (n:Int)))(hn:n≤62)(hN:Nat.blt d X.N=true)(hg:cT all σ g)
  (kk:WL P X bad all K Q os ((d,.int .i64 ((m >>> n:Nat):Int))::σ) μ Ds):WL P X bad all K Q ((fl,ix)::os) σ μ Ds:=
 bG ho rfl rfl hN hg (fun ρ hρ w'=>OI (aJE rfl) (by
  have h1:¬((n:Int)<0):=by omega
  have h2:min (n:Int).toNat IntKind.i64.bits=n:=by rw[aKT];exact aNH (aLS hn Yah)
  have h3:(m:Int).fdiv (2^n)=((m >>> n:Nat):Int):=by
   rw[Nat.shiftRight_eq_div_pow,Int.fdiv_eq_ediv_of_nonneg _ (by exact_mod_cast aMX (2^n))];simp
  simp only[Op.shift,h1,aLR,h2,h3];rfl) (hρ x _ hx) (hρ y _ hy)) kk
theorem kE(m n:Nat):((m >>> n:Nat):Int)%2=if m.testBit n then 1 else 0:=by
 rw[Nat.testBit,Nat.one_and_eq_mod_two];have:=Nat.mod_two_eq_zero_or_one (m >>> n);rcases this with h|h
 ·have:((m >>> n:Nat):Int)%2=0:=by omega
  rw[this];simp[h]
 ·have:((m >>> n:Nat):Int)%2=1:=by omega
  rw[this];simp[h]
end Go.Fs
namespace Go.Fs
namespace C7
structure Pt where
 a:Int
 b:Int
 c:Int
deriving DecidableEq
structure Ch where
 size:Int
 parts:Pt
structure bI where
 chairs:List Ch
 fit:Int
 claims:List (Int×Int)
def Pt.l(p:Pt):List Int:=[p.a,p.b,p.c]
def fR(n lo hi:Int):Bool:=decide (lo≤n)&&decide (n≤hi)
theorem cG{n lo hi:Int}:fR n lo hi=true ↔ lo≤n∧n≤hi:=by simp[fR]
def KT(p:Pt)(m:Int):Bool:=p.l.all fun n=>fR n 0 m
def iG(c:Ch):Bool:=fR c.size 0 9&&KT c.parts 2
def kW(r:Int×Int):Bool:=(decide (0≤r.1)&&decide (r.1≤r.2))&&decide (r.2≤7)
def aFO(p:Pt):Nat:=(p.l.filter fun n=>decide (n=2)).length
def iR(l:List Ch):Nat:=(l.map fun c=>aFO c.parts).sum
def wF(y:bI):Bool:=(fR y.fit 0 9&&y.chairs.all iG)&&y.claims.all kW
def aT(y:bI):Int:=if 7<y.chairs.length∨5<y.claims.length then 3 else if wF y=false then 1 else if 8<iR y.chairs then 3 else 0
def zB(n t:Int):Bool:=fR t 0 1&&(decide (n=2)||decide (t=n))
def IY(p t:Pt):Bool:=(p.l.zip t.l).all fun x=>zB x.1 x.2
def nI(y:bI)(t:List Pt):Bool:=decide (t.length=y.chairs.length)&&(y.chairs.zip t).all fun x=>IY x.1.parts x.2
def iT(p:Pt):Bool:=decide (p=⟨1,1,1⟩)
def whole(t:List Pt):Nat:=(t.filter iT).length
end C7
open C7
def aIB(p:Pt):Value:=.agg #[.int .i64 p.a,.int .i64 p.b,.int .i64 p.c]
def aGS(c:Ch):Value:=.agg #[.int .i64 c.size,.int .i64 c.parts.a,.int .i64 c.parts.b,.int .i64 c.parts.c]
def RP:Rd Pt:=fun _ p cs=>cs=[.int .i64 p.a,.int .i64 p.b,.int .i64 p.c]
theorem RP.up:RP.Up:=fun _ _ _ h=>h
def rP:Rd Ch:=fun _ c cs=>cs=[.int .i64 c.size,.int .i64 c.parts.a,.int .i64 c.parts.b,.int .i64 c.parts.c]
theorem rP.up:rP.Up:=fun _ _ _ h=>h
def R2:Rd (Int×Int):=fun _ p cs=>cs=[.int .i64 p.1,.int .i64 p.2]
theorem R2.up:R2.Up:=fun _ _ _ h=>h
def lO(D:aA)(v:Value)(y:bI):Prop:=∃cv rv,v=.agg #[cv,.int .i64 y.fit,rv]∧Sl D rP 4 cv y.chairs∧Sl D R2 2 rv y.claims
theorem lO.up{D D':aA}{v:Value}{y:bI}(h:lO D v y)(hl:Le D D'):lO D' v y:=by
 obtain⟨cv,rv,hv,hc,hr⟩:=h;exact⟨cv,rv,hv,hc.up rP.up hl,hr.up R2.up hl⟩
end Go.Fs
namespace Go.Fs
variable{P:Program}{X:Cx}{γb:Type}[Membership Nat γb]{bad:γb}{all:Array Oper}{K:Act→World→Prop}{Q:Exit→Act→World→Prop}
variable{σ:bS}{μ:aC}{Ds:List aA}{os:List (Bool×Nat)}{fl:Bool}{ix:Nat}
variable{d:Nat}{x y z:Operand}{u v:Value}{ty:TypeId}{pos:String}{aft:Array Edge}{g:Option (Nat×Bool)}
abbrev aC.ks(μ:aC):List Nat:=μ.map fun p=>p.1
def S3(P:Program)(f:FuncId)(args:List Value)(D:aA)(ν:aC)(post:aA→Value→aC→Prop):Prop:=
 EF P f∧∀w,dM D w→(∀p∈ν,w.heap[p.1]?= some p.2∧D p.1=[]∧cN p.2)→ν.ks.Nodup→Calls P f args.toArray w fun e w'=>∃v D' ν',e=.returned v∧ν'.ks=ν.ks∧fP (hd w) w.heap.size D ν.ks ν' D' w'∧post D' v ν'
theorem fP.afterM{h0:H0}{lo:Nat}{D0 D D':aA}{mods:List Nat}{A B ν ν':aC}{w w':World}(h:fP h0 lo D0 mods (A++ν++B) D w)(hk:ν'.ks=ν.ks)(hs:fP (hd w) w.heap.size D ν.ks ν' D' w'):fP h0 lo D0 mods (A++ν'++B) D' w':=by
 have hle:=aLS h.hlo h.size;have hin:∀c∈ν.ks,∃o,(c,o)∈ν:=fun c hc=>by
  obtain⟨p,hp,rfl⟩:=aIY.1 hc;exact⟨p.2,hp⟩
 have hbx:∀p∈ν,_:=fun p hp=>h.box p (aJG _ (aIZ _ hp))
 have hnd:=h.nd;simp only[aJN]at hnd;have keys:(A++ν'++B).map (fun p=>p.1)=(A++ν++B).map (fun p=>p.1):=by
  simp only[aJN];rw[show ν'.map (fun p=>p.1)=ν.map (fun p=>p.1)from hk]
 refine⟨h.hlo,aLS h.size hs.size,fun c hc hm=>?_,fun c hc=>?_,hs.agr,fun p hp=>?_,by rw[keys];exact h.nd,fun p hp=>?_,fun e he=>(hs.env _ rfl).trans (h.env e he)⟩
 ·have hne:c∉ν.ks:=by
   intro hcm;obtain⟨o,ho⟩:=hin c hcm;rcases(hbx _ ho).2.2 with h'|h'
   ·have:=h.hlo;simp at h';omega
   ·exact hm h'
  rw[hs.old c (aLU hc hle) hne];exact h.old c hc hm
 ·rw[hs.dold c (aLU hc hle)];exact h.dold c hc
 ·rcases aJO.1 hp with hp|hp
  ·rcases aJO.1 hp with hp|hp
   ·obtain⟨h1,h2,h3⟩:=h.box p (aJG _ (aJG _ hp));have hl:=bA h1;have hne:p.1∉ν.ks:=fun hm=>(aJJ.1 (aJJ.1 hnd).1).2.2 p.1 (aIY.2 ⟨p,hp,rfl⟩) p.1 hm rfl
    exact⟨by rw[hs.old _ hl hne];exact h1,by rw[hs.dold _ hl];exact h2,h3⟩
   ·obtain⟨q1,q2,_⟩:=hs.box p hp;have hm:p.1∈ν.ks:=by rw[←hk];exact aIY.2 ⟨p,hp,rfl⟩
    obtain⟨o,ho⟩:=hin p.1 hm;exact⟨q1,q2,(hbx _ ho).2.2⟩
  ·obtain⟨h1,h2,h3⟩:=h.box p (aIZ _ hp);have hl:=bA h1;have hne:p.1∉ν.ks:=fun hm=>(aJJ.1 hnd).2.2 p.1 (aIZ _ hm) p.1 (aIY.2 ⟨p,hp,rfl⟩) rfl
   exact⟨by rw[hs.old _ hl hne];exact h1,by rw[hs.dold _ hl];exact h2,h3⟩
 ·rcases aJO.1 hp with hp|hp
  ·rcases aJO.1 hp with hp|hp
   ·exact h.fz p (aJG _ (aJG _ hp))
   ·exact hs.fz p hp
  ·exact h.fz p (aIZ _ hp)
theorem eA{c:Operand}{xs:Array Operand}{ats:Array TypeId}{f:FuncId}{c1 c2:List Value}{vs:List Value}{A B ν:aC}{post:aA→Value→aC→Prop}(ho:all[ix]?= some ⟨some d,.call {callee:=.value c,args:=xs,argTypes:=ats},ty,pos,aft,g⟩)(hc:ev σ c=some (.func (.func f) c1.toArray c2.toArray))(hxs:C0 σ xs.toList=some vs)
  (hex:X.ex=none) (hfl:fl=false∨∀p∈ν,p.1∈bad) (hu:∀p∈ν,cN p.2) (hf:∀D,(∀D₁∈Ds,Le D₁ D)→S3 P f (c1++vs++c2) D ν post) (hN:Nat.blt d X.N=true) (hg:cT all σ g)
  (kk:∀v D ν',(∀D₁∈Ds,Le D₁ D)→post D v ν'→WL P X bad all K Q os ((d,v)::σ) (A++ν'++B) (D::Ds)):
  WL P X bad all K Q ((fl,ix)::os) σ (A++ν++B) Ds:=by
 refine dI ho rfl rfl hg fun a w hh=>?_
 obtain⟨h1,h2,h3,D,h4,h5,h6⟩:=id hh;have hF:=hf D h5;have hbx:∀p∈ν,_:=fun p hp=>h4.box p (aJG _ (aIZ _ hp))
 have hnd:=h4.nd;simp only[aJN]at hnd;rw[nO hF.1 (hh.eval hc) (gU (fun _ _ hx=>hh.eval hx) hxs)];refine⟨fun h=>by simp[FW]at h,cS.2 ((hF.2 w h4.agr (fun p hp=>⟨(hbx p hp).1,(hbx p hp).2.1,hu p hp⟩) (aJJ.1 (aJJ.1 hnd).1).2.1).mono ?_)⟩;rintro e w' ⟨v,D',ν',rfl,hk,hs,hpost⟩;have hle:=eG h4.agr hs;refine⟨fun hflt=>⟨hs.size,fun c hc hcb=>hs.old c hc (fun hm=>?_)⟩,kk v D' ν' (fun D₁ hD₁=>(h5 D₁ hD₁).trans hle) hpost _ _ ?_⟩
 ·obtain⟨p,hp,rfl⟩:=aIY.1 hm;rcases hfl with h|h
  ·rw[hflt]at h;cases h
  ·exact hcb (h p hp)
 ·refine Hl.put ⟨h1,h2,h3,D',h4.afterM hk hs,fun D₁ hD₁=>?_,by unfold uO;rw[hex];trivial⟩ hN v;rcases aIW.1 hD₁ with rfl|hD₁
  ·exact Le.refl _
  ·exact(h5 D₁ hD₁).trans hle
theorem R3{c:Operand}{xs:Array Operand}{ats:Array TypeId}{f:FuncId}{c1 c2:List Value}{vs:List Value}{A ν:aC}{post:aA→Value→aC→Prop}(ho:all[ix]?= some ⟨some d,.call {callee:=.value c,args:=xs,argTypes:=ats},ty,pos,aft,g⟩)(hc:ev σ c=some (.func (.func f) c1.toArray c2.toArray))(hxs:C0 σ xs.toList=some vs)
  (hex:X.ex=none) (hfl:fl=false∨∀p∈ν,p.1∈bad) (hu:∀p∈ν,cN p.2) (hf:∀D,(∀D₁∈Ds,Le D₁ D)→S3 P f (c1++vs++c2) D ν post) (hN:Nat.blt d X.N=true) (hg:cT all σ g)
  (kk:∀v D ν',(∀D₁∈Ds,Le D₁ D)→post D v ν'→WL P X bad all K Q os ((d,v)::σ) (A++ν') (D::Ds)):
  WL P X bad all K Q ((fl,ix)::os) σ (A++ν) Ds:=by
 have:=eA (A:=A) (B:=[]) ho hc hxs hex hfl hu hf hN hg (fun v D ν' h1 h2=>by rw[aJF];exact kk v D ν' h1 h2)
 rwa [aJF]at this
def jA(X:Cx)(ks:List Nat)(post:aA→Value→aC→Prop):Ending→World→Prop:=fun e w'=>∃v D' ν',e=.returned v∧ν'.ks=ks∧fP X.h0 X.lo X.D0 X.mods ν' D' w'∧post D' v ν'
theorem bT{fn:Func}{ks:List Nat}{post:aA→Value→aC→Prop}:NP (bodyPost P fn (jA X ks post)):=by
 rintro c a w ⟨_,v,D',μ',h,_⟩;cases h
def mE(N:Nat)(h0:H0)(D:aA)(ks:List Nat):Cx:=⟨none,N,[],h0,h0.size,D,ks,none⟩
theorem gC{f:FuncId}{fn:Func}{c:Code}{args:List Value}{D:aA}{ν:aC}{post:aA→Value→aC→Prop}(N:Nat)(hf:P.funcs[f]?= some fn)(hn:(fn.name== "runtime.NumGoroutine")=false)(hb:fn.body=some c)(hN:fn.ntmps=N)(hsz:Nat.ble args.length N=true)
  (h:∀h0:H0,(∀p∈ν,p.1<h0.size)→ν.ks.Nodup→WC P (mE N h0 D ν.ks) (bodyPost P fn (jA (mE N h0 D ν.ks) ν.ks post)) c (gJ 0 args) ν [D]):S3 P f args D ν post:=by
 refine⟨EF.of hf hn hb,fun w hw hν hnd=>?_⟩;subst hN;have hsz:=aLJ hsz;refine(cS (r:=none) (n:=0)).1 ((callsIn_of_wp (R:=jA (mE fn.ntmps (hd w) D ν.ks) ν.ks post) hf hb aOJ (h (hd w) (fun p hp=>bA (hν p hp).1) hnd _ w ⟨?_,fun s v hs=>?_,rfl,D,⟨aJU _,aJU _,fun _ _ _=>rfl,fun _ _=>rfl,hw,(fun p hp=>?_),hnd,(fun p hp=>(hν p hp).2.2),fun e he=>aJZ he⟩,fun D₁ h1=>?_,aOJ⟩) rfl).mono ?_)
 ·simp[mE];omega
 ·obtain⟨_,h2⟩:=eL args 0 s v hs;have hl:=(aJK.1 h2).1;simp only[aML]at h2 hl;show(args.toArray++_)[s]?= some v;rw[aLX Yam];simpa using h2
 ·exact⟨(hν p hp).1,(hν p hp).2.1,aJE (aIY.2 ⟨p,hp,rfl⟩)⟩
 ·simp only[aJR]at h1;subst h1;exact Le.refl _
 ·rintro e w' ⟨v,D',ν',rfl,hk,hs,hp⟩;exact⟨v,D',ν',rfl,hk,hs,hp⟩
theorem MH{fn:Func}{ks:List Nat}{A B ν':aC}{post:aA→Value→aC→Prop}{e:Exit}(he:(match e with|.normal=>true|.ret=>true|_=>false)=true){rs:List ResultVar}{vs:List Value}(hds:X.ds=[])(hr:fn.results=rs.toArray)(h:rW P X σ (A++ν'++B) rs vs)
  (hk:ν'.ks=ks) (hp:∀D,(∀D₁∈Ds,Le D₁ D)→post D (mX vs) ν'):∀a w,Hl X σ (A++ν'++B) Ds a w→bodyPost P fn (jA X ks post) e a w:=by
 intro a w hh;have hrun:=fZ hh hr h;obtain⟨h1,h2,h3,D,h4,h5,h6⟩:=hh;have hnd:=h4.nd;simp only[aJN]at hnd;have:a.defers=[]∧∃v,(results fn a.tmps).run P w=.ok v w∧jA X ks post (.returned v) w:=⟨h3.trans hds,_,hrun,_,D,ν',rfl,hk,h4.sub (fun p hp=>aJG _ (aIZ _ hp)) (aJJ.1 (aJJ.1 hnd).1).2.1,hp D h5⟩
 cases e<;>first|exact this|cases he
theorem _root_.Go.Fs.Zz{fn:Func}{ks:List Nat}(A:aC)(B:aC)(ν':aC){post:aA→Value→aC→Prop}{e:Exit}{rs:List ResultVar}(vs:List Value)(e9:((match e with|.normal=>true|.ret=>true|_=>false),X.ds,fn.results)=(true,[],rs.toArray))(h:rW P X σ (A++ν'++B) rs vs)(hk:ν'.ks=ks)(hp:∀D,(∀D₁∈Ds,Le D₁ D)→post D (mX vs) ν'):∀a w,Hl X σ (A++ν'++B) Ds a w→bodyPost P fn (jA X ks post) e a w:=MH (A:=A) (B:=B) (ν':=ν') (vs:=vs) (aJS (fun z=>z.1) e9) (aJS (fun z=>z.2.1) e9) (aJS (fun z=>z.2.2) e9) h hk hp
end Go.Fs
