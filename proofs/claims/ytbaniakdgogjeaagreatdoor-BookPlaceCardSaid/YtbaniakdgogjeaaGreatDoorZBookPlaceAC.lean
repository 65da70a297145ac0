/- Of the proof of BookPlace: Rest, Types, Spec, Row, Keys, Own, Tide, Book, BookLaw, BookEnds, Bits, Yard, Many. -/
import Derived.Test.YtbaniakdgogjeaaGreatDoorZBookPlaceAB
import Derived.Test.YtbaniakdgogjeaaGreatDoorProg
import Derived.Test.YtbaniakdgogjeaaGreatDoorZBookPlaceAA
import Derived.ChangeKeysEq
namespace Go.Fs
variable{P:Program}{X:Cx}{γb:Type}[Membership Nat γb]{bad:γb}{all:Array Oper}{K:Act→World→Prop}{Q:Exit→Act→World→Prop}
variable{σ:bT}{μ:aC}{Ds:List aA}{os:List (Bool×Nat)}{fl:Bool}{ix:Nat}
variable{d:Nat}{x y z:Operand}{u v:Value}{ty:TypeId}{pos:String}{aft:Array Edge}{g:Option (Nat×Bool)}
theorem OR{t e:TypeId}{n b:Nat}(ho:all[ix]?= some ⟨some d,.slice t x none none none,ty,pos,aft,g⟩)(ht:P.underlying t=some (.array n e))(hs:TS P e 1)(hx:ev σ x=some (.pointer (some ⟨b,0,none⟩)))
  (hN:Nat.blt d X.N=true) (hg:cW all σ g) (kk:WL P X bad all K Q os ((d,.slice (some ⟨b,0,none⟩) n n)::σ) μ Ds):WL P X bad all K Q ((fl,ix)::os) σ μ Ds:=
 bL ho rfl rfl hN hg (fun ρ hρ w'=>by
  simp only[execOp,hρ x _ hx,aMH];unfold Instr.sliceAt Instr.sureAddr Instr.sliceBounds;simp only[Sem.run_bind,TU.of ht w',Result.andThen_ok,hs w',Sem.run_pure,pure_bind,aOG,aNZ];split<;>simp[Addr.add]) kk
theorem JY{k k':IntKind}{s t:TypeId}{n:Int}(ho:all[ix]?= some ⟨some d,.convert s t x,ty,pos,aft,g⟩)(hr:∀w,(Go.convert s t (.int k n)).run P w=.ok (.int k' n) w)(hx:ev σ x=some (.int k n))(hN:Nat.blt d X.N=true)(hg:cW all σ g)
  (kk:WL P X bad all K Q os ((d,.int k' n)::σ) μ Ds):WL P X bad all K Q ((fl,ix)::os) σ μ Ds:=
 bL ho rfl rfl hN hg (fun ρ hρ w'=>by simp only[execOp,hρ x _ hx,Sem.run_bind,hr w',Result.andThen_ok,Sem.run_pure]) kk
theorem vB{t t':TypeId}{b:Bool}(ho:all[ix]?= some ⟨some d,.binOp .eql t x y t',ty,pos,aft,g⟩)(hr:∀w,((do eqGuard .eql t x y u v;binOp .eql t u v):Sem Value).run P w=.ok (.bool b) w)(hx:ev σ x=some u)(hy:ev σ y=some v)(hN:Nat.blt d X.N=true)(hg:cW all σ g)
  (kk:WL P X bad all K Q os ((d,.bool b)::σ) μ Ds):WL P X bad all K Q ((fl,ix)::os) σ μ Ds:=
 bL ho rfl rfl hN hg (fun ρ hρ w'=>by simp only[execOp,hρ x _ hx,hρ y _ hy];rw[Sem.run_bind,hr w'];rfl) kk
theorem DR{t t':TypeId}{b:Bool}(ho:all[ix]?= some ⟨some d,.binOp .neq t x y t',ty,pos,aft,g⟩)(hr:∀w,((do eqGuard .neq t x y u v;binOp .neq t u v):Sem Value).run P w=.ok (.bool b) w)(hx:ev σ x=some u)(hy:ev σ y=some v)(hN:Nat.blt d X.N=true)(hg:cW all σ g)
  (kk:WL P X bad all K Q os ((d,.bool b)::σ) μ Ds):WL P X bad all K Q ((fl,ix)::os) σ μ Ds:=
 bL ho rfl rfl hN hg (fun ρ hρ w'=>by simp only[execOp,hρ x _ hx,hρ y _ hy];rw[Sem.run_bind,hr w'];rfl) kk
theorem rX{t:TypeId}{a b:Bool}(ht:P.underlying t=some .bool)(w:World):(Op.equal t (.bool a) (.bool b)).run P w=.ok (a==b) w:=by
 have h:(Op.equalIn (9999+1) t (.bool a) (.bool b)).run P w=.ok (a==b) w:=by
  rw[Op.equalIn,Sem.run_bind,TU.of ht w];rfl
 exact h
theorem aAI{t t':TypeId}{a b:Bool}(ho:all[ix]?= some ⟨some d,.binOp .eql t x y t',ty,pos,aft,g⟩)(ht:P.underlying t=some .bool)(hx:ev σ x=some (.bool a))(hy:ev σ y=some (.bool b))(hN:Nat.blt d X.N=true)(hg:cW all σ g)
  (kk:WL P X bad all K Q os ((d,.bool (a==b))::σ) μ Ds):WL P X bad all K Q ((fl,ix)::os) σ μ Ds:=
 vB ho (fun w=>by
  have hg:(eqGuard .eql t x y (.bool a) (.bool b)).run P w=.ok () w:=rfl;rw[Sem.run_bind,hg];show((do Pure.pure (Value.bool (←Op.equal t (.bool a) (.bool b)))):Sem Value).run P w=_;rw[Sem.run_bind,rX ht];rfl) hx hy hN hg kk
theorem j0{t t':TypeId}{a b:Bool}(ho:all[ix]?= some ⟨some d,.binOp .neq t x y t',ty,pos,aft,g⟩)(ht:P.underlying t=some .bool)(hx:ev σ x=some (.bool a))(hy:ev σ y=some (.bool b))(hN:Nat.blt d X.N=true)(hg:cW all σ g)
  (kk:WL P X bad all K Q os ((d,.bool (!(a==b)))::σ) μ Ds):WL P X bad all K Q ((fl,ix)::os) σ μ Ds:=
 DR ho (fun w=>by
  have hg:(eqGuard .neq t x y (.bool a) (.bool b)).run P w=.ok () w:=rfl;rw[Sem.run_bind,hg];show((do Pure.pure (Value.bool (!(←Op.equal t (.bool a) (.bool b))))):Sem Value).run P w=_;rw[Sem.run_bind,rX ht];rfl) hx hy hN hg kk
theorem Z2{n:Nat}(h:∀a w,Hl X σ μ Ds a w→Q .normal a w):WC P X Q (.label n) σ μ Ds:=fun a w hh=>wpIn_label (h a w hh)
theorem J6{t e:TypeId}{n:Nat}{l:List Int}{k:IntKind}{i m:Int}(ho:all[ix]?= some ⟨some d,.index t x y,ty,pos,aft,g⟩)(ht:P.underlying t=some (.array n e))(ha:TA P e false)(hs:TS P e 1)(hx:ev σ x=some (.agg (ints l).toArray))(hy:ev σ y=some (.int k i))(h0:0≤i)(h1:i<n)(hm:l[i.toNat]?= some m)
  (hN:Nat.blt d X.N=true) (hg:cW all σ g) (kk:WL P X bad all K Q os ((d,.int .i64 m)::σ) μ Ds):WL P X bad all K Q ((fl,ix)::os) σ μ Ds:=
 bL ho rfl rfl hN hg (fun ρ hρ w'=>by
  have hg:(ints l).toArray[i.toNat]?= some (.int .i64 m):=by simpa using cD hm
  simp only[execOp,hρ x _ hx,hρ y _ hy];unfold Instr.index asIntOf part;simp only[Sem.run_bind,TU.of ht w',Result.andThen_ok,hs w',ha w',Sem.run_pure,pure_bind,h0,h1,aJG,aMG,aND,aLI,aMN,hg]) kk
theorem eL(l m:List Int):ints l++ints m=ints (l++m):=by simp[ints]
theorem YO{t f k ft:Nat}{cs:List Value}{fs:Array Field}(ho:all[ix]?= some ⟨some d,.field t x f,ty,pos,aft,g⟩)(ht:P.underlying t=some (.struct fs))(hk:(fs[f]?).map (fun f=>(f.offset,f.type))=some (k,ft))(ha:TA P ft false)(hx:ev σ x=some (.agg cs.toArray))(hv:cs[k]?= some v)
  (hN:Nat.blt d X.N=true) (hg:cW all σ g) (kk:WL P X bad all K Q os ((d,v)::σ) μ Ds):WL P X bad all K Q ((fl,ix)::os) σ μ Ds:=
 bL ho rfl rfl hN hg (fun ρ hρ w'=>by
  cases hf:fs[f]? with
  |none=>simp[hf]at hk
  |some f0=>
   simp only[hf,aLK,aJL,aNY]at hk;obtain⟨rfl,rfl⟩:=hk;have hv':cs.toArray[f0.offset]?= some v:=by simpa using hv
   simp only[execOp,hρ x _ hx];unfold Instr.field asAgg part;simp only[Sem.run_bind,TU.of ht w',Result.andThen_ok,hf,ha w',Sem.run_pure,pure_bind,aLI,aMN,hv']) kk
theorem gD{t:TypeId}{D₁:aA}{b k:Nat}{cs:List Value}(ho:all[ix]?= some ⟨some d,.load t x,ty,pos,aft,g⟩)(ha:TA P t false)(hx:ev σ x=some (.pointer (some ⟨b,k,none⟩)))(hA:At D₁ b 0 cs)(hD:D₁∈Ds)(hv:cs[k]?= some v)(hb:b∉bad)
  (hN:Nat.blt d X.N=true) (hg:cW all σ g) (kk:WL P X bad all K Q os ((d,v)::σ) μ Ds):WL P X bad all K Q ((fl,ix)::os) σ μ Ds:=
 bD (o:=0) (k:=k) ho ha (by rw[aNB];exact hx) hA hD hv hb hN hg kk
theorem A2{γ:Type}{c:Code}{N lo:Nat}{J0:oB}(m:γ→Nat)(I:γ→Prop)(J:γ→oB)(ch:γ→bT)(rest:bT)(M:γ→aC)(E:γ→List aA)(g₀:γ)(h₀:I g₀)(hJ:J0=J g₀)(hch:b7 σ (ch g₀))(hrest:b7 σ rest)(hμ:(M g₀).Sublist μ)(hD:∀D∈E g₀,∃D'∈Ds,Le D D')
  (round:∀g,I g→WC P (Xj N lo (J g)) (Exit.then (fun a w=>∃g',I g'∧m g'<m g∧Hl (Xj N lo (J g')) (ch g'++rest) (M g') (E g') a w) Q) c (ch g++rest) (M g) (E g)):WC P (Xj N lo J0) Q (.loop c) σ μ Ds:=by
 subst hJ
 let p:Act→World→Nat→Prop:=fun a w n=>∃g,I g∧m g=n∧Hl (Xj N lo (J g)) (ch g++rest) (M g) (E g) a w
 have ex:∀a w,(∃n,p a w n)→∃n,p a w n∧∀k,p a w k→n≤k:=by
  intro a w ⟨n,hn⟩;induction n using Nat.strongRecOn with
  |_ n ih=>
   by_cases h:∃k,k<n∧p a w k
   ·obtain⟨k,hk,hp⟩:=h;exact ih k hk hp
   ·exact⟨n,hn,fun k hk=>Nat.le_of_not_lt fun hl=>h ⟨k,hl,hk⟩⟩
 intro a w hh;refine wpIn_loop (fun a w=>∃n,p a w n) (fun a w=>open Classical in if h:∃n,p a w n then(ex a w h).choose else 0) ⟨_,g₀,h₀,rfl,hh.weak (b7.app hch hrest) hμ hD⟩ ?_;intro a w hI;obtain⟨⟨g,hg,hm,hst⟩,hmin⟩:=(ex a w hI).choose_spec;refine wpIn_mono (round g hg a w hst) fun e a' w' hq=>?_
 cases e with
 |normal=>
  obtain⟨g',hg',hlt,hst'⟩:=hq;have hI':∃n,p a' w' n:=⟨_,g',hg',rfl,hst'⟩
  refine⟨hI',?_⟩;simp only[dif_pos hI',dif_pos hI];have:=(ex a' w' hI').choose_spec.2 _ ⟨g',hg',rfl,hst'⟩;omega
 |_=>exact hq
theorem kT{γ:Type}{N lo:Nat}{J1:oB}{m:γ→Nat}{I:γ→Prop}{J:γ→oB}{ch:γ→bT}{rest:bT}{M:γ→aC}{E:γ→List aA}{g:γ}(n:Nat)(g':γ)(h1:I g')(h2:m g'<m g)(hJ:J1=J g')(hch:b7 σ (ch g'))(hn:yD n σ=true)(hr:σ.drop n=rest)(hμ:(M g').Sublist μ)(hD:∀D∈E g',∃D'∈Ds,Le D D'):
  ∀a w,Hl (Xj N lo J1) σ μ Ds a w→Exit.then (fun a w=>∃g',I g'∧m g'<m g∧Hl (Xj N lo (J g')) (ch g'++rest) (M g') (E g') a w) Q .normal a w:=by
 subst hJ;intro a w hh;refine⟨g',h1,h2,?_⟩;have h3:=hh.weak (σ':=ch g') hch hμ hD;refine⟨h3.1,fun s v hs=>?_,h3.2.2⟩;rcases zS hs with hs|hs
 ·exact h3.2.1 s v hs
 ·subst hr;exact hh.2.1 s v (tF n σ hn s v hs)
theorem AF{J J1 J0:oB}{l N lo:Nat}{c:Operand}{xs:Array Operand}{ats:Array TypeId}{vs:List Value}(ho:all[ix]?= some ⟨some d,.call {callee:=.value c,args:=xs,argTypes:=ats},ty,pos,aft,g⟩)
  (hc:ev σ c=some (.func (.yield l) #[] #[])) (hxs:H8 σ xs.toList=some vs) (hfl:fl=false) (hs1:uQ lo J1) (hs0:uQ lo J0)
  (hY:∀D w,sR lo D w→J (μ.map (·.1)) D w→(∀p∈μ,p.1<w.heap.size)→(∀D₁∈Ds,Le D₁ D)→fT P l vs w fun b D' w'=>sR lo D' w'∧sS (μ.map (·.1)) D w D' w'∧(if b then J1 (μ.map (·.1)) D' w' else J0 (μ.map (·.1)) D' w'))
  (hN:Nat.blt d N=true) (hg:cW all σ g)
  (kk:∀b J',J'=(if b=true then J1 else J0)→WL P (Xj N lo J') bad all K Q os ((d,.bool b)::σ) μ Ds):WL P (Xj N lo J) bad all K Q ((fl,ix)::os) σ μ Ds:=
 YB (X:=Xj N lo J) ho hc hxs rfl hfl rfl rfl hs1 hs0 hY hN hg (kk true J1 rfl) (kk false J0 rfl)
theorem rU{c:Code}(k:(μ.map (·.1)).Nodup→WC P X Q c σ μ Ds):WC P X Q c σ μ Ds:=fun a w hh=>k (by obtain⟨_,_,_,D,h4,_⟩:=hh;exact h4.nd) a w hh
theorem bH{t:TypeId}{b n:Nat}{vs us:List Value}{e:TypeId}{μ':aC}(ho:all[ix]?= some ⟨none,.store t x y,ty,pos,aft,g⟩)(hx:ev σ x=some (.pointer (some ⟨b,0,none⟩)))(hy:ev σ y=some v)(hv:v.cells=us.toArray)(hs:TS P t n)
  (hn:us.length=n) (hl:vs.length=n) (hm:bO μ b (.cells vs.toArray e (0,0)) (.cells us.toArray e (0,0)) μ') (hc1:∀u∈us,cell1 u=true) (hg:cW all σ g)
  (kk:WL P X bad all K Q os σ μ' Ds):WL P X bad all K Q ((false,ix)::os) σ μ Ds:=
 aK ho hx hy hv (by rw[hn];exact hs) hm Yd (by rw[List.take_zero,aNB,aLJ Yd];simp) hc1 hg kk
theorem _root_.Go.Fs.Zu{t:TypeId}{b:Nat}{n:Nat}{vs:List Value}{us:List Value}{e:TypeId}{μ':aC}(e9:(all[ix]?,ev σ x,ev σ y,v.cells)=(some ⟨none,.store t x y,ty,pos,aft,g⟩,some (.pointer (some ⟨b,0,none⟩)),some v,us.toArray))(hs:TS P t n)(hm:bO μ b (.cells vs.toArray e (0,0)) (.cells us.toArray e (0,0)) μ')(kk:WL P X bad all K Q os σ μ' Ds)(hn:us.length=n:=by exact Ya)(hl:vs.length=n:=by exact Ya)(hc1:∀u∈us,cell1 u=true:=by exact Yh)(hg:cW all σ g:=by exact aGL):WL P X bad all K Q ((false,ix)::os) σ μ Ds:=bH (aKJ (fun z=>z.1) e9) (aKJ (fun z=>z.2.1) e9) (aKJ (fun z=>z.2.2.1) e9) (aKJ (fun z=>z.2.2.2) e9) hs hn hl hm hc1 hg kk
theorem dX{t e tr e':TypeId}{n sz:Nat}{cells:List Value}{ν:aC}{ats:Array TypeId}(ho:all[ix]?= some ⟨some d,.call {callee:=.builtin .len,args:=#[x],argTypes:=ats},tr,pos,aft,g⟩)(ht:P.underlying t=some (.slice e))(hx:ev σ x=some v)(hS:bR e' sz v n cells ν)(hat:ats[0]?= some t)
  (hN:Nat.blt d X.N=true) (hg:cW all σ g) (kk:WL P X bad all K Q os ((d,.int .i64 (n:Int))::σ) μ Ds):
  WL P X bad all K Q ((fl,ix)::os) σ μ Ds:=
 bL ho rfl rfl hN hg (fun ρ hρ w'=>by
  have hx':=hρ x _ hx;rcases hS with⟨a,rfl,rfl,_⟩|⟨b,cap,junk,rfl,_⟩
  ·simp[Builtin.len_,hat,hx',Sem.run_bind,TU.of ht w',goInt,Sem.run_pure,go_sem]
  ·simp[Builtin.len_,hat,hx',Sem.run_bind,TU.of ht w',goInt,Sem.run_pure,go_sem]) kk
theorem Hl.dropBoxes{a:Act}{w:World}(n:Nat)(h:Hl X σ μ Ds a w):Hl X σ (μ.drop n) Ds a w:=by
 obtain⟨h1,h2,h3,D,h4,h5,h6⟩:=h;have hμ:(μ.drop n).Sublist μ:=List.drop_sublist n μ;exact⟨h1,h2,h3,D,h4.sub (fun p hp=>hμ.mem hp) ((hμ.map (·.1)).nodup h4.nd),h5,h6.step (fun _ p hp=>aKP (aJY.2 ⟨p,hμ.mem hp,rfl⟩)) (fun _=>RD.refl _ _ _) h4.dom⟩
theorem bR.cells1{e:TypeId}{sz n:Nat}{cells:List Value}{ν:aC}(h:bR e sz v n cells ν):v.cells=[v].toArray:=by
 rcases h with⟨a,rfl,_⟩|⟨b,cap,junk,rfl,_⟩<;>rfl
theorem bR.cell1{e:TypeId}{sz n:Nat}{cells:List Value}{ν:aC}(h:bR e sz v n cells ν):∀u∈[v],Fs.cell1 u=true:=by
 rcases h with⟨a,rfl,_⟩|⟨b,cap,junk,rfl,_⟩<;>simp[Fs.cell1]

theorem jD{b:Frame}{a:Act}{k:List Item}{cs:List Frame}{w:World}{c:Code}:step P (lone (b.atR a (.code (.scope c)::k)) cs w)=.next (lone (b.atR a (.code c::.inScope c::k)) cs w):=
 step_lone_go (by simp[stepG,stepG.exec,Frame.atR])
theorem C9{b:Frame}{a:Act}{k:List Item}{cs:List Frame}{w:World}{c:Code}:step P (lone (b.atR a (.inScope c::k)) cs w)=.next (lone (b.atR a k) cs w):=
 step_lone_go (by simp[stepG,stepG.exec,Frame.atR])
def X4(Q:Exit→Act→World→Prop):Exit→Act→World→Prop
 |.goto _,_,_=>False
 |e,a,w=>Q e a w
theorem AW{F:Fence}{n:Nat}{c:Code}{a:Act}{w:World}(h:c.wpIn F n P (X4 Q) a w):(Code.scope c).wpIn F n P Q a w:=by
 intro b k cs hro hb hr;have h0:(lone (b.atR a (.code (.scope c)::k)) cs w).fenced P F:=fenced_calm hb hr rfl;obtain⟨e,a₁,w₁,hq,harr⟩:=h b (.inScope c::k) cs hro hb hr;cases e with
 |normal=>exact⟨.normal,a₁,w₁,hq,.head h0 jD (StepsIn.trans harr (.one (fenced_calm hb hr rfl) C9))⟩
 |exit id'=>
  have hx:exitTo id' (.inScope c::k)=exitTo id' k:=by simp[exitTo]
  exact⟨.exit id',a₁,w₁,hq,fun k' hk=>.head h0 jD (harr.1 k' (by rw[hx];exact hk)),
   fun hr' hk=>let ⟨k₁,h1,h2⟩:=harr.2 hr' (by rw[hx];exact hk);⟨k₁,h1,.head h0 jD h2⟩⟩
 |goto l=>exact hq.elim
 |ret=>exact⟨_,a₁,w₁,hq,.of_steps (.one h0 jD) harr⟩
 |panic ch=>exact⟨_,a₁,w₁,hq,.of_steps (.one h0 jD) harr⟩
 |outgrown=>exact⟨_,a₁,w₁,hq,.of_steps (.one h0 jD) harr⟩
theorem HR{c:Code}(h:WC P X (X4 Q) c σ μ Ds):WC P X Q (.scope c) σ μ Ds:=fun a w hh=>AW (h a w hh)
theorem qR(h:∀a w,Hl X σ μ Ds a w→Q .normal a w):∀a w,Hl X σ μ Ds a w→X4 Q .normal a w:=h
theorem uZ(h:∀a w,Hl X σ μ Ds a w→Q .ret a w):∀a w,Hl X σ μ Ds a w→X4 Q .ret a w:=h
theorem aE(μ':aC)(h:μ=μ')(k:WL P X bad all K Q os σ μ' Ds):WL P X bad all K Q os σ μ Ds:=h▸k
theorem LF{c:Code}(μ':aC)(h:μ=μ')(k:WC P X Q c σ μ' Ds):WC P X Q c σ μ Ds:=h▸k
theorem Sl.cell1{α:Type}{R:Rd α}{D:aA}{sz:Nat}{v:Value}{xs:List α}(h:Sl D R sz v xs):∀u∈[v],Fs.cell1 u=true:=by
 obtain⟨a,cap,rfl,_⟩:=h;simp[Fs.cell1]
end Go.Fs
namespace Go.Fs
open Go.Proofs
namespace Tf
theorem follows:Tryz.prog.follows .mixedOrders=true:=by kernel_rfl
theorem _root_.Go.Fs.U3:type_of% Tryz.underlying3:=Tryz.underlying3
theorem _root_.Go.Fs.U4:type_of% Tryz.underlying4:=Tryz.underlying4
theorem _root_.Go.Fs.U5:type_of% Tryz.underlying5:=Tryz.underlying5
theorem _root_.Go.Fs.U9:type_of% Tryz.underlying9:=Tryz.underlying9
theorem _root_.Go.Fs.U20:type_of% Tryz.underlying20:=Tryz.underlying20
theorem _root_.Go.Fs.U22:type_of% Tryz.underlying22:=Tryz.underlying22
theorem _root_.Go.Fs.U25:type_of% Tryz.underlying25:=Tryz.underlying25
theorem _root_.Go.Fs.U26:type_of% Tryz.underlying26:=Tryz.underlying26
theorem _root_.Go.Fs.U29:type_of% Tryz.underlying29:=Tryz.underlying29
theorem _root_.Go.Fs.U30:type_of% Tryz.underlying30:=Tryz.underlying30
theorem _root_.Go.Fs.U33:type_of% Tryz.underlying33:=Tryz.underlying33
theorem _root_.Go.Fs.U34:type_of% Tryz.underlying34:=Tryz.underlying34
theorem _root_.Go.Fs.U37:type_of% Tryz.underlying37:=Tryz.underlying37
theorem _root_.Go.Fs.U38:type_of% Tryz.underlying38:=Tryz.underlying38
theorem _root_.Go.Fs.U43:type_of% Tryz.underlying43:=Tryz.underlying43
theorem _root_.Go.Fs.U53:type_of% Tryz.underlying53:=Tryz.underlying53
theorem _root_.Go.Fs.U76:type_of% Tryz.underlying76:=Tryz.underlying76
theorem _root_.Go.Fs.U78:type_of% Tryz.underlying78:=Tryz.underlying78
theorem _root_.Go.Fs.U96:type_of% Tryz.underlying96:=Tryz.underlying96
theorem _root_.Go.Fs.U100:type_of% Tryz.underlying100:=Tryz.underlying100
theorem _root_.Go.Fs.U117:type_of% Tryz.underlying117:=Tryz.underlying117
theorem _root_.Go.Fs.U147:type_of% Tryz.underlying147:=Tryz.underlying147
theorem _root_.Go.Fs.U156:type_of% Tryz.underlying156:=Tryz.underlying156
theorem _root_.Go.Fs.U161:type_of% Tryz.underlying161:=Tryz.underlying161
theorem _root_.Go.Fs.U167:type_of% Tryz.underlying167:=Tryz.underlying167
theorem _root_.Go.Fs.U183:type_of% Tryz.underlying183:=Tryz.underlying183
theorem _root_.Go.Fs.U199:type_of% Tryz.underlying199:=Tryz.underlying199
theorem _root_.Go.Fs.U205:type_of% Tryz.underlying205:=Tryz.underlying205
theorem _root_.Go.Fs.U212:type_of% Tryz.underlying212:=Tryz.underlying212
theorem _root_.Go.Fs.U214:type_of% Tryz.underlying214:=Tryz.underlying214
theorem _root_.Go.Fs.U223:type_of% Tryz.underlying223:=Tryz.underlying223
theorem _root_.Go.Fs.U227:type_of% Tryz.underlying227:=Tryz.underlying227
theorem _root_.Go.Fs.U237:type_of% Tryz.underlying237:=Tryz.underlying237
theorem _root_.Go.Fs.U238:type_of% Tryz.underlying238:=Tryz.underlying238
theorem _root_.Go.Fs.U244:type_of% Tryz.underlying244:=Tryz.underlying244
theorem _root_.Go.Fs.U257:type_of% Tryz.underlying257:=Tryz.underlying257
theorem _root_.Go.Fs.U266:type_of% Tryz.underlying266:=Tryz.underlying266
theorem _root_.Go.Fs.U272:type_of% Tryz.underlying272:=Tryz.underlying272
theorem _root_.Go.Fs.U274:type_of% Tryz.underlying274:=Tryz.underlying274
theorem _root_.Go.Fs.U284:type_of% Tryz.underlying284:=Tryz.underlying284
theorem a3:TA Tryz.prog 3 false:=TA.of Tryz.underlying3 _ rfl
theorem s3:TS Tryz.prog 3 1:=TS.of Yg
theorem z3:TZ Tryz.prog 3 (.int .i64 0):=TZ.of Yg
theorem i3:(Tryz.prog.info? 3).map (fun i=>Nat.ble 1 i.bytes&&Nat.ble i.bytes 4096)=some true:=by kernel_rfl
theorem a4:TA Tryz.prog 4 false:=TA.of Tryz.underlying4 _ rfl
theorem s4:TS Tryz.prog 4 1:=TS.of Yg
theorem z4:TZ Tryz.prog 4 (.bool false):=TZ.of Yg
theorem a5:TA Tryz.prog 5 false:=TA.of Tryz.underlying5 _ rfl
theorem s5:TS Tryz.prog 5 1:=TS.of Yg
theorem z5:TZ Tryz.prog 5 (.int .u8 0):=TZ.of Yg
theorem i5:(Tryz.prog.info? 5).map (fun i=>Nat.ble 1 i.bytes&&Nat.ble i.bytes 4096)=some true:=by kernel_rfl
theorem a9:TA Tryz.prog 9 false:=TA.of Tryz.underlying9 _ rfl
theorem s9:TS Tryz.prog 9 1:=TS.of Yg
theorem i9:(Tryz.prog.info? 9).map (fun i=>Nat.ble 1 i.bytes&&Nat.ble i.bytes 4096)=some true:=by kernel_rfl
theorem a22:TA Tryz.prog 22 false:=TA.of Tryz.underlying22 _ rfl
theorem s22:TS Tryz.prog 22 1:=TS.of Yg
theorem z22:TZ Tryz.prog 22 (.slice none 0 0):=TZ.of Yg
theorem a25:TA Tryz.prog 25 false:=TA.of Tryz.underlying25 _ rfl
theorem s25:TS Tryz.prog 25 1:=TS.of Yg
theorem z25:TZ Tryz.prog 25 (.slice none 0 0):=TZ.of Yg
theorem a26:TA Tryz.prog 26 false:=TA.of Tryz.underlying26 _ rfl
theorem s26:TS Tryz.prog 26 1:=TS.of Yg
theorem a28:TA Tryz.prog 28 true:=TA.of Tryz.underlying28 _ rfl
theorem s28:TS Tryz.prog 28 4:=TS.of Yg
theorem f28_0:TF Tryz.prog 28 0 0:=TF.of Tryz.underlying28 rfl s25 rfl
theorem f28_1:TF Tryz.prog 28 1 1:=TF.of Tryz.underlying28 rfl s26 rfl
theorem f28_2:TF Tryz.prog 28 2 2:=TF.of Tryz.underlying28 rfl s3 rfl
theorem f28_3:TF Tryz.prog 28 3 3:=TF.of Tryz.underlying28 rfl s3 rfl
theorem a29:TA Tryz.prog 29 false:=TA.of Tryz.underlying29 _ rfl
theorem s29:TS Tryz.prog 29 1:=TS.of Yg
theorem a30:TA Tryz.prog 30 false:=TA.of Tryz.underlying30 _ rfl
theorem s30:TS Tryz.prog 30 1:=TS.of Yg
theorem a32:TA Tryz.prog 32 true:=TA.of Tryz.underlying32 _ rfl
theorem s32:TS Tryz.prog 32 5:=TS.of Yg
theorem f32_0:TF Tryz.prog 32 0 0:=TF.of Tryz.underlying32 rfl s3 rfl
theorem f32_1:TF Tryz.prog 32 1 1:=TF.of Tryz.underlying32 rfl s29 rfl
theorem f32_2:TF Tryz.prog 32 2 2:=TF.of Tryz.underlying32 rfl s3 rfl
theorem f32_3:TF Tryz.prog 32 3 3:=TF.of Tryz.underlying32 rfl s25 rfl
theorem f32_4:TF Tryz.prog 32 4 4:=TF.of Tryz.underlying32 rfl s30 rfl
theorem a33:TA Tryz.prog 33 false:=TA.of Tryz.underlying33 _ rfl
theorem s33:TS Tryz.prog 33 1:=TS.of Yg
theorem z33:TZ Tryz.prog 33 (.slice none 0 0):=TZ.of Yg
theorem a34:TA Tryz.prog 34 false:=TA.of Tryz.underlying34 _ rfl
theorem s34:TS Tryz.prog 34 1:=TS.of Yg
theorem a36:TA Tryz.prog 36 true:=TA.of Tryz.underlying36 _ rfl
theorem s36:TS Tryz.prog 36 5:=TS.of Yg
theorem z36:TZ Tryz.prog 36 (.agg #[.int .i64 0,.int .i64 0,.int .i64 0,.slice none 0 0,.slice none 0 0]):=TZ.of Yg
theorem f36_0:TF Tryz.prog 36 0 0:=TF.of Tryz.underlying36 rfl s3 rfl
theorem f36_1:TF Tryz.prog 36 1 1:=TF.of Tryz.underlying36 rfl s3 rfl
theorem f36_2:TF Tryz.prog 36 2 2:=TF.of Tryz.underlying36 rfl s3 rfl
theorem f36_3:TF Tryz.prog 36 3 3:=TF.of Tryz.underlying36 rfl s33 rfl
theorem f36_4:TF Tryz.prog 36 4 4:=TF.of Tryz.underlying36 rfl s34 rfl
theorem a37:TA Tryz.prog 37 false:=TA.of Tryz.underlying37 _ rfl
theorem s37:TS Tryz.prog 37 1:=TS.of Yg
theorem a38:TA Tryz.prog 38 false:=TA.of Tryz.underlying38 _ rfl
theorem s38:TS Tryz.prog 38 1:=TS.of Yg
theorem a40:TA Tryz.prog 40 true:=TA.of Tryz.underlying40 _ rfl
theorem s40:TS Tryz.prog 40 3:=TS.of Yg
theorem f40_0:TF Tryz.prog 40 0 0:=TF.of Tryz.underlying40 rfl s37 rfl
theorem f40_1:TF Tryz.prog 40 1 1:=TF.of Tryz.underlying40 rfl s3 rfl
theorem f40_2:TF Tryz.prog 40 2 2:=TF.of Tryz.underlying40 rfl s38 rfl
theorem a42:TA Tryz.prog 42 true:=TA.of Tryz.underlying42 _ rfl
theorem s42:TS Tryz.prog 42 17:=TS.of Yg
theorem z42:TZ Tryz.prog 42 (.agg #[.slice none 0 0,.slice none 0 0,.int .i64 0,.int .i64 0,.int .i64 0,.slice none 0 0,.int .i64 0,.slice none 0 0,.slice none 0 0,.int .i64 0,.int .i64 0,.int .i64 0,.slice none 0 0,.slice none 0 0,.slice none 0 0,.int .i64 0,.slice none 0 0]):=TZ.of Yg
theorem p42:TP Tryz.prog 42 [(0,4),(4,5),(9,5),(14,3)]:=TP.of Tryz.underlying42 Yg Yg
theorem f42_0:TF Tryz.prog 42 0 0:=TF.of Tryz.underlying42 rfl s28 rfl
theorem f42_1:TF Tryz.prog 42 1 4:=TF.of Tryz.underlying42 rfl s32 rfl
theorem f42_2:TF Tryz.prog 42 2 9:=TF.of Tryz.underlying42 rfl s36 rfl
theorem f42_3:TF Tryz.prog 42 3 14:=TF.of Tryz.underlying42 rfl s40 rfl
theorem a44:TA Tryz.prog 44 false:=TA.of Tryz.underlying44 _ rfl
theorem s44:TS Tryz.prog 44 1:=TS.of Yg
theorem z44:TZ Tryz.prog 44 (.int .i64 0):=TZ.of Yg
theorem i44:(Tryz.prog.info? 44).map (fun i=>Nat.ble 1 i.bytes&&Nat.ble i.bytes 4096)=some true:=by kernel_rfl
theorem a53:TA Tryz.prog 53 false:=TA.of Tryz.underlying53 _ rfl
theorem s53:TS Tryz.prog 53 1:=TS.of Yg
theorem a63:TA Tryz.prog 63 true:=TA.of Tryz.underlying63 _ rfl
theorem s63:TS Tryz.prog 63 2:=TS.of Yg
theorem z63:TZ Tryz.prog 63 (.agg #[.int .i64 0,.int .i64 0]):=TZ.of Yg
theorem p63:TP Tryz.prog 63 [(0,1),(1,1)]:=TP.of Tryz.underlying63 Yg Yg
theorem f63_0:TF Tryz.prog 63 0 0:=TF.of Tryz.underlying63 rfl s3 rfl
theorem f63_1:TF Tryz.prog 63 1 1:=TF.of Tryz.underlying63 rfl s3 rfl
theorem a67:TA Tryz.prog 67 true:=TA.of Tryz.underlying67 _ rfl
theorem s67:TS Tryz.prog 67 2:=TS.of Yg
theorem z67:TZ Tryz.prog 67 (.agg #[.int .i64 0,.int .i64 0]):=TZ.of Yg
theorem p67:TP Tryz.prog 67 [(0,1),(1,1)]:=TP.of Tryz.underlying67 Yg Yg
theorem f67_0:TF Tryz.prog 67 0 0:=TF.of Tryz.underlying67 rfl s3 rfl
theorem f67_1:TF Tryz.prog 67 1 1:=TF.of Tryz.underlying67 rfl s3 rfl
theorem a76:TA Tryz.prog 76 true:=TA.of Tryz.underlying76 _ rfl
theorem s76:TS Tryz.prog 76 2:=TS.of Yg
theorem z76:TZ Tryz.prog 76 (.agg #[.int .i64 0,.int .i64 0]):=TZ.of Yg
theorem i76:(Tryz.prog.info? 76).map (fun i=>Nat.ble 1 i.bytes&&Nat.ble i.bytes 4096)=some true:=by kernel_rfl
theorem p76:TP Tryz.prog 76 [(0,1),(1,1)]:=TP.of Tryz.underlying76 Yg Yg
theorem f76_0:TF Tryz.prog 76 0 0:=TF.of Tryz.underlying76 rfl s3 rfl
theorem f76_1:TF Tryz.prog 76 1 1:=TF.of Tryz.underlying76 rfl s3 rfl
theorem a78:TA Tryz.prog 78 true:=TA.of Tryz.underlying78 _ rfl
theorem s78:TS Tryz.prog 78 3:=TS.of Yg
theorem z78:TZ Tryz.prog 78 (.agg #[.int .i64 0,.int .i64 0,.int .i64 0]):=TZ.of Yg
theorem i78:(Tryz.prog.info? 78).map (fun i=>Nat.ble 1 i.bytes&&Nat.ble i.bytes 4096)=some true:=by kernel_rfl
theorem a80:TA Tryz.prog 80 true:=TA.of Tryz.underlying80 _ rfl
theorem s80:TS Tryz.prog 80 4:=TS.of Yg
theorem z80:TZ Tryz.prog 80 (.agg #[.int .i64 0,.int .i64 0,.int .i64 0,.int .i64 0]):=TZ.of Yg
theorem i80:(Tryz.prog.info? 80).map (fun i=>Nat.ble 1 i.bytes&&Nat.ble i.bytes 4096)=some true:=by kernel_rfl
theorem p80:TP Tryz.prog 80 [(0,1),(1,3)]:=TP.of Tryz.underlying80 Yg Yg
theorem f80_0:TF Tryz.prog 80 0 0:=TF.of Tryz.underlying80 rfl s3 rfl
theorem f80_1:TF Tryz.prog 80 1 1:=TF.of Tryz.underlying80 rfl s78 rfl
theorem a96:TA Tryz.prog 96 false:=TA.of Tryz.underlying96 _ rfl
theorem s96:TS Tryz.prog 96 1:=TS.of Yg
theorem s98:TS Tryz.prog 98 2:=TS.of Yg
theorem z98:TZ Tryz.prog 98 (.agg #[.pointer none,.slice none 0 0]):=TZ.of Yg
theorem f98_0:TF Tryz.prog 98 0 0:=TF.of Tryz.underlying98 rfl s96 rfl
theorem f98_1:TF Tryz.prog 98 1 1:=TF.of Tryz.underlying98 rfl s53 rfl
theorem a114:TA Tryz.prog 114 true:=TA.of Tryz.underlying114 _ rfl
theorem s114:TS Tryz.prog 114 2:=TS.of Yg
theorem z114:TZ Tryz.prog 114 (.agg #[.int .i64 0,.int .i64 0]):=TZ.of Yg
theorem i114:(Tryz.prog.info? 114).map (fun i=>Nat.ble 1 i.bytes&&Nat.ble i.bytes 4096)=some true:=by kernel_rfl
theorem p114:TP Tryz.prog 114 [(0,1),(1,1)]:=TP.of Tryz.underlying114 Yg Yg
theorem f114_0:TF Tryz.prog 114 0 0:=TF.of Tryz.underlying114 rfl s3 rfl
theorem f114_1:TF Tryz.prog 114 1 1:=TF.of Tryz.underlying114 rfl s3 rfl
theorem a117:TA Tryz.prog 117 false:=TA.of Tryz.underlying117 _ rfl
theorem s117:TS Tryz.prog 117 1:=TS.of Yg
theorem z117:TZ Tryz.prog 117 (.slice none 0 0):=TZ.of Yg
theorem a121:TA Tryz.prog 121 false:=TA.of Tryz.underlying121 _ rfl
theorem a129:TA Tryz.prog 129 true:=TA.of Tryz.underlying129 _ rfl
theorem s129:TS Tryz.prog 129 3:=TS.of Yg
theorem z129:TZ Tryz.prog 129 (.agg #[.bool false,.int .i64 0,.int .i64 0]):=TZ.of Yg
theorem i129:(Tryz.prog.info? 129).map (fun i=>Nat.ble 1 i.bytes&&Nat.ble i.bytes 4096)=some true:=by kernel_rfl
theorem p129:TP Tryz.prog 129 [(0,1),(1,1),(2,1)]:=TP.of Tryz.underlying129 Yg Yg
theorem f129_0:TF Tryz.prog 129 0 0:=TF.of Tryz.underlying129 rfl s4 rfl
theorem f129_1:TF Tryz.prog 129 1 1:=TF.of Tryz.underlying129 rfl s3 rfl
theorem f129_2:TF Tryz.prog 129 2 2:=TF.of Tryz.underlying129 rfl s3 rfl
theorem a131:TA Tryz.prog 131 true:=TA.of Tryz.underlying131 _ rfl
theorem s131:TS Tryz.prog 131 4:=TS.of Yg
theorem z131:TZ Tryz.prog 131 (.agg #[.int .i64 0,.int .i64 0,.int .i64 0,.int .i64 0]):=TZ.of Yg
theorem i131:(Tryz.prog.info? 131).map (fun i=>Nat.ble 1 i.bytes&&Nat.ble i.bytes 4096)=some true:=by kernel_rfl
theorem p131:TP Tryz.prog 131 [(0,1),(1,1),(2,2)]:=TP.of Tryz.underlying131 Yg Yg
theorem f131_0:TF Tryz.prog 131 0 0:=TF.of Tryz.underlying131 rfl s3 rfl
theorem f131_1:TF Tryz.prog 131 1 1:=TF.of Tryz.underlying131 rfl s3 rfl
theorem f131_2:TF Tryz.prog 131 2 2:=TF.of Tryz.underlying131 rfl s76 rfl
theorem a133:TA Tryz.prog 133 true:=TA.of Tryz.underlying133 _ rfl
theorem s133:TS Tryz.prog 133 3:=TS.of Yg
theorem z133:TZ Tryz.prog 133 (.agg #[.int .i64 0,.int .i64 0,.int .i64 0]):=TZ.of Yg
theorem i133:(Tryz.prog.info? 133).map (fun i=>Nat.ble 1 i.bytes&&Nat.ble i.bytes 4096)=some true:=by kernel_rfl
theorem p133:TP Tryz.prog 133 [(0,1),(1,1),(2,1)]:=TP.of Tryz.underlying133 Yg Yg
theorem f133_0:TF Tryz.prog 133 0 0:=TF.of Tryz.underlying133 rfl s3 rfl
theorem f133_1:TF Tryz.prog 133 1 1:=TF.of Tryz.underlying133 rfl s3 rfl
theorem f133_2:TF Tryz.prog 133 2 2:=TF.of Tryz.underlying133 rfl s3 rfl
theorem a135:TA Tryz.prog 135 true:=TA.of Tryz.underlying135 _ rfl
theorem s135:TS Tryz.prog 135 3:=TS.of Yg
theorem z135:TZ Tryz.prog 135 (.agg #[.int .i64 0,.int .i64 0,.int .i64 0]):=TZ.of Yg
theorem i135:(Tryz.prog.info? 135).map (fun i=>Nat.ble 1 i.bytes&&Nat.ble i.bytes 4096)=some true:=by kernel_rfl
theorem p135:TP Tryz.prog 135 [(0,1),(1,2)]:=TP.of Tryz.underlying135 Yg Yg
theorem f135_0:TF Tryz.prog 135 0 0:=TF.of Tryz.underlying135 rfl s3 rfl
theorem f135_1:TF Tryz.prog 135 1 1:=TF.of Tryz.underlying135 rfl s63 rfl
theorem a147:TA Tryz.prog 147 true:=TA.of Tryz.underlying147 _ rfl
theorem s147:TS Tryz.prog 147 4:=TS.of Yg
theorem z147:TZ Tryz.prog 147 (.agg #[.int .i64 0,.int .i64 0,.int .i64 0,.int .i64 0]):=TZ.of Yg
theorem a149:TA Tryz.prog 149 true:=TA.of Tryz.underlying149 _ rfl
theorem s149:TS Tryz.prog 149 10:=TS.of Yg
theorem z149:TZ Tryz.prog 149 (.agg #[.int .i64 0,.int .i64 0,.int .i64 0,.int .i64 0,.int .i64 0,.int .i64 0,.int .i64 0,.int .i64 0,.int .i64 0,.int .i64 0]):=TZ.of Yg
theorem i149:(Tryz.prog.info? 149).map (fun i=>Nat.ble 1 i.bytes&&Nat.ble i.bytes 4096)=some true:=by kernel_rfl
theorem p149:TP Tryz.prog 149 [(0,4),(4,4),(8,1),(9,1)]:=TP.of Tryz.underlying149 Yg Yg
theorem f149_0:TF Tryz.prog 149 0 0:=TF.of Tryz.underlying149 rfl s147 rfl
theorem f149_1:TF Tryz.prog 149 1 4:=TF.of Tryz.underlying149 rfl s147 rfl
theorem f149_2:TF Tryz.prog 149 2 8:=TF.of Tryz.underlying149 rfl s3 rfl
theorem f149_3:TF Tryz.prog 149 3 9:=TF.of Tryz.underlying149 rfl s3 rfl
theorem a150:TA Tryz.prog 150 false:=TA.of Tryz.underlying150 _ rfl
theorem a151:TA Tryz.prog 151 false:=TA.of Tryz.underlying151 _ rfl
theorem s151:TS Tryz.prog 151 1:=TS.of Yg
theorem z151:TZ Tryz.prog 151 (.pointer none):=TZ.of Yg
theorem a156:TA Tryz.prog 156 false:=TA.of Tryz.underlying156 _ rfl
theorem s156:TS Tryz.prog 156 1:=TS.of Yg
theorem z158:TZ Tryz.prog 158 (.agg #[.slice none 0 0,.slice none 0 0,.int .i64 0,.int .i64 0,.slice none 0 0]):=TZ.of Yg
theorem p158:TP Tryz.prog 158 [(0,4),(4,1)]:=TP.of Tryz.underlying158 Yg Yg
theorem f158_1:TF Tryz.prog 158 1 4:=TF.of Tryz.underlying158 rfl s156 rfl
theorem a161:TA Tryz.prog 161 true:=TA.of Tryz.underlying161 _ rfl
theorem s161:TS Tryz.prog 161 9:=TS.of Yg
theorem z161:TZ Tryz.prog 161 (.agg #[.int .i64 0,.int .i64 0,.int .i64 0,.int .i64 0,.int .i64 0,.int .i64 0,.int .i64 0,.int .i64 0,.int .i64 0]):=TZ.of Yg
theorem i161:(Tryz.prog.info? 161).map (fun i=>Nat.ble 1 i.bytes&&Nat.ble i.bytes 4096)=some true:=by kernel_rfl
theorem a167:TA Tryz.prog 167 true:=TA.of Tryz.underlying167 _ rfl
theorem s167:TS Tryz.prog 167 10:=TS.of Yg
theorem z167:TZ Tryz.prog 167 (.agg #[.int .i64 0,.int .i64 0,.int .i64 0,.int .i64 0,.int .i64 0,.int .i64 0,.int .i64 0,.int .i64 0,.int .i64 0,.int .i64 0]):=TZ.of Yg
theorem a169:TA Tryz.prog 169 false:=TA.of Tryz.underlying169 _ rfl
theorem s169:TS Tryz.prog 169 1:=TS.of Yg
theorem z169:TZ Tryz.prog 169 (.pointer none):=TZ.of Yg
theorem a172:TA Tryz.prog 172 false:=TA.of Tryz.underlying172 _ rfl
theorem s172:TS Tryz.prog 172 1:=TS.of Yg
theorem z172:TZ Tryz.prog 172 (.nilFunc):=TZ.of Yg
theorem a173:TA Tryz.prog 173 false:=TA.of Tryz.underlying173 _ rfl
theorem s173:TS Tryz.prog 173 1:=TS.of Yg
theorem z176:TZ Tryz.prog 176 (.agg #[.nilFunc]):=TZ.of Yg
theorem p176:TP Tryz.prog 176 [(0,1)]:=TP.of Tryz.underlying176 Yg Yg
theorem f176_0:TF Tryz.prog 176 0 0:=TF.of Tryz.underlying176 rfl s173 rfl
theorem a179:TA Tryz.prog 179 false:=TA.of Tryz.underlying179 _ rfl
theorem s179:TS Tryz.prog 179 1:=TS.of Yg
theorem z179:TZ Tryz.prog 179 (.nilFunc):=TZ.of Yg
theorem a183:TA Tryz.prog 183 false:=TA.of Tryz.underlying183 _ rfl
theorem s183:TS Tryz.prog 183 1:=TS.of Yg
theorem z183:TZ Tryz.prog 183 (.slice none 0 0):=TZ.of Yg
theorem a185:TA Tryz.prog 185 false:=TA.of Tryz.underlying185 _ rfl
theorem a188:TA Tryz.prog 188 false:=TA.of Tryz.underlying188 _ rfl
theorem s188:TS Tryz.prog 188 1:=TS.of Yg
theorem s191:TS Tryz.prog 191 1:=TS.of Yg
theorem z191:TZ Tryz.prog 191 (.agg #[.nilFunc]):=TZ.of Yg
theorem p191:TP Tryz.prog 191 [(0,1)]:=TP.of Tryz.underlying191 Yg Yg
theorem f191_0:TF Tryz.prog 191 0 0:=TF.of Tryz.underlying191 rfl s188 rfl
theorem a192:TA Tryz.prog 192 false:=TA.of Tryz.underlying192 _ rfl
theorem s192:TS Tryz.prog 192 1:=TS.of Yg
theorem z192:TZ Tryz.prog 192 (.nilFunc):=TZ.of Yg
theorem a196:TA Tryz.prog 196 true:=TA.of Tryz.underlying196 _ rfl
theorem s196:TS Tryz.prog 196 2:=TS.of Yg
theorem z196:TZ Tryz.prog 196 (.agg #[.int .i64 0,.int .i64 0]):=TZ.of Yg
theorem i196:(Tryz.prog.info? 196).map (fun i=>Nat.ble 1 i.bytes&&Nat.ble i.bytes 4096)=some true:=by kernel_rfl
theorem p196:TP Tryz.prog 196 [(0,1),(1,1)]:=TP.of Tryz.underlying196 Yg Yg
theorem f196_0:TF Tryz.prog 196 0 0:=TF.of Tryz.underlying196 rfl s3 rfl
theorem f196_1:TF Tryz.prog 196 1 1:=TF.of Tryz.underlying196 rfl s3 rfl
theorem s199:TS Tryz.prog 199 1:=TS.of Yg
theorem z199:TZ Tryz.prog 199 (.agg #[.int .i64 0]):=TZ.of Yg
theorem p199:TP Tryz.prog 199 [(0,1)]:=TP.of Tryz.underlying199 Yg Yg
theorem f199_0:TF Tryz.prog 199 0 0:=TF.of Tryz.underlying199 rfl s44 rfl
theorem a201:TA Tryz.prog 201 false:=TA.of Tryz.underlying201 _ rfl
theorem s201:TS Tryz.prog 201 1:=TS.of Yg
theorem s203:TS Tryz.prog 203 2:=TS.of Yg
theorem z203:TZ Tryz.prog 203 (.agg #[.int .i64 0,.nilFunc]):=TZ.of Yg
theorem p203:TP Tryz.prog 203 [(0,1),(1,1)]:=TP.of Tryz.underlying203 Yg Yg
theorem f203_0:TF Tryz.prog 203 0 0:=TF.of Tryz.underlying203 rfl s3 rfl
theorem f203_1:TF Tryz.prog 203 1 1:=TF.of Tryz.underlying203 rfl s201 rfl
theorem z211:TZ Tryz.prog 211 (.agg #[.slice none 0 0,.slice none 0 0,.int .i64 0,.int .i64 0,.int .i64 0,.slice none 0 0,.int .i64 0,.slice none 0 0,.slice none 0 0,.int .i64 0,.int .i64 0,.int .i64 0,.slice none 0 0,.slice none 0 0,.slice none 0 0,.int .i64 0,.slice none 0 0]):=TZ.of Yg
theorem p211:TP Tryz.prog 211 [(0,17)]:=TP.of Tryz.underlying211 Yg Yg
theorem f211_0:TF Tryz.prog 211 0 0:=TF.of Tryz.underlying211 rfl s42 rfl
theorem a212:TA Tryz.prog 212 true:=TA.of Tryz.underlying212 _ rfl
theorem s212:TS Tryz.prog 212 3:=TS.of Yg
theorem z212:TZ Tryz.prog 212 (.agg #[.int .u8 0,.int .u8 0,.int .u8 0]):=TZ.of Yg
theorem a214:TA Tryz.prog 214 true:=TA.of Tryz.underlying214 _ rfl
theorem s214:TS Tryz.prog 214 4:=TS.of Yg
theorem z214:TZ Tryz.prog 214 (.agg #[.int .u8 0,.int .u8 0,.int .u8 0,.int .u8 0]):=TZ.of Yg
theorem a216:TA Tryz.prog 216 true:=TA.of Tryz.underlying216 _ rfl
theorem s216:TS Tryz.prog 216 7:=TS.of Yg
theorem z216:TZ Tryz.prog 216 (.agg #[.int .u8 0,.int .u8 0,.int .u8 0,.int .u8 0,.int .u8 0,.int .u8 0,.int .u8 0]):=TZ.of Yg
theorem p216:TP Tryz.prog 216 [(0,3),(3,4)]:=TP.of Tryz.underlying216 Yg Yg
theorem f216_0:TF Tryz.prog 216 0 0:=TF.of Tryz.underlying216 rfl s212 rfl
theorem f216_1:TF Tryz.prog 216 1 3:=TF.of Tryz.underlying216 rfl s214 rfl
theorem a223:TA Tryz.prog 223 false:=TA.of Tryz.underlying223 _ rfl
theorem s223:TS Tryz.prog 223 1:=TS.of Yg
theorem z223:TZ Tryz.prog 223 (.slice none 0 0):=TZ.of Yg
theorem a230:TA Tryz.prog 230 false:=TA.of Tryz.underlying230 _ rfl
theorem a233:TA Tryz.prog 233 false:=TA.of Tryz.underlying233 _ rfl
theorem a237:TA Tryz.prog 237 false:=TA.of Tryz.underlying237 _ rfl
theorem s237:TS Tryz.prog 237 1:=TS.of Yg
theorem a238:TA Tryz.prog 238 false:=TA.of Tryz.underlying238 _ rfl
theorem s238:TS Tryz.prog 238 1:=TS.of Yg
theorem z240:TZ Tryz.prog 240 (.agg #[.int .i64 0,.slice none 0 0,.int .i64 0,.slice none 0 0,.slice none 0 0,.slice none 0 0,.map none]):=TZ.of Yg
theorem p240:TP Tryz.prog 240 [(0,5),(5,1),(6,1)]:=TP.of Tryz.underlying240 Yg Yg
theorem f240_0:TF Tryz.prog 240 0 0:=TF.of Tryz.underlying240 rfl s32 rfl
theorem f240_1:TF Tryz.prog 240 1 5:=TF.of Tryz.underlying240 rfl s238 rfl
theorem f240_2:TF Tryz.prog 240 2 6:=TF.of Tryz.underlying240 rfl s237 rfl
theorem a244:TA Tryz.prog 244 true:=TA.of Tryz.underlying244 _ rfl
theorem s244:TS Tryz.prog 244 10:=TS.of Yg
theorem z244:TZ Tryz.prog 244 (.agg #[.int .i64 0,.int .i64 0,.int .i64 0,.int .i64 0,.int .i64 0,.int .i64 0,.int .i64 0,.int .i64 0,.int .i64 0,.int .i64 0]):=TZ.of Yg
theorem i244:(Tryz.prog.info? 244).map (fun i=>Nat.ble 1 i.bytes&&Nat.ble i.bytes 4096)=some true:=by kernel_rfl
theorem s247:TS Tryz.prog 247 2:=TS.of Yg
theorem z247:TZ Tryz.prog 247 (.agg #[.int .i64 0,.int .i64 0]):=TZ.of Yg
theorem p247:TP Tryz.prog 247 [(0,1),(1,1)]:=TP.of Tryz.underlying247 Yg Yg
theorem f247_0:TF Tryz.prog 247 0 0:=TF.of Tryz.underlying247 rfl s3 rfl
theorem f247_1:TF Tryz.prog 247 1 1:=TF.of Tryz.underlying247 rfl s3 rfl
theorem a250:TA Tryz.prog 250 false:=TA.of Tryz.underlying250 _ rfl
theorem a251:TA Tryz.prog 251 false:=TA.of Tryz.underlying251 _ rfl
theorem a257:TA Tryz.prog 257 false:=TA.of Tryz.underlying257 _ rfl
theorem s257:TS Tryz.prog 257 1:=TS.of Yg
theorem z259:TZ Tryz.prog 259 (.agg #[.int .i64 0,.int .i64 0,.int .i64 0,.slice none 0 0,.slice none 0 0,.map none]):=TZ.of Yg
theorem p259:TP Tryz.prog 259 [(0,5),(5,1)]:=TP.of Tryz.underlying259 Yg Yg
theorem f259_0:TF Tryz.prog 259 0 0:=TF.of Tryz.underlying259 rfl s36 rfl
theorem f259_1:TF Tryz.prog 259 1 5:=TF.of Tryz.underlying259 rfl s257 rfl
theorem a262:TA Tryz.prog 262 false:=TA.of Tryz.underlying262 _ rfl
theorem a264:TA Tryz.prog 264 false:=TA.of Tryz.underlying264 _ rfl
theorem a266:TA Tryz.prog 266 false:=TA.of Tryz.underlying266 _ rfl
theorem s266:TS Tryz.prog 266 1:=TS.of Yg
theorem z268:TZ Tryz.prog 268 (.agg #[.slice none 0 0,.int .i64 0,.slice none 0 0,.map none]):=TZ.of Yg
theorem p268:TP Tryz.prog 268 [(0,3),(3,1)]:=TP.of Tryz.underlying268 Yg Yg
theorem f268_0:TF Tryz.prog 268 0 0:=TF.of Tryz.underlying268 rfl s40 rfl
theorem f268_1:TF Tryz.prog 268 1 3:=TF.of Tryz.underlying268 rfl s266 rfl
theorem a272:TA Tryz.prog 272 false:=TA.of Tryz.underlying272 _ rfl
theorem s272:TS Tryz.prog 272 1:=TS.of Yg
theorem z272:TZ Tryz.prog 272 (.slice none 0 0):=TZ.of Yg
theorem a274:TA Tryz.prog 274 true:=TA.of Tryz.underlying274 _ rfl
theorem s274:TS Tryz.prog 274 7:=TS.of Yg
theorem a276:TA Tryz.prog 276 true:=TA.of Tryz.underlying276 _ rfl
theorem s276:TS Tryz.prog 276 9:=TS.of Yg
theorem z276:TZ Tryz.prog 276 (.agg #[.int .i64 0,.int .i64 0,.int .i64 0,.int .i64 0,.int .i64 0,.int .i64 0,.int .i64 0,.int .i64 0,.int .i64 0]):=TZ.of Yg
theorem i276:(Tryz.prog.info? 276).map (fun i=>Nat.ble 1 i.bytes&&Nat.ble i.bytes 4096)=some true:=by kernel_rfl
theorem f276_0:TF Tryz.prog 276 0 0:=TF.of Tryz.underlying276 rfl s3 rfl
theorem f276_1:TF Tryz.prog 276 1 1:=TF.of Tryz.underlying276 rfl s3 rfl
theorem f276_2:TF Tryz.prog 276 2 2:=TF.of Tryz.underlying276 rfl s274 rfl
theorem a295:TA Tryz.prog 295 false:=TA.of Tryz.underlying295 _ rfl
theorem a306:TA Tryz.prog 306 false:=TA.of Tryz.underlying306 _ rfl
theorem a308:TA Tryz.prog 308 false:=TA.of Tryz.underlying308 _ rfl
theorem a311:TA Tryz.prog 311 false:=TA.of Tryz.underlying311 _ rfl
theorem a317:TA Tryz.prog 317 true:=TA.of Tryz.underlying317 _ rfl
theorem s317:TS Tryz.prog 317 9:=TS.of Yg
theorem z317:TZ Tryz.prog 317 (.agg #[.int .i64 0,.int .i64 0,.int .i64 0,.int .i64 0,.int .i64 0,.int .i64 0,.int .i64 0,.int .i64 0,.int .i64 0]):=TZ.of Yg
theorem p317:TP Tryz.prog 317 [(0,1),(1,4),(5,4)]:=TP.of Tryz.underlying317 Yg Yg
theorem a319:TA Tryz.prog 319 false:=TA.of Tryz.underlying319 _ rfl
theorem a323:TA Tryz.prog 323 true:=TA.of Tryz.underlying323 _ rfl
theorem s323:TS Tryz.prog 323 8:=TS.of Yg
theorem z323:TZ Tryz.prog 323 (.agg #[.int .i64 0,.int .i64 0,.int .i64 0,.int .i64 0,.int .i64 0,.int .i64 0,.int .i64 0,.int .i64 0]):=TZ.of Yg
theorem p323:TP Tryz.prog 323 [(0,1),(1,7)]:=TP.of Tryz.underlying323 Yg Yg
theorem f323_0:TF Tryz.prog 323 0 0:=TF.of Tryz.underlying323 rfl s3 rfl
theorem f323_1:TF Tryz.prog 323 1 1:=TF.of Tryz.underlying323 rfl s274 rfl
theorem a337:TA Tryz.prog 337 false:=TA.of Tryz.underlying337 _ rfl
theorem s337:TS Tryz.prog 337 1:=TS.of Yg
theorem z340:TZ Tryz.prog 340 (.agg #[.nilFunc]):=TZ.of Yg
theorem p340:TP Tryz.prog 340 [(0,1)]:=TP.of Tryz.underlying340 Yg Yg
theorem f340_0:TF Tryz.prog 340 0 0:=TF.of Tryz.underlying340 rfl s337 rfl
end Tf
end Go.Fs
namespace Go.Fs.C1
structure rQ where
 back:Bool
 many:Int
 num:Int
 deriving DecidableEq
structure dJ where
 places:List Int
 counts:List rQ
 wrong:Int
 off:Int
 deriving DecidableEq
def fL(n lo hi:Int):Bool:=decide (lo≤n)&&decide (n≤hi)
def mO(n:Int):Bool:=fL n 0 2
def lX(len:Nat)(c:rQ):Bool:=fL c.many 0 len&&fL c.num 0 9
def aT(r:dJ):Int:=
 if 9<r.places.length∨6<r.counts.length then 3
 else if r.places.length=0∨fL r.wrong 0 6=false∨fL r.off 0 9=false∨r.places.all mO=false∨r.counts.all (lX r.places.length)=false then 1
 else 0
def iN(l:List Int):Nat:=(l.filter (· ==2)).length
def FY(t p:Int):Bool:=fL t 0 1&&(p==2||t==p)
def mY(r:dJ)(t:List Int):Bool:=(t.length==r.places.length)&&(t.zip r.places).all fun x=>FY x.1 x.2
def dD(l:List Int)(i k:Nat):Int:=((l.drop i).take k).sum
def G4(t:List Int)(c:rQ):Int:=if c.back then dD t (t.length-c.many.toNat) c.many.toNat else dD t 0 c.many.toNat
def gR(t:List Int)(c:rQ):Int:=max (G4 t c-c.num) (c.num-G4 t c)
def dZ(r:dJ)(t:List Int):Bool:=r.counts.all fun c=>decide (gR t c≤r.off)
def nP(r:dJ)(t:List Int):Nat:=(r.counts.filter fun c=>decide (0<gR t c)).length
def cT:List Int→List (List Int)
 | []=>[[]]
 |p::ps=>(if p=2∨p=0 then(cT ps).map (0:: ·)else [])++(if p=2∨p=1 then(cT ps).map (1:: ·)else [])
def fits(r:dJ)(t:List Int):Bool:=dZ r t&&decide ((nP r t:Int)≤r.wrong)
def truths(r:dJ):List (List Int):=(cT r.places).filter (fits r)
def kS(t:List Int)(i j:Nat):Int:=dD t i (j+1-i)
def oY:List Int→Int
 | []=>0
 |x::xs=>xs.foldl min x
def nG:List Int→Int
 | []=>0
 |x::xs=>xs.foldl max x

theorem vT{l:List Int}{i k:Nat}{x:Int}(h:l[i+k]?= some x):dD l i (k+1)=dD l i k+x:=by
 unfold dD;rw[aKL,aMW,h];simp
theorem eY{l:List Int}(hb:∀x∈l,0≤x∧x≤1)(i k:Nat):0≤dD l i k∧dD l i k≤k:=by
 induction k with
 |zero=>simp[dD]
 |succ k ih=>
  cases h:l[i+k]? with
  |none=>
   have:dD l i (k+1)=dD l i k:=by
    unfold dD;rw[aKL,aMW,h];simp
   rw[this];omega
  |some x=>rw[vT h];have:=hb x (aJV h);omega
theorem uL(l:List Int)(i k m:Nat):dD l i (k+m)=dD l i k+dD l (i+k) m:=by
 unfold dD;rw[List.take_add,aGC];simp
def eB(t:List Int):List Int:=t++List.replicate (9-t.length) 0
theorem fA{t:List Int}(h:t.length≤9):(eB t).length=9:=by simp[eB];omega
theorem EX{t:List Int}(h:∀x∈t,0≤x∧x≤1):∀x∈eB t,0≤x∧x≤1:=by
 intro x hx;rcases aKM.1 hx with hx|hx
 ·exact h x hx
 ·rw[(List.mem_replicate.1 hx).2];omega
theorem vH(n:Nat):(List.replicate n (0:Int)).sum=0:=by
 induction n with
 |zero=>rfl
 |succ n ih=>rw[List.replicate_succ,List.sum_cons,ih];rfl
theorem l3(t:List Int)(k:Nat):dD (eB t) 0 k=dD t 0 k:=by
 unfold dD eB;simp only[aOA,List.take_append,List.sum_append,List.take_replicate,vH];omega
def jG(c:List Int):List Int:=(List.range 10).map fun k=>dD c 0 k
def lO(c:List Int)(k:Nat):List Int:=(List.range 10).map fun j=>if j≤k then dD c 0 j else 0
theorem lQ(c:List Int):(jG c).length=10:=by simp[jG]
theorem N1(c:List Int)(k:Nat):(lO c k).length=10:=by simp[lO]
theorem i6(c:List Int):lO c 9=jG c:=by simp[lO,jG,List.range,List.range.loop]
theorem j3(c:List Int)(k:Nat)(h:k<10):(lO c k)[k]?= some (dD c 0 k):=by simp[lO,h]
theorem m4(c:List Int)(k:Nat):(lO c k).set (k+1) (dD c 0 (k+1))=lO c (k+1):=by
 apply aJM;intro j;rw[List.getElem?_set];simp only[lO,aLC];by_cases hj:k+1=j
 ·subst hj;by_cases hk:k+1<10
  ·simp[hk]
  ·simp[hk]
 ·rw[aKO hj];by_cases hk:j<10
  ·simp only[aJD hk,aLK];by_cases h1:j≤k
   ·rw[aKS h1,aKS Yd]
   ·rw[aKO h1,aKO Yd]
  ·simp[hk]
theorem nV(c:List Int)(k:Nat)(h:k<10):(jG c)[k]?= some (dD c 0 k):=by simp[jG,h]
theorem DS(t:List Int):jG (eB t)=jG t:=by simp[jG,l3]

structure oG(r:dJ):Prop where
 len0:0<r.places.length
 len9:r.places.length≤9
 cnt6:r.counts.length≤6
 wrong:0≤r.wrong∧r.wrong≤6
 off:0≤r.off∧r.off≤9
 place:∀p∈r.places,0≤p∧p≤2
 cnt:∀c∈r.counts,0≤c.many∧c.many≤r.places.length∧0≤c.num∧c.num≤9
theorem cG{n lo hi:Int}:fL n lo hi=true ↔ lo≤n∧n≤hi:=by simp[fL]
theorem P9{r:dJ}:aT r=0 ↔ oG r:=by
 unfold aT;constructor
 ·intro h;split at h
  ·cases h
  ·split at h
   ·cases h
   ·rename_i h1 h2;simp only[not_or]at h1 h2;obtain⟨a,b,c,d,e⟩:=h2;simp only[Bool.not_eq_false,aKX,mO,lX,aKG,cG]at b c d e;exact⟨by omega,by omega,by omega,b,c,d,fun x hx=>⟨(e x hx).1.1,(e x hx).1.2,(e x hx).2.1,(e x hx).2.2⟩⟩
 ·intro h;rw[aKO (by have:=h.len9;have:=h.cnt6;omega),aKO]
  simp only[not_or,Bool.not_eq_false,aKX,mO,lX,aKG,cG];exact⟨by have:=h.len0;omega,h.wrong,h.off,h.place,fun x hx=>⟨⟨(h.cnt x hx).1,(h.cnt x hx).2.1⟩,(h.cnt x hx).2.2⟩⟩
def lN(r:dJ)(t:List Int):Prop:=t.length=r.places.length∧∀x∈t,0≤x∧x≤1
def aDV(r:dJ)(t:List Int):Bool:=(t.length==r.places.length)&&t.all (fun x=>fL x 0 1)&&(t.zip r.places).all fun x=>x.2==2||x.1==x.2
theorem wM{α β:Type}{p:α→Bool}:∀{l:List α} {m:List β},l.length=m.length→((l.zip m).all fun x=>p x.1)=l.all p
 | [],[],_=>rfl
 |a::l,b::m,h=>by simp only[aJH,List.all_cons];rw[wM Yan]
theorem ZW(r:dJ)(t:List Int):aDV r t=mY r t:=by
 unfold aDV mY FY;by_cases h:t.length=r.places.length
 ·rw[←wM h];simp only[h,beq_self_eq_true,aNI];rw[aNR];simp only[aKG,aKX];constructor
  ·rintro⟨h1,h2⟩ x hx;exact⟨h1 x hx,h2 x hx⟩
  ·intro h;exact⟨fun x hx=>(h x hx).1,fun x hx=>(h x hx).2⟩
 ·have:(t.length==r.places.length)=false:=by simpa using h
  simp[this]
theorem aAL{r:dJ}{t:List Int}(h:mY r t=true):lN r t:=by
 rw[←ZW]at h;simp only[aDV,aKG,aJK,aKX,cG]at h;exact⟨h.1.1,h.1.2⟩
theorem FB{r:dJ}{t:List Int}{c:rQ}(ht:lN r t)(h0:0≤c.many)(h1:c.many≤r.places.length):
  G4 t c=if c.back then dD t 0 t.length-dD t 0 (t.length-c.many.toNat)else dD t 0 c.many.toNat:=by
 unfold G4;split
 ·have h:=uL t 0 (t.length-c.many.toNat) c.many.toNat;rw[show t.length-c.many.toNat+c.many.toNat=t.length by rw[ht.1];omega,aNB]at h
  omega
 ·rfl
theorem zK{r:dJ}{t:List Int}{c:rQ}(ht:lN r t)(_h0:0≤c.many)(h1:c.many≤r.places.length)(h9:r.places.length≤9):0≤G4 t c∧G4 t c≤9:=by
 unfold G4;split
 ·have:=eY ht.2 (t.length-c.many.toNat) c.many.toNat;omega
 ·have:=eY ht.2 0 c.many.toNat;omega
theorem x9{r:dJ}{t:List Int}{c:rQ}(hr:oG r)(ht:lN r t)(hc:c∈r.counts):0≤gR t c∧gR t c≤9:=by
 obtain⟨a,b,d,e⟩:=hr.cnt c hc;have:=zK ht a b hr.len9;unfold gR;omega

def u9(p:Int)(ps pre:List Int)(k:Nat):List (List Int):=(List.range k).flatMap fun(m:Nat)=>if p=2∨p=(m:Int)then(cT ps).map (fun t=>eB (pre++(m:Int)::t))else []
theorem QP{p:Int}{ps pre:List Int}:u9 p ps pre 0=[]:=rfl
theorem aAF{p:Int}{ps pre:List Int}{k:Nat}(h:¬(p=2∨p=(k:Int))):u9 p ps pre (k+1)=u9 p ps pre k:=by
 unfold u9;rw[aMB,aLE];simp[h]
theorem HU{p:Int}{ps pre:List Int}{k:Nat}(h:p=2∨p=(k:Int)):u9 p ps pre (k+1)=u9 p ps pre k++(cT ps).map (fun t=>eB (pre++[(k:Int)]++t)):=by
 unfold u9;rw[aMB,aLE];simp[h]
theorem GB{p:Int}{ps pre:List Int}:u9 p ps pre 2=(cT (p::ps)).map (fun t=>eB (pre++t)):=by
 by_cases h2:p=2
 ·simp[u9,cT,List.range,List.range.loop,Function.comp_def,h2]
 ·by_cases h0:p=0
  ·simp[u9,cT,List.range,List.range.loop,Function.comp_def,h0]
  ·by_cases h1:p=1
   ·simp[u9,cT,List.range,List.range.loop,Function.comp_def,h1]
   ·have:¬(1:Int)=p:=fun e=>h1 e.symm
    simp[u9,cT,List.range,List.range.loop,h2,h0,h1]
theorem SZ{p:Int}{ps pre:List Int}{k:Nat}(hk:k<2):∃r,u9 p ps pre 2=u9 p ps pre (k+1)++r:=by
 rcases(by omega:k=0∨k=1)with rfl|rfl
 ·refine⟨if p=2∨p=1 then(cT ps).map (fun t=>eB (pre++1::t))else [],?_⟩;simp[u9,List.range,List.range.loop]
 ·exact⟨[],by simp⟩
theorem aFZ{pre c:List Int}{n:Nat}(_h9:c.length=9)(hp:c.take n=pre)(hn:pre.length=n)(hz:c.drop n=List.replicate (9-n) 0):c=eB pre:=by
 rw[←aNU n c,hp,hz];unfold eB;rw[hn]
theorem DP{pre c:List Int}{i n:Nat}{k:Int}(h9:c.length=9)(hi:i<n)(hn:n≤9)(hp:c.take i=pre)(hz:c.drop n=List.replicate (9-n) 0):
  (c.set i k).length=9∧(c.set i k).take (i+1)=pre++[k]∧(c.set i k).drop n=List.replicate (9-n) 0:=by
 refine⟨by simpa using h9,?_,?_⟩
 ·rw[List.take_succ_eq_append_getElem Yad,List.take_set_of_le (aKR _),hp];simp
 ·rw[List.drop_set_of_lt hi,hz]
theorem sD(l:List Int):(cT l).length≤2^l.length:=by
 induction l with
 |nil=>simp[cT]
 |cons p ps ih=>
  simp only[cT,aJZ,aKD,Nat.pow_succ];have:∀(c:Prop) [Decidable c] (f:List Int→List Int),(if c then(cT ps).map f else []).length≤(cT ps).length:=by intro c _ f;split<;>simp
  have h1:=this (p=2∨p=0) (0:: ·);have h2:=this (p=2∨p=1) (1:: ·);omega
theorem mQ{l t:List Int}(h:t∈cT l):t.length=l.length∧∀x∈t,0≤x∧x≤1:=by
 induction l generalizing t with
 |nil=>simp[cT]at h;subst h;simp
 |cons p ps ih=>
  simp only[cT,aKM]at h;rcases h with h|h
  ·split at h
   ·obtain⟨t',ht',rfl⟩:=aJY.1 h;refine⟨by simp[(ih ht').1],fun x hx=>?_⟩;rcases aJX.1 hx with rfl|hx
    ·omega
    ·exact(ih ht').2 x hx
   ·simp at h
  ·split at h
   ·obtain⟨t',ht',rfl⟩:=aJY.1 h;refine⟨by simp[(ih ht').1],fun x hx=>?_⟩;rcases aJX.1 hx with rfl|hx
    ·omega
    ·exact(ih ht').2 x hx
   ·simp at h
theorem tG{places x:List Int}{pre r:List (List Int)}(h:(cT places).map eB=pre++x::r):∃t,(cT places)[pre.length]?= some t∧x=eB t∧t∈cT places∧(cT places).take (pre++[x]).length=(cT places).take pre.length++[t]:=by
 have h1:((cT places).map eB)[pre.length]?= some x:=by rw[h];simp
 rw[aLC,aMP]at h1;obtain⟨t,ht,hx⟩:=h1;refine⟨t,ht,hx.symm,aJV ht,?_⟩;rw[aJZ,aNK,aKL,ht];rfl
def dA(r:dJ)(fine:Bool):Int:=if aT r≠0 then aT r else if fine=false then 2 else if truths r=[]then 11 else 0
def nU(r:dJ)(i j:Int):Bool:=fL i 0 (r.places.length-1)&&fL j i (r.places.length-1)

def TH(ts:List (List Int))(i j:Nat):Int:=oY (ts.map fun t=>kS t i j)
def PD(ts:List (List Int))(i j:Nat):Int:=nG (ts.map fun t=>kS t i j)
theorem I2(l:List Int)(a:Int)(h:l[0]?= some a):l.foldl min a=oY l:=by
 cases l with
 |nil=>simp at h
 |cons x l=>simp at h;subst h;simp[oY]
theorem G5(l:List Int)(a:Int)(h:l[0]?= some a):l.foldl max a=nG l:=by
 cases l with
 |nil=>simp at h
 |cons x l=>simp at h;subst h;simp[nG]
theorem Y5{t:List Int}(hb:∀x∈t,0≤x∧x≤1)(i j:Nat)(hj:j<9):0≤kS t i j∧kS t i j≤9:=by
 unfold kS;have:=eY hb i (j+1-i);omega
def vd(ts:List (List Int))(q:List Int→Bool):Int:=
 match ts with
 | []=>1
 |t0::_=>if(ts.all fun t=>q t==q t0)=true then(if q t0=true then 1 else 2)else 3
theorem PH{ts:List (List Int)}{q:List Int→Bool}{t0:List Int}(h0:ts[0]?= some t0){j:Nat}(hj:ts.length≤j)(h:(ts.take j).all (fun t=>q t==q t0)=true):vd ts q=if q t0=true then 1 else 2:=by
 rw[aLA hj]at h;cases ts with
 |nil=>simp at h0
 |cons x l=>simp at h0;subst h0;simp only[vd];rw[aKS h]
theorem ZE{ts:List (List Int)}{q:List Int→Bool}{t0 t:List Int}(h0:ts[0]?= some t0){j:Nat}(hj:ts[j]?= some t)(h:(!(q t==q t0))=true):vd ts q=3:=by
 cases ts with
 |nil=>simp at h0
 |cons x l=>
  simp only[List.getElem?_cons_zero,aJL]at h0;subst h0;simp only[vd]
  rw[aKO];intro ha;have:=aKX.1 ha t (aJV hj);simp[this]at h
def TL(i:Nat)(t:List Int):Bool:=decide (0<t.getD i 0)
def rG(r:dJ)(i:Nat)(t:List Int):Bool:=match r.counts[i]? with|some c=>decide (gR t c=0)|none=>false
theorem UG{t:List Int}{i:Nat}(h:i<9)(h9:t.length≤9):(eB t)[i]?= some (t.getD i 0):=by
 unfold eB;by_cases hi:i<t.length
 ·rw[aMV hi,aMD,aJT hi];rfl
 ·rw[aJO Yd,List.getElem?_replicate,aKS Yd,aMD,aNE Yd];rfl
theorem tR{r:dJ}{t:List Int}(h:t∈truths r):lN r t:=mQ (List.mem_filter.1 h).1


def iD(r:dJ)(o:Option Int)(t:List Int):Option Int:=if dZ r t=true then some (match o with|none=>(nP r t:Int)|some m=>min m (nP r t))else o
def jV(r:dJ)(us:List (List Int)):Option Int:=us.foldl (iD r) none
theorem qH(r:dJ)(us:List (List Int))(t:List Int):jV r (us++[t])=iD r (jV r us) t:=by simp[jV,aMA]
theorem Y3{r:dJ}{o:Option Int}{t:List Int}{w:Int}(h:∃m,o=some m∧m≤w):∃m,iD r o t=some m∧m≤w:=by
 obtain⟨m,rfl,hm⟩:=h;unfold iD;split
 ·exact⟨_,rfl,by simp only;omega⟩
 ·exact⟨m,rfl,hm⟩
theorem xA{r:dJ}{w:Int}:∀(us:List (List Int)) (o:Option Int),(∃m,o=some m∧m≤w)→∃m,us.foldl (iD r) o=some m∧m≤w
 | [],o,h=>h
 |t::us,o,h=>by rw[aMF];exact xA us _ (Y3 h)
theorem uC{r:dJ}{t:List Int}(he:dZ r t=true):∀(us:List (List Int)) (o:Option Int),t∈us→∃m,us.foldl (iD r) o=some m∧m≤(nP r t:Int)
 |u::us,o,h=>by
  rw[aMF];rcases aJX.1 h with rfl|h
  ·refine xA us _ ?_;unfold iD;rw[aKS he];refine⟨_,rfl,?_⟩;split<;>omega
  ·exact uC he us _ h
theorem N8{r:dJ}{us:List (List Int)}{t:List Int}(h:t∈us):jV r (us++[t])=jV r us:=by
 rw[qH];unfold iD;split
 ·rename_i he;obtain⟨m,hm,hle⟩:=uC he us none h;have:jV r us=some m:=hm;rw[this];simp only;rw[Int.min_eq_left hle]
 ·rfl
theorem QY{t u:List Int}(hl:t.length=u.length)(h:eB t=eB u):t=u:=by
 have:=aKJ (List.take t.length) h;unfold eB at this;rw[aOL,hl,aOL]at this;exact this
def sE(r:dJ)(pre:List (List Int))(g:Option Int×List Int):Prop:=g.1=jV r ((cT r.places).take pre.length)∧g.2.length=9∧∀u,((cT r.places).take pre.length).getLast?= some u→g.2=eB u
theorem BQ{r:dJ}{pre:List (List Int)}{o:Option Int}{last t:List Int}(h:sE r pre (o,last))(ht:t∈cT r.places)(htake:(cT r.places).take (pre++[eB t]).length=(cT r.places).take pre.length++[t])(hc:(o.isSome&&(eB t==last))=true):sE r (pre++[eB t]) (o,last):=by
 obtain⟨h1,h2,h3⟩:=h;simp only[aKG,aJK]at hc;obtain⟨ho,hl⟩:=hc;cases hg:((cT r.places).take pre.length).getLast? with
 |none=>
  rw[List.getLast?_eq_none_iff]at hg;rw[hg]at h1;simp only at h1;rw[h1]at ho;cases ho
 |some u=>
  have hu:=List.mem_of_getLast? hg;have h4:=h3 u hg;simp only at h4;have hut:t=u:=QY (by rw[(mQ ht).1,(mQ (aJP hu)).1]) (by rw[hl,h4]);subst hut;refine⟨?_,h2,fun v hv=>?_⟩
  ·rw[htake,N8 hu];exact h1
  ·rw[htake,List.getLast?_concat]at hv;cases hv;exact h4
theorem JK{r:dJ}{pre:List (List Int)}{o:Option Int}{last t:List Int}(h:sE r pre (o,last))(h9:(eB t).length=9)(htake:(cT r.places).take (pre++[eB t]).length=(cT r.places).take pre.length++[t])
  (hc:(dZ r t&&(!o.isSome||decide ((if dZ r t=true then(nP r t:Int)else 0)<o.getD 0)))=true):sE r (pre++[eB t]) (some (if dZ r t=true then(nP r t:Int)else 0),eB t):=by
 obtain⟨h1,h2,h3⟩:=h;simp only[aKG]at hc;obtain⟨he,hc⟩:=hc;refine⟨?_,h9,fun v hv=>?_⟩
 ·simp only at h1;rw[htake,qH,←h1];simp only[iD,he,aMG]at hc ⊢
  cases o with
  |none=>rfl
  |some m=>
   simp only[Option.isSome_some,aGH,Bool.false_or,aKU,aNL]at hc;simp only;rw[Int.min_eq_right Yd]
 ·rw[htake,List.getLast?_concat]at hv;cases hv;rfl
theorem NS{r:dJ}{pre:List (List Int)}{o:Option Int}{last t:List Int}(h:sE r pre (o,last))(h9:(eB t).length=9)(htake:(cT r.places).take (pre++[eB t]).length=(cT r.places).take pre.length++[t])
  (hc:(dZ r t&&(!o.isSome||decide ((if dZ r t=true then(nP r t:Int)else 0)<o.getD 0)))=false):sE r (pre++[eB t]) (o,eB t):=by
 obtain⟨h1,h2,h3⟩:=h;refine⟨?_,h9,fun v hv=>?_⟩
 ·simp only at h1;rw[htake,qH,←h1];unfold iD;split
  ·rename_i he;simp only[he,aNI,aMG]at hc;cases o with
   |none=>simp at hc
   |some m=>
    simp only[Option.isSome_some,aGH,Bool.false_or,aLW,aNL]at hc;simp only;rw[Int.min_eq_left Yd]
  ·rfl
 ·rw[htake,List.getLast?_concat]at hv;cases hv;rfl
def oS(r:dJ):Int:=if aT r≠0 then 0 else(jV r (cT r.places)).getD 0
def xT(r:dJ):Int:=if aT r≠0 then aT r else if(jV r (cT r.places)).isSome=true then 0 else 10
theorem aFU{r:dJ}{o:Option Int}(ho:o=jV r (cT r.places))(hf:aT r=0)(h:(!o.isSome)=true):oS r=0∧xT r=10:=by
 have hn:o=none:=by simpa using h
 rw[oS,xT,←ho,hn,hf];exact⟨rfl,rfl⟩
theorem AS{r:dJ}{o:Option Int}(ho:o=jV r (cT r.places))(hf:aT r=0)(h:(!o.isSome)=false):oS r=o.getD 0∧xT r=0:=by
 have hn:o.isSome=true:=by simpa using h
 rw[oS,xT,←ho,hf,hn];exact⟨rfl,rfl⟩

end Go.Fs.C1
namespace Go.Fs
open C1
def RC:Rd rQ:=fun _ c cs=>cs=[.bool c.back,.int .i64 c.many,.int .i64 c.num]
theorem RC.up:RC.Up:=fun _ _ _ h=>h
def iV(n:Int):Value:=.int .i64 n
def cV(c:rQ):Value:=.agg #[.bool c.back,.int .i64 c.many,.int .i64 c.num]
def mL(D:aA)(v:Value)(r:dJ):Prop:=∃pv cv,v=.agg #[pv,cv,.int .i64 r.wrong,.int .i64 r.off]∧Sl D RI 1 pv r.places∧Sl D RC 3 cv r.counts
theorem mL.up{D D':aA}{v:Value}{r:dJ}(h:mL D v r)(hl:Le D D'):mL D' v r:=by
 obtain⟨pv,cv,hv,hp,hc⟩:=h;exact⟨pv,cv,hv,hp.up RI.up hl,hc.up RC.up hl⟩
def idxOf{α:Type}(p:α→Bool)(xs:List α):Int:=if xs.any p then(xs.findIdx p:Int)else -1
def RT:Rd (List Int):=fun _ t cs=>cs=ints (eB t)
theorem RT.up:RT.Up:=fun _ _ _ h=>h
def NZ(D:aA)(v:Value)(r:dJ):Prop:=∃b pv cv tv,v=.pointer (some ⟨b,0,none⟩)∧At D b 0 [pv,cv,.int .i64 r.wrong,.int .i64 r.off,tv]∧Sl D RI 1 pv r.places∧Sl D RC 3 cv r.counts∧Sl D RT 9 tv (truths r)
def uY(e:Nat)(r:dJ)(pre:List (List Int))(g:Value×aC):Prop:=bR e 9 g.1 (((cT r.places).take pre.length).filter (fits r)).length ((((cT r.places).take pre.length).filter (fits r)).flatMap fun t=>ints (eB t)) g.2
theorem BB{l:List (List Int)}(h:∀t∈l,t.length≤9):(l.flatMap fun t=>ints (eB t)).length=l.length*9:=by
 induction l with
 |nil=>rfl
 |cons t l ih=>
  rw[aLO,aJZ,ih (fun t ht=>h t (aKA _ ht)),aKD,Fs.aI,fA (h t aKI),aMQ];omega
theorem NX{l:List (List Int)}(h:∀t∈l,t.length≤9){i:Nat}{t:List Int}(hi:l[i]?= some t):((l.flatMap fun t=>ints (eB t)).drop (i*9)).take 9=ints (eB t):=by
 induction l generalizing i with
 |nil=>simp at hi
 |cons u l ih=>
  have hu:(ints (eB u)).length=9:=by rw[Fs.aI,fA (h u aKI)]
  rw[aLO];cases i with
  |zero=>
   obtain rfl:u=t:=by simpa using hi
   rw[aOG,aOA,aLN Yd,aLA Yd]
  |succ i=>
   rw[aOF,aLJ Yd,aLG,hu,show(i+1)*9-9=i*9 by omega];exact ih (fun t ht=>h t (aKA _ ht)) Yal
theorem jJ.truths{D:aA}{v:Value}{n:Nat}{l:List (List Int)}(hF:jJ D v n (l.flatMap fun t=>Fs.ints (eB t)))(hn:l.length=n)(hb:n≤9223372036854775807)(h:∀t∈l,t.length≤9):Sl D RT 9 v l:=
 hF.sl hn hb fun i t hi=>⟨Fs.ints (eB t),rfl,by rw[Fs.aI,fA (h t (aJV hi))],NX h hi⟩
theorem XW{e sz b:Nat}{cells:List Value}(h:cells.length=sz):bR e sz (.slice (some ⟨b,0,none⟩) 1 1) 1 cells [(b,.cells cells.toArray e (0,0))]:=
 aKB ⟨b,1,[],rfl,aKR _,by simp,by omega,by simp;omega⟩
theorem jJ.at{D:aA}{b n cap:Nat}{cells:List Value}(h:jJ D (.slice (some ⟨b,0,none⟩) n cap) n cells)(hn:0<n):At D b 0 cells:=by
 rcases h with⟨a,hv,h0,_⟩|⟨b',cap',hv,_,hA⟩
 ·omega
 ·cases hv;exact hA
end Go.Fs
namespace Go.Fs
variable{P:Program}{X:Cx}{γb:Type}[Membership Nat γb]{bad:γb}{all:Array Oper}{K:Act→World→Prop}{Q:Exit→Act→World→Prop}
variable{σ:bT}{μ:aC}{Ds:List aA}{os:List (Bool×Nat)}{fl:Bool}{ix:Nat}
variable{d:Nat}{x y z:Operand}{u v:Value}{ty:TypeId}{pos:String}{aft:Array Edge}{g:Option (Nat×Bool)}
theorem dT{e:TypeId}{q:IntKind}(hu:P.underlying e=some (.int q)){xs:Array Value}{off:Nat}{v:Value}(hx:xs[off]?= some v)(w:World):(part e xs off).run P w=.ok v w:=
 run_part_plain w (by simp[Program.plainKey,hu]) hx
theorem jF(dp:Nat){e:TypeId}(hu:P.underlying e=some (.int .i64))(l m:List Int)(w:World):∀(is:List Nat),(∀i∈is,i<l.length∧i<m.length)→
  (Op.eqItems (dp+1) e 1 (ints l).toArray (ints m).toArray is).run P w=.ok (is.all fun i=>l[i]? ==m[i]?) w
 | [],_=>by simp[Op.eqItems,Sem.run_pure]
 |i::is,h=>by
  obtain⟨h1,h2⟩:=h i aKI;have g1:(ints l).toArray[i*1]?= some (.int .i64 l[i]):=by rw[aND];simpa using cD (aJT h1)
  have g2:(ints m).toArray[i*1]?= some (.int .i64 m[i]):=by rw[aND];simpa using cD (aJT h2)
  simp only[Op.eqItems,Sem.run_bind,dT hu g1,dT hu g2,run_equalIn_int w dp e .i64 .i64 _ _ hu,Result.andThen_ok,List.all_cons,aJT h1,aJT h2];by_cases he:l[i]=m[i]
  ·simp[he,jF dp hu l m w is (fun j hj=>h j (aKA _ hj))]
  ·simp[he,Sem.run_pure]
theorem rC{l m:List Int}{n:Nat}(hl:l.length=n)(hm:m.length=n):((List.range n).all fun i=>l[i]? ==m[i]?)=(l==m):=by
 rw[aNR];simp only[aKX,aNN,aJK];constructor
 ·intro h;apply aJM;intro i;by_cases hi:i<n
  ·exact h i hi
  ·rw[aNE Yd,aNE Yd]
 ·rintro rfl i _;rfl
theorem EI{t e t':TypeId}{n:Nat}{l m:List Int}(ho:all[ix]?= some ⟨some d,.binOp .eql t x y t',ty,pos,aft,g⟩)(hgt:P.eqGuardType P.depth t=false)(ht:P.underlying t=some (.array n e))(he:P.underlying e=some (.int .i64))(hc:P.cellsOf e=1)
  (hl:l.length=n) (hm:m.length=n) (hx:ev σ x=some (.agg (ints l).toArray)) (hy:ev σ y=some (.agg (ints m).toArray)) (hN:Nat.blt d X.N=true) (hg:cW all σ g)
  (kk:WL P X bad all K Q os ((d,.bool (l==m))::σ) μ Ds):WL P X bad all K Q ((fl,ix)::os) σ μ Ds:=
 vB ho (fun w=>by
  have hgd:(eqGuard .eql t x y (.agg (ints l).toArray) (.agg (ints m).toArray)).run P w=.ok () w:=by
   simp only[eqGuard,program];simp[Sem.run,hgt,go_sem]
  have heq:(Op.equal t (.agg (ints l).toArray) (.agg (ints m).toArray)).run P w=.ok (l==m) w:=by
   obtain⟨i,hi⟩:=info_of_underlying he;have h:=run_equalIn_array (P:=P) w 9999 (ints l).toArray (ints m).toArray ht hi;rw[hc,jF 9998 he l m w (List.range n) (fun j hj=>by have:=aNN.1 hj;omega),rC hl hm]at h
   exact h
  rw[Sem.run_bind,hgd];show((do Pure.pure (Value.bool (←Op.equal t (.agg (ints l).toArray) (.agg (ints m).toArray)))):Sem Value).run P w=_;rw[Sem.run_bind,heq];rfl) hx hy hN hg kk

def K2(P:Program)(k:TypeId):Prop:=P.underlying k=some (.struct (P.fieldsOf k))∧P.stoodInHeld k=false∧
 (P.fieldsOf k).toList.map (fun f=>(f.name== "_",f.offset,P.underlying f.type))=[(false,0,some (.int .i64)),(false,1,some (.int .i64))]
def iP(k:Int×Int):Value:=.agg #[.int .i64 k.1,.int .i64 k.2]
theorem K2.fields{k:TypeId}(h:K2 P k):∃f0 f1,P.underlying k=some (.struct #[f0,f1])∧P.fieldsOf k=#[f0,f1]∧f0.name≠ "_" ∧f1.name≠ "_" ∧f0.offset=0∧f1.offset=1∧P.underlying f0.type=some (.int .i64)∧P.underlying f1.type=some (.int .i64):=by
 obtain⟨h1,h2,h3⟩:=h;generalize hl:(P.fieldsOf k).toList=fs at h3;have h0:=aKJ List.length h3;simp only[aMI,aKD,aLY]at h0;rcases fs with _|⟨f0,_|⟨f1,_|⟨f2,fs⟩⟩⟩<;>simp only[aKD,aLY]at h0<;>try omega
 have he:P.fieldsOf k=#[f0,f1]:=by rw[←Array.toArray_toList (xs:=P.fieldsOf k),hl]
 simp only[aLB,aOC,aLS,aNY,and_true,beq_eq_false_iff_ne]at h3;exact⟨f0,f1,by rw[h1,he],he,h3.1.1,h3.2.1,h3.1.2.1,h3.2.2.1,h3.1.2.2,h3.2.2.2⟩
theorem wI{k:TypeId}(h:K2 P k)(a b:Int×Int)(w:World):(Op.equal k (iP a) (iP b)).run P w=.ok (a==b) w:=by
 obtain⟨a1,a2⟩:=a;obtain⟨b1,b2⟩:=b;obtain⟨f0,f1,hu,hf,n0,n1,o0,o1,t0,t1⟩:=h.fields;have he:=run_equalIn_struct (P:=P) w 9999 k #[.int .i64 a1,.int .i64 a2] #[.int .i64 b1,.int .i64 b2] h.1 h.2.1;show(Op.equalIn (9999+1) k (.agg #[.int .i64 a1,.int .i64 a2]) (.agg #[.int .i64 b1,.int .i64 b2])).run P w=_;rw[he,hf];have p0:∀c1 c2:Int,(part f0.type #[.int .i64 c1,.int .i64 c2] f0.offset).run P w=.ok (.int .i64 c1) w:=fun c1 c2=>dT t0 (by rw[o0];rfl) w
 have p1:∀c1 c2:Int,(part f1.type #[.int .i64 c1,.int .i64 c2] f1.offset).run P w=.ok (.int .i64 c2) w:=fun c1 c2=>dT t1 (by rw[o1];rfl) w
 have e0:=run_equalIn_int w 9998 f0.type .i64 .i64 a1 b1 t0;have e1:=run_equalIn_int w 9998 f1.type .i64 .i64 a2 b2 t1;have s1:(Op.eqFields 9999 #[.int .i64 a1,.int .i64 a2] #[.int .i64 b1,.int .i64 b2] [f1]).run P w=.ok (a2==b2) w:=by
  simp only[Op.eqFields,n1,ne_eq,aNP,aMG,Sem.run_bind,p1,Result.andThen_ok];rw[e1];simp only[Result.andThen_ok];cases a2==b2<;>rfl
 show(Op.eqFields 9999 #[.int .i64 a1,.int .i64 a2] #[.int .i64 b1,.int .i64 b2] (f0::[f1])).run P w=_;rw[Op.eqFields,aKS n0];simp only[Sem.run_bind,p0,Result.andThen_ok];rw[e0];simp only[Result.andThen_ok];by_cases hab:a1=b1
 ·subst hab;simp only[beq_self_eq_true,aGH,aLI,aMN];rw[s1];have:(a2==b2)=((a1,a2)==(a1,b2)):=by rw[aNR];simp
  rw[this]
 ·have hb:(a1==b1)=false:=by simpa using hab
  simp only[hb,aJQ,aMG,Sem.run_pure];simp[hab]
theorem ON{t t':TypeId}{a b:Int×Int}(ho:all[ix]?= some ⟨some d,.binOp .eql t x y t',ty,pos,aft,g⟩)(hgt:P.eqGuardType P.depth t=false)(ht:K2 P t)(hx:ev σ x=some (iP a))(hy:ev σ y=some (iP b))(hN:Nat.blt d X.N=true)(hg:cW all σ g)
  (kk:WL P X bad all K Q os ((d,.bool (a==b))::σ) μ Ds):WL P X bad all K Q ((fl,ix)::os) σ μ Ds:=
 vB ho (fun w=>by
  have hgd:(eqGuard .eql t x y (iP a) (iP b)).run P w=.ok () w:=by
   simp only[eqGuard,iP,program];simp[Sem.run,hgt,go_sem]
  rw[Sem.run_bind,hgd];show((do Pure.pure (Value.bool (←Op.equal t (iP a) (iP b)))):Sem Value).run P w=_;rw[Sem.run_bind,wI ht];rfl) hx hy hN hg kk
theorem Z3{k k':IntKind}{s t:TypeId}{u':TypeDesc}{n:Int}(ho:all[ix]?= some ⟨some d,.convert s t x,ty,pos,aft,g⟩)(hs:P.underlying s=some u')(ht:P.underlying t=some (.int k'))(hx:ev σ x=some (.int k n))(hn:rP k' n)(hN:Nat.blt d X.N=true)(hg:cW all σ g)
  (kk:WL P X bad all K Q os ((d,.int k' n)::σ) μ Ds):WL P X bad all K Q ((fl,ix)::os) σ μ Ds:=
 JY ho (fun w=>by
  simp only[Go.convert,Sem.run_bind,TU.of hs w,TU.of ht w,Result.andThen_ok,Conv.intToInt,kO hn];rfl) hx hN hg kk
theorem bR.shape{e:TypeId}{sz n:Nat}{cells:List Value}{ν:aC}(h:bR e sz v n cells ν):∃a cap,v=.slice a n cap:=by
 rcases h with⟨a,hv,hn,_,_⟩|⟨b,cap,junk,hv,_⟩
 ·exact⟨a,0,by rw[hv,hn]⟩
 ·exact⟨_,cap,hv⟩
theorem Sl.shape{α:Type}{R:Rd α}{D:aA}{sz:Nat}{xs:List α}(h:Sl D R sz v xs):∃a cap,v=.slice a xs.length cap:=by
 obtain⟨a,cap,hv,_⟩:=h;exact⟨a,cap,hv⟩
theorem zV{k:TypeId}(h:K2 P k)(em:Bool)(a:Int×Int)(w:World):(Instr.checkKey em 10000 k (iP a)).run P w=.ok () w:=by
 obtain⟨f0,f1,hu,hf,n0,n1,o0,o1,t0,t1⟩:=h.fields;have p0:(part f0.type #[.int .i64 a.1,.int .i64 a.2] f0.offset).run P w=.ok (.int .i64 a.1) w:=dT t0 (by rw[o0];rfl) w
 have p1:(part f1.type #[.int .i64 a.1,.int .i64 a.2] f1.offset).run P w=.ok (.int .i64 a.2) w:=dT t1 (by rw[o1];rfl) w;have c0:(Instr.checkKey em (9998+1) f0.type (.int .i64 a.1)).run P w=.ok () w:=by
  rw[Instr.checkKey,Sem.run_bind,TU.of t0 w];rfl
 have c1:(Instr.checkKey em (9998+1) f1.type (.int .i64 a.2)).run P w=.ok () w:=by
  rw[Instr.checkKey,Sem.run_bind,TU.of t1 w];rfl
 show(Instr.checkKey em (9999+1) k (.agg #[.int .i64 a.1,.int .i64 a.2])).run P w=_;rw[Instr.checkKey,Sem.run_bind,TU.of hu w];simp only[Result.andThen_ok];rw[←Array.forIn_toList];simp only[List.forIn_cons,List.forIn_nil,n0,n1,ne_eq,aNP,aMG,Sem.run_bind,p0,Result.andThen_ok,Sem.run_pure];rw[c0];simp only[Result.andThen_ok,Sem.run_pure,Sem.run_bind,p1];rw[c1];simp[Sem.run_pure,Result.andThen_ok]
theorem pY{t:TypeId}(ho:all[ix]?= some ⟨some d,.makeMap t none,ty,pos,aft,g⟩)(hN:Nat.blt d X.N=true)(hg:cW all σ g)
  (kk:∀b,WL P X bad all K Q os ((d,.map (some b))::σ) ((b,.map #[] 0)::μ) Ds):WL P X bad all K Q ((fl,ix)::os) σ μ Ds:=by
 refine dN ho rfl rfl hg fun a w hh=>?_
 obtain⟨h1,h2,h3,D,h4,h5,h6⟩:=id hh;have:(execOp a.eval ⟨some d,.makeMap t none,ty,pos,aft,g⟩).run P w=.ok (.value (.map (some w.heap.size))) {w with heap:=w.heap.push (.map #[] 0)}:=rfl;rw[this];exact⟨fun _=>lK _ _ _,kk _ _ _ (Hl.put ⟨h1,h2,h3,D,h4.push _ (show cK (.map #[] 0)from aGL),h5,h6.step (fun _ p hp=>by rcases aJX.1 hp with rfl|hp;exact Or.inr (aKR _);exact Or.inl (aJY.2 ⟨p,hp,rfl⟩)) (fun _=>wZ _ _) (h4.push _ (show cK (.map #[] 0)from aGL)).dom⟩ hN _)⟩
theorem gJ{w:World}{r:Nat}{es:Array MapEntry}{clock:Nat}(h:w.heap[r]?= some (.map es clock)):(getObj r).run P w=.ok (.map es clock) w:=by
 simp[getObj,Sem.run,h]

theorem aCS{t t':TypeId}{m n:Int}{k:IntKind}(ho:all[ix]?= some ⟨some d,.binOp .shl t x y t',ty,pos,aft,g⟩)(hx:ev σ x=some (.int .i64 m))(hy:ev σ y=some (.int k n))(h0:0≤n)(h1:n<64)(hr:rP .i64 (m*2^n.toNat))(hN:Nat.blt d X.N=true)(hg:cW all σ g)
  (kk:WL P X bad all K Q os ((d,.int .i64 (m*2^n.toNat))::σ) μ Ds):WL P X bad all K Q ((fl,ix)::os) σ μ Ds:=
 bL ho rfl rfl hN hg (fun ρ hρ w'=>by
  have hn:min n.toNat IntKind.i64.bits=n.toNat:=by have:IntKind.i64.bits=64:=rfl;omega
  have h0':¬n<0:=by omega
  have hs:(binOp .shl t (.int .i64 m) (.int k n)).run P w'=.ok (.int .i64 (m*2^n.toNat)) w':=by
   show(Op.shift .shl .i64 m k n).run P w'=_;unfold Op.shift;rw[aKO h0'];simp only[hn,kO hr,Sem.run_pure]
  have hg:∀w,(eqGuard .shl t x y (.int .i64 m) (.int k n)).run P w=.ok () w:=fun w=>rfl
  simp only[execOp,hρ x _ hx,hρ y _ hy,Sem.run_bind,hg,Result.andThen_ok,hs,Sem.run_pure]) kk

def YY(X:Cx)(b:Nat)(post:aA→Value→Obj→Prop):Ending→World→Prop:=fun e w'=>∃v D' o',e=.returned v∧fN X.h0 X.lo X.D0 X.mods [(b,o')] D' w'∧post D' v o'
theorem dP{fn:Func}{b:Nat}{o':Obj}{post:aA→Value→Obj→Prop}{e:Exit}(he:(match e with|.normal=>true|.ret=>true|_=>false)=true){rs:List ResultVar}{vs:List Value}(hds:X.ds=[])(hr:fn.results=rs.toArray)(h:rN P X σ μ rs vs)
  (hm:(b,o')∈μ) (hp:∀D,(∀D₁∈Ds,Le D₁ D)→post D (nY vs) o'):∀a w,Hl X σ μ Ds a w→bodyPost P fn (YY X b post) e a w:=by
 intro a w hh;have hrun:=fQ hh hr h;obtain⟨h1,h2,h3,D,h4,h5,h6⟩:=hh;have:a.defers=[]∧∃v,(results fn a.tmps).run P w=.ok v w∧YY X b post (.returned v) w:=⟨h3.trans hds,_,hrun,_,D,o',rfl,h4.sub (fun p hp=>by rw[aKQ.1 hp];exact hm) Ye,hp D h5⟩
 cases e<;>first|exact this|cases he
theorem B8{t t':TypeId}{n:Nat}(ho:all[ix]?= some ⟨some d,.binOp .shl t x y t',ty,pos,aft,g⟩)(hx:ev σ x=some (.int .i64 1))(hy:ev σ y=some (.int .i64 (n:Int)))(h1:n<62)(hN:Nat.blt d X.N=true)(hg:cW all σ g)
  (kk:WL P X bad all K Q os ((d,.int .i64 ((2^n:Nat):Int))::σ) μ Ds):WL P X bad all K Q ((fl,ix)::os) σ μ Ds:=by
 have h2:(2:Nat)^n<2^62:=Nat.pow_lt_pow_right Yd h1;have e:(1:Int)*2^(n:Int).toNat=((2^n:Nat):Int):=by simp
 have hr:rP .i64 ((1:Int)*2^(n:Int).toNat):=by
  rw[e];generalize (2:Nat)^n=q at h2;simp only[rP];omega
 refine aCS ho hx hy Yd Yd hr hN hg ?_;rw[e];exact kk
end Go.Fs
namespace Go.Fs
variable{P:Program}{X:Cx}{γb:Type}[Membership Nat γb]{bad:γb}{all:Array Oper}{K:Act→World→Prop}{Q:Exit→Act→World→Prop}
variable{σ:bT}{μ:aC}{Ds:List aA}{os:List (Bool×Nat)}{fl:Bool}{ix:Nat}
variable{d:Nat}{x y z:Operand}{u v:Value}{ty:TypeId}{pos:String}{aft:Array Edge}{g:Option (Nat×Bool)}
def BJ(P:Program)(f:FuncId)(args:Array Value)(D:aA)(post:aA→Value→aC→Prop):Prop:=
 EF P f∧∀w,dS D w→Calls P f args w fun e w'=>∃v D' ν,e=.returned v∧fN (hd w) w.heap.size D [] ν D' w'∧post D' v ν
theorem mC{f:FuncId}{fn:Func}{c:Code}{args:List Value}{D:aA}{post:aA→Value→aC→Prop}(N:Nat)(hf:P.funcs[f]?= some fn)(hn:(fn.name== "runtime.NumGoroutine")=false)(hb:fn.body=some c)(hN:fn.ntmps=N)(hsz:Nat.ble args.length N=true)
  (h:∀h0:H0,WC P ⟨none,N,[],h0,h0.size,D,[],none⟩ (bodyPost P fn (mA ⟨none,N,[],h0,h0.size,D,[],none⟩ post)) c (gF 0 args) [] [D]):BJ P f args.toArray D post:=by
 refine⟨EF.of hf hn hb,fun w hw=>?_⟩;subst hN;have hsz:=aME hsz;refine(cX (r:=none) (n:=0)).1 ((callsIn_of_wp (R:=mA ⟨none,fn.ntmps,[],hd w,w.heap.size,D,[],none⟩ post) hf hb aGL (h (hd w) _ w ⟨?_,fun s v hs=>?_,rfl,D,⟨aKR _,aKR _,fun _ _ _=>rfl,fun _ _=>rfl,hw,(fun p hp=>by cases hp),aMC,(fun p hp=>by cases hp),fun e he=>aKZ he⟩,fun D₁ h1=>?_,aGL⟩) rfl).mono ?_)
 ·simp;omega
 ·obtain⟨_,h2⟩:=eD args 0 s v hs;have hl:=(aKH.1 h2).1;simp only[aNZ]at h2 hl;show(args.toArray++_)[s]?= some v;rw[aMS Yao];simpa using h2
 ·simp only[aKQ]at h1;subst h1;exact Le.refl _
 ·rintro e w' ⟨v,D',μ',rfl,hs,hp⟩;exact⟨v,D',μ',rfl,hs,hp⟩
theorem fN.afterO{h0:H0}{lo:Nat}{D0 D D':aA}{mods:List Nat}{μ ν:aC}{w w':World}(h:fN h0 lo D0 mods μ D w)(hs:fN (hd w) w.heap.size D [] ν D' w'):fN h0 lo D0 mods (ν++μ) D' w':=by
 have h1:=h.after (hs.sub (μ':=[]) (fun p hp=>by cases hp) aMC);have hge:∀p∈ν,w.heap.size≤p.1:=fun p hp=>(hs.box p hp).2.2.resolve_right Ye
 refine⟨h1.hlo,h1.size,h1.old,h1.dold,h1.agr,fun p hp=>?_,?_,(fun p hp=>by rcases aKM.1 hp with hp|hp;exact hs.fz p hp;exact h.fz p hp),h1.env⟩
 ·rcases aKM.1 hp with hp|hp
  ·obtain⟨a,b,_⟩:=hs.box p hp;exact⟨a,b,aKP (aMU h.size (hge p hp))⟩
  ·exact h1.box p hp
 ·rw[aKN,aKE];refine⟨hs.nd,h.nd,fun a ha b hb=>?_⟩;obtain⟨p,hp,rfl⟩:=aJY.1 ha;obtain⟨q,hq,rfl⟩:=aJY.1 hb;have:=hge p hp;have:=bC (h.box q hq).1;omega
theorem eZ{c:Operand}{xs:Array Operand}{ats:Array TypeId}{f:FuncId}{c1 c2:List Value}{vs:List Value}{post:aA→Value→aC→Prop}(ho:all[ix]?= some ⟨some d,.call {callee:=.value c,args:=xs,argTypes:=ats},ty,pos,aft,g⟩)(hc:ev σ c=some (.func (.func f) c1.toArray c2.toArray))(hxs:H8 σ xs.toList=some vs)
  (hf:∀D,(∀D₁∈Ds,Le D₁ D)→BJ P f (c1++vs++c2).toArray D post) (hN:Nat.blt d X.N=true) (hg:cW all σ g)
  (kk:∀v D ν,(∀D₁∈Ds,Le D₁ D)→post D v ν→WL P X bad all K Q os ((d,v)::σ) (ν++μ) (D::Ds)):
  WL P X bad all K Q ((fl,ix)::os) σ μ Ds:=by
 refine dN ho rfl rfl hg fun a w hh=>?_
 obtain⟨h1,h2,h3,D,h4,h5,h6⟩:=id hh;have hF:=hf D h5;rw[pN hF.1 (hh.eval hc) (hU (fun _ _ hx=>hh.eval hx) hxs)];refine⟨fun h=>by simp[FW]at h,cX.2 ((hF.2 w h4.agr).mono ?_)⟩;rintro e w' ⟨v,D',ν,rfl,hs,hpost⟩;have hle:=eV h4.agr hs;refine⟨fun _=>hs.keep bad,kk v D' ν (fun D₁ hD₁=>(h5 D₁ hD₁).trans hle) hpost _ _ ?_⟩;refine Hl.put ⟨h1,h2,h3,D',h4.afterO hs,fun D₁ hD₁=>?_,h6.step (fun _ p hp=>?_) (fun _=>hs.low _) (h4.afterO hs).dom⟩ hN v
 ·rcases aJX.1 hD₁ with rfl|hD₁
  ·exact Le.refl _
  ·exact(h5 D₁ hD₁).trans hle
 ·rcases aKM.1 hp with hp|hp
  ·exact aKB ((hs.box p hp).2.2.resolve_right Ye)
  ·exact aKP (aJY.2 ⟨p,hp,rfl⟩)
theorem eG{t e:TypeId}{sz b o n cap:Nat}{k:IntKind}{i:Int}(ho:all[ix]?= some ⟨some d,.indexAddr t x y,ty,pos,aft,g⟩)(ht:P.underlying t=some (.slice e))(hs:TS P e sz)(hx:ev σ x=some (.slice (some ⟨b,o,none⟩) n cap))
  (hy:ev σ y=some (.int k i)) (h0:0≤i) (hi:i<n) (hN:Nat.blt d X.N=true) (hg:cW all σ g)
  (kk:WL P X bad all K Q os ((d,.pointer (some ⟨b,o+i.toNat*sz,none⟩))::σ) μ Ds):WL P X bad all K Q ((fl,ix)::os) σ μ Ds:=
 bL ho rfl rfl hN hg (fun ρ hρ w'=>by
  simp only[execOp,hρ x _ hx,hρ y _ hy];unfold Instr.indexAt asIntOf;simp only[Sem.run_bind,TU.of ht w',Result.andThen_ok,hs w',Sem.run_pure,pure_bind,h0,hi,aJG,aMG,eK]) kk
theorem bR.some{e:TypeId}{sz n:Nat}{cells:List Value}{ν:aC}(h:bR e sz v n cells ν)(hn:0<n):∃b cap junk,v=.slice (some ⟨b,0,none⟩) n cap∧n≤cap∧ν=[(b,.cells (cells++junk).toArray e (0,0))]∧cells.length=n*sz∧(cells++junk).length=cap*sz:=by
 rcases h with⟨_,_,h0,_⟩|h
 ·omega
 ·exact h
end Go.Fs
namespace Go.Fs
namespace C2
open C1 (fL cG oY nG)
structure Mk where
 frm:Int
 to:Int
 lo:Int
 hi:Int
deriving DecidableEq
structure bA where
 last:Int
 heights:List (Int×Int)
 step:Int
 levels:List Int
 marks:List Mk
def eE(n:Int):Bool:=fL n 0 99
def fZ(r:Int×Int):Bool:=decide (r.1≤r.2)&&eE r.1&&eE r.2
def eW(r:Int×Int):Int:=r.2-r.1+1
def T9(last n:Int):Bool:=fL n 0 last
def nS(last a b:Int):Bool:=T9 last a&&T9 last b&&decide (a≤b)
def pQ(last:Int)(m:Mk):Bool:=nS last m.frm m.to&&fZ (m.lo,m.hi)
def lV(hs:List (Int×Int)):Int:=hs.foldl (fun(m:Int) r=>min (m*eW r) 2001) 1
def jM(step:Int)(p:Option Int)(n:Int):Bool:=match p with
 |none=>true
 |some q=>fL (n-q) (-step) step
def fY(step:Int):List (Int×Int)→Option Int→List (List Int)
 | [],_=>[[]]
 |r::rs,p=>(List.range (eW r).toNat).flatMap fun(k:Nat)=>if jM step p (r.1+k)=true then(fY step rs (some (r.1+k))).map (fun l=>(r.1+(k:Int))::l)else []
def fF(t:bA):List (List Int):=fY t.step t.heights none
def VI(t:bA):Bool:=decide (t.last>9)||decide ((t.levels.length:Int)>6)||decide ((t.marks.length:Int)>5)
def aCE(t:bA):Bool:=decide (0≤t.last)&&decide ((t.heights.length:Int)=t.last+1)&&t.heights.all fZ&&eE t.step&&t.levels.all eE&&t.marks.all (pQ t.last)
def aT(t:bA):Int:=if VI t=true then 3 else if aCE t=false then 1 else if 2000<lV t.heights then 3 else if fF t=[]then 9 else 0
def jA(s:List Int)(a b:Int):Int:=nG ((s.drop a.toNat).take (b+1-a).toNat)
def kY(t:bA)(s:List Int):Bool:=t.marks.all fun m=>fL (jA s m.frm m.to) m.lo m.hi
def xN(t:bA)(acc:List (List Int))(s:List Int):List (List Int):=if kY t s=false∨acc.getLast?= some s then acc else acc++[s]
def bI(t:bA):List (List Int):=(fF t).foldl (xN t) []
def jH(t:bA)(fine:Bool):Int:=if aT t≠0 then aT t else if fine=false then 2 else if bI t=[]then 11 else 0
def aDH(s:List Int)(i:Nat):Int:=s.getD i 0
def qX(t:bA)(i:Nat):Int×Int:=(oY ((bI t).map (aDH · i)),nG ((bI t).map (aDH · i)))
def qU(s:List Int)(level:Int):Int:=((s.takeWhile fun n=>decide (n≤level)).length:Int)
def PB(t:bA)(level:Int):Int×Int:=(oY ((bI t).map (qU · level)),nG ((bI t).map (qU · level)))
def aCR(t:bA)(a b:Int):Int:=nG ((bI t).map (jA · a b))
def cJ(l:List Int):List Int:=l++List.replicate (10-l.length) 0
theorem eC{l:List Int}(h:l.length≤10):(cJ l).length=10:=by simp[cJ];omega
theorem CN{c l:List Int}(h2:c.take l.length=l)(h3:c.drop l.length=List.replicate (10-l.length) 0):cJ l=c:=by
 unfold cJ;rw[←h3]
 conv=>rhs;rw[←aNU l.length c,h2]
def BK(step:Int)(rs:List (Int×Int))(pre:List Int)(r:Int×Int)(k:Nat):List (List Int):=(List.range k).flatMap fun(m:Nat)=>if jM step pre.getLast? (r.1+m)=true then(fY step rs (some (r.1+m))).map (fun t=>cJ (pre++(r.1+(m:Int))::t))else []
theorem TE{step:Int}{rs:List (Int×Int)}{pre:List Int}{r:Int×Int}:BK step rs pre r 0=[]:=rfl
theorem aAT{step:Int}{rs:List (Int×Int)}{pre:List Int}{r:Int×Int}{k:Nat}(h:jM step pre.getLast? (r.1+k)=false):BK step rs pre r (k+1)=BK step rs pre r k:=by
 unfold BK;rw[aMB,aLE,aLR,aKO (by simp[h]),aKF]
theorem GN{step:Int}{rs:List (Int×Int)}{pre:List Int}{r:Int×Int}{k:Nat}(h:jM step pre.getLast? (r.1+k)=true):BK step rs pre r (k+1)=BK step rs pre r k++(fY step rs ((pre++[r.1+(k:Int)]).getLast?)).map (fun t=>cJ ((pre++[r.1+(k:Int)])++t)):=by
 unfold BK;rw[aMB,aLE,aLR,aKS h,List.getLast?_concat];simp
theorem GX{step:Int}{rs:List (Int×Int)}{pre:List Int}{r:Int×Int}:BK step rs pre r (eW r).toNat=(fY step (r::rs) pre.getLast?).map (fun t=>cJ (pre++t)):=by
 unfold BK;simp only[fY];rw[List.map_flatMap]
 congr 1;funext m
 split<;>simp
theorem TO{step:Int}{rs:List (Int×Int)}{pre:List Int}{r:Int×Int}{k n:Nat}(hk:k<n):∃rr,BK step rs pre r n=BK step rs pre r (k+1)++rr:=by
 refine⟨((List.range n).drop (k+1)).flatMap fun(m:Nat)=>if jM step pre.getLast? (r.1+m)=true then(fY step rs (some (r.1+m))).map (fun t=>cJ (pre++(r.1+(m:Int))::t))else [],?_⟩;unfold BK;rw[←aLE];congr 1;have h:=aNU (k+1) (List.range n);rw[List.take_range,aOI Yd]at h;exact h.symm
theorem G0{step:Int}:∀(rs:List (Int×Int)) (p:Option Int) (t:List Int),t∈fY step rs p→t.length=rs.length
 | [],p,t,h=>by simp[fY]at h;subst h;rfl
 |r::rs,p,t,h=>by
  simp only[fY,aJR,aNN]at h;obtain⟨m,hm,h⟩:=h;split at h
  ·obtain⟨u,hu,rfl⟩:=aJY.1 h;rw[aKD,G0 rs _ u hu,aKD]
  ·cases h
theorem X0{step:Int}:∀(rs:List (Int×Int)) (p:Option Int) (t:List Int),(∀r∈rs,fZ r=true)→t∈fY step rs p→∀x∈t,0≤x∧x≤99
 | [],p,t,_,h=>by simp[fY]at h;subst h;intro x hx;cases hx
 |r::rs,p,t,hr,h=>by
  simp only[fY,aJR,aNN]at h;obtain⟨m,hm,h⟩:=h;split at h
  ·obtain⟨u,hu,rfl⟩:=aJY.1 h;intro x hx;rcases aJX.1 hx with rfl|hx
   ·have h1:=hr r aKI;unfold fZ eE at h1;simp only[aKG,aKU,cG]at h1;unfold eW at hm;omega
   ·exact X0 rs _ u (fun q hq=>hr q (aKA _ hq)) hu x hx
  ·cases h
structure j2(t:bA):Prop where
 last:0≤t.last∧t.last≤9
 len:(t.heights.length:Int)=t.last+1
 step:0≤t.step∧t.step≤99
 hts:∀r∈t.heights,fZ r=true
 lev:t.levels.length≤6
 levs:∀n∈t.levels,0≤n∧n≤99
 mks:t.marks.length≤5
 mark:∀m∈t.marks,pQ t.last m=true
theorem aEB{t:bA}(h1:VI t=false)(h2:aCE t=true):j2 t:=by
 unfold VI at h1;unfold aCE eE at h2;simp only[aMM,aLW]at h1;simp only[aKG,aKU,aKX,cG]at h2;obtain⟨⟨⟨⟨⟨h3,h4⟩,h5⟩,h6⟩,h7⟩,h8⟩:=h2;exact⟨by omega,h4,h6,h5,by omega,h7,by omega,h8⟩
theorem T0{t:bA}(h:aT t=0):j2 t:=by
 unfold aT at h;split at h
 ·omega
 ·rename_i h1;split at h
  ·omega
  ·rename_i h2;exact aEB (by simpa using h1) (by simpa using h2)
theorem j2.len10{t:bA}(h:j2 t):t.heights.length≤10:=by have:=h.len;have:=h.last;omega

theorem RO{s:List Int}{a k:Nat}(h:a+k≤s.length):((cJ s).drop a).take k=(s.drop a).take k:=by
 unfold cJ;rw[List.drop_append_of_le_length Yd,aLN Yad]
theorem sQ{s:List Int}{a b:Int}(h0:0≤a)(h1:a≤b)(h2:b<s.length):jA (cJ s) a b=jA s a b:=by
 unfold jA;rw[RO Yd]
theorem IX{last:Int}{m:Mk}(h:pQ last m=true):0≤m.frm∧m.frm≤m.to∧m.to≤last∧0≤m.lo∧m.lo≤m.hi∧m.hi≤99:=by
 unfold pQ nS T9 fZ eE at h;simp only[aKG,aKU,cG]at h;omega
theorem IF{t:bA}(ht:j2 t){s:List Int}(hs:(s.length:Int)=t.last+1):kY t (cJ s)=kY t s:=by
 unfold kY;rw[aNR,aKX,aKX];constructor<;>intro h m hm<;>have h1:=IX (ht.mark m hm)<;>have h2:=h m hm
 ·rwa [sQ Yd Yd Yd]at h2
 ·rwa [sQ Yd Yd Yd]
theorem EQ{l:List (List Int)}{pre us:List (List Int)}{x:List Int}(h:l.map cJ=pre++x::us):∃s,l[pre.length]?= some s∧x=cJ s∧s∈l∧l.take (pre.length+1)=l.take pre.length++[s]:=by
 have h1:(l.map cJ)[pre.length]?= some x:=by rw[h];simp
 rw[aLC]at h1;obtain⟨s,hs,hx⟩:=aMP.1 h1;exact⟨s,hs,hx.symm,aJV hs,by rw[aKL,hs];rfl⟩
def gT(t:bA)(k:Nat):List (List Int):=((fF t).take k).foldl (xN t) []
theorem wY(t:bA){k:Nat}(h:(fF t).length≤k):gT t k=bI t:=by unfold gT bI;rw[aLA h]
theorem U6{t:bA}{k:Nat}{s:List Int}(h:(fF t).take (k+1)=(fF t).take k++[s]):gT t (k+1)=xN t (gT t k) s:=by
 unfold gT;rw[h,aMA];rfl
theorem RK{t:bA}{acc:List (List Int)}{s:List Int}:∀u∈xN t acc s,u∈acc∨u=s:=by
 intro u hu;unfold xN at hu
 split at hu
 ·exact aKP hu
 ·simpa using hu
theorem S4{t:bA}:∀(l acc:List (List Int)),∀u∈l.foldl (xN t) acc,u∈acc∨u∈l
 | [],acc,u,h=>aKP h
 |s::l,acc,u,h=>by
  rcases S4 l (xN t acc s) u h with h|h
  ·rcases RK u h with h|rfl
   ·exact aKP h
   ·exact aKB aKI
  ·exact aKB (aKA _ h)
theorem T1{t:bA}:∀(l acc:List (List Int)),(l.foldl (xN t) acc).length≤acc.length+l.length
 | [],acc=>by simp
 |s::l,acc=>by
  have h1:=T1 (t:=t) l (xN t acc s);have h2:(xN t acc s).length≤acc.length+1:=by
   unfold xN;split
   ·omega
   ·simp
  rw[aMF,aKD];omega
theorem xE{t:bA}{k:Nat}{u:List Int}(h:u∈gT t k):u∈fF t:=by
 rcases S4 _ _ u h with h|h
 ·cases h
 ·exact aJP h
theorem u7(t:bA)(k:Nat):(gT t k).length≤(fF t).length:=by
 have h1:=T1 (t:=t) ((fF t).take k) [];have h2:=aOP k (fF t);rw[aMJ]at h1;unfold gT;simp only[aLY]at h1;omega
def oD:List (Int×Int)→Int
 | []=>1
 |r::l=>eW r*oD l
theorem R1:∀(l:List (Int×Int)) (m:Int),(∀r∈l,fZ r=true)→0≤m→l.foldl (fun(m:Int) r=>min (m*eW r) 2001) m≤2000→m*oD l≤2000∧1≤oD l
 | [],m,_,_,h=>by simpa [oD]using h
 |r::l,m,hr,hm,h=>by
  have h1:1≤eW r:=by
   have h1:=hr r aKI;unfold fZ eE at h1;simp only[aKG,aKU,cG]at h1;unfold eW;omega
  have h2:0≤m*eW r:=Int.mul_nonneg hm Yd;rw[aMF]at h;obtain⟨h3,h4⟩:=R1 l (min (m*eW r) 2001) (fun q hq=>hr q (aKA _ hq)) Yd h;have h5:1≤eW r*oD l:=by
   have:=Int.mul_le_mul h1 h4 Yd Yd;omega
  refine⟨?_,h5⟩;show m*(eW r*oD l)≤2000;rw[←Int.mul_assoc];by_cases hc:m*eW r≤2001
  ·rwa [Int.min_eq_left hc]at h3
  ·rw[Int.min_eq_right Yd]at h3;omega
theorem iW{α β:Type}{f:α→List β}{n:Nat}:∀(l:List α),(∀x∈l,(f x).length≤n)→(l.flatMap f).length≤l.length*n
 | [],_=>by simp
 |x::l,h=>by
  have h1:=iW l fun y hy=>h y (aKA _ hy)
  have h2:=h x aKI;rw[aLO,aJZ,aKD,aMQ];omega
theorem rF{step:Int}:∀(rs:List (Int×Int)) (p:Option Int),(∀r∈rs,fZ r=true)→1≤oD rs∧((fY step rs p).length:Int)≤oD rs
 | [],p,_=>by simp[fY,oD]
 |r::rs,p,hr=>by
  have h1:1≤eW r:=by
   have h1:=hr r aKI;unfold fZ eE at h1;simp only[aKG,aKU,cG]at h1;unfold eW;omega
  have h2:=rF (step:=step) rs none fun q hq=>hr q (aKA _ hq)
  have h3:(fY step (r::rs) p).length≤(List.range (eW r).toNat).length*(oD rs).toNat:=by
   simp only[fY];refine iW _ fun k _=>?_
   split
   ·rw[aMI];have:=(rF (step:=step) rs (some (r.1+(k:Int))) fun q hq=>hr q (aKA _ hq)).2;omega
   ·exact aGD _
  rw[List.length_range]at h3;have h4:(((eW r).toNat*(oD rs).toNat:Nat):Int)=eW r*oD rs:=by
   rw[Int.natCast_mul,Int.toNat_of_nonneg Yd,Int.toNat_of_nonneg Yd]
  have h5:=Int.mul_le_mul h1 h2.1 Yd Yd;refine⟨?_,?_⟩
  ·show 1≤eW r*oD rs;omega
  ·show _≤eW r*oD rs;rw[←h4];exact Int.ofNat_le.2 h3
theorem p6{t:bA}(h:aT t=0):lV t.heights≤2000:=by
 unfold aT at h;split at h
 ·omega
 ·split at h
  ·omega
  ·split at h
   ·omega
   ·omega
theorem zH{t:bA}(h:aT t=0):(fF t).length≤2000:=by
 have h1:=T0 h;have h2:=(rF (step:=t.step) t.heights none h1.hts).2;have h3:=(R1 t.heights 1 h1.hts Yd (p6 h)).1;show(fY t.step t.heights none).length≤2000;omega
theorem lH{t:bA}{s:List Int}(h:s∈fF t):s.length=t.heights.length:=G0 _ _ _ h
def uN(l:List (List Int))(last:Int)(S:List (Int×Int)):Prop:=∀p,p∈S ↔∃s∈l,∃j:Nat,(j:Int)≤last∧p=((j:Int),s.getD j 0)
theorem uN.nil{last:Int}:uN [] last []:=fun p=>by simp
end C2
open C1 C2
def p4:Rd Mk:=fun _ m cs=>cs=[.int .i64 m.frm,.int .i64 m.to,.int .i64 m.lo,.int .i64 m.hi]
theorem p4.up:p4.Up:=fun _ _ _ h=>h
def zX:Rd (Int×Int):=fun _ p cs=>cs=[.int .i64 p.1,.int .i64 p.2]
theorem zX.up:zX.Up:=fun _ _ _ h=>h
def aCD(m:Mk):Value:=.agg #[.int .i64 m.frm,.int .i64 m.to,.int .i64 m.lo,.int .i64 m.hi]
def gL(D:aA)(v:Value)(t:bA):Prop:=∃hv lv mv,v=.agg #[.int .i64 t.last,hv,.int .i64 t.step,lv,mv]∧Sl D zX 2 hv t.heights∧Sl D RI 1 lv t.levels∧Sl D p4 4 mv t.marks
def P2:Rd (List Int):=fun _ l cs=>cs=ints (cJ l)
theorem P2.up:P2.Up:=fun _ _ _ h=>h
def uW(l:List (List Int)):List Value:=l.flatMap fun s=>ints (cJ s)
theorem AN{l:List (List Int)}(h:∀s∈l,s.length≤10):(uW l).length=l.length*10:=by
 induction l with
 |nil=>rfl
 |cons c l ih=>
  have:=ih fun s hs=>h s (aKA _ hs)
  unfold uW at this ⊢
  rw[aLO,aJZ,this,aI,eC (h c aKI),aKD];omega
theorem m2{l:List (List Int)}(h:∀s∈l,s.length≤10){i:Nat}{s:List Int}(hi:l[i]?= some s)(junk:List Value):((uW l++junk).drop (i*10)).take 10=ints (cJ s):=by
 induction l generalizing i with
 |nil=>simp at hi
 |cons d l ih=>
  have h9:(ints (cJ d)).length=10:=by rw[aI,eC (h d aKI)]
  have hc:uW (d::l)=ints (cJ d)++uW l:=rfl;rw[hc,aKK];cases i with
  |zero=>
   obtain rfl:d=s:=by simpa using hi
   rw[aOG,aOA,aLN Yd,aLA Yd]
  |succ i=>
   rw[show(i+1)*10=(ints (cJ d)).length+i*10 by omega,aOJ];exact ih (fun s hs=>h s (aKA _ hs)) Yal
theorem jJ.seas{D:aA}{v:Value}{n:Nat}{l:List (List Int)}(hF:jJ D v n (uW l))(hn:l.length=n)(hb:n≤9223372036854775807)(h:∀t∈l,t.length≤10):Sl D P2 10 v l:=
 hF.sl hn hb fun i t hi=>⟨Fs.ints (cJ t),rfl,by rw[Fs.aI,eC (h t (aJV hi))],by have:=m2 h hi [];rwa [aKF]at this⟩
theorem gL.up{D D':aA}{v:Value}{t:bA}(h:gL D v t)(hl:Le D D'):gL D' v t:=by
 obtain⟨hv,lv,mv,e,h1,h2,h3⟩:=h;exact⟨hv,lv,mv,e,h1.up zX.up hl,h2.up RI.up hl,h3.up p4.up hl⟩
end Go.Fs
namespace Go.Fs
namespace C3
open C1 (fL cG)
structure fC where
 kind:Int
 chair:Int
 token:Int
deriving DecidableEq
structure Cn where
 after:Int
 lo:Int
 hi:Int
deriving DecidableEq
structure aZ where
 chairs:Int
 coin:Int
 box:Int
 lines:List fC
 counts:List Cn
def qT(n:Int)(l:fC):Bool:=fL l.kind 0 2&&fL l.chair (-1) (n-1)&&fL l.token (-1) (n-1)
def lX(len:Int)(c:Cn):Bool:=fL c.after 0 len&&decide (0≤c.lo)&&decide (c.lo≤c.hi)&&decide (c.hi≤2000)
def dV(sign none lo hi:Int):List Int:=if sign≠none then [sign]else(List.range (hi+1-lo).toNat).map fun i:Nat=>lo+(i:Int)
def bN(n:Int)(l:fC):List fC:=(dV l.kind 0 1 2).flatMap fun k=>(dV l.chair (-1) 0 (n-1)).flatMap fun c=>(dV l.token (-1) 0 (n-1)).map fun t=>⟨k,c,t⟩
def uH(n:Int)(ls:List fC):Int:=ls.foldl (fun m l=>min (m*(bN n l).length) 4097) 1
def oP(b:aZ):Bool:=fL b.chairs 1 4&&fL b.coin 1 99&&fL b.box 0 999&&b.lines.all (qT b.chairs)&&b.counts.all (lX b.lines.length)
def aT(b:aZ):Int:=if 8<b.lines.length∨4<b.counts.length then 3 else if oP b=false then 1 else if 4096<uH b.chairs b.lines then 3 else 0
structure Sc where
 ch:List Int
 tk:List Int
 money:Int
 mixed:Int
deriving DecidableEq
def gZ(s:Sc):List Int:=s.ch++s.tk++[s.money,s.mixed]
def jR(l:List Int)(i:Int):Int:=l.getD i.toNat 0
def eF(s:Sc)(l:fC):Bool:=(decide (jR s.ch l.chair≠0)==decide (l.kind=2))&&(decide (jR s.tk l.token≠0)==decide (l.kind=2))
def bQ(b:aZ)(s:Sc)(i:Int)(l:fC):Sc:=
 if l.kind=2 then⟨s.ch.set l.chair.toNat 0,s.tk.set l.token.toNat 0,s.money-b.coin,if jR s.ch l.chair≠jR s.tk l.token then s.mixed+1 else s.mixed⟩
 else⟨s.ch.set l.chair.toNat (i+1),s.tk.set l.token.toNat (i+1),s.money+b.coin,s.mixed⟩
def eS(b:aZ)(s:Sc)(after:Int):Bool:=b.counts.all fun c=>decide (c.after≠after)||fL s.money c.lo c.hi
def eH(b:aZ):Sc:=⟨[0,0,0,0],[0,0,0,0],b.box,0⟩
def rZ(b:aZ):List fC→Nat→Sc→List (List fC×List Sc)
 | [],i,s=>if eS b s i=true then [([],[s])]else []
 |l::ls,i,s=>if eS b s i=true then(bN b.chairs l).flatMap fun r=>if eF s r=true then(rZ b ls (i+1) (bQ b s i r)).map fun x=>(r::x.1,s::x.2)else []else []
def truths(b:aZ):List (List fC×List Sc):=rZ b b.lines 0 (eH b)
def rS(b:aZ)(fine:Bool):Int:=if aT b≠0 then aT b else if fine=false then 2 else if truths b=[]then 11 else 0
def aAM(ss:List Sc)(k:Nat):Sc:=ss.getD k ⟨[],[],0,0⟩
end C3
open C1 C3
def nZ:Rd fC:=fun _ l cs=>cs=[.int .i64 l.kind,.int .i64 l.chair,.int .i64 l.token]
theorem nZ.up:nZ.Up:=fun _ _ _ h=>h
def pC:Rd Cn:=fun _ c cs=>cs=[.int .i64 c.after,.int .i64 c.lo,.int .i64 c.hi]
theorem pC.up:pC.Up:=fun _ _ _ h=>h
def x7(l:fC):Value:=.agg #[.int .i64 l.kind,.int .i64 l.chair,.int .i64 l.token]
def aBF(c:Cn):Value:=.agg #[.int .i64 c.after,.int .i64 c.lo,.int .i64 c.hi]
def fO(D:aA)(v:Value)(b:aZ):Prop:=∃lv cv,v=.agg #[.int .i64 b.chairs,.int .i64 b.coin,.int .i64 b.box,lv,cv]∧Sl D nZ 3 lv b.lines∧Sl D pC 3 cv b.counts
theorem fO.up{D D':aA}{v:Value}{b:aZ}(h:fO D v b)(hl:Le D D'):fO D' v b:=by
 obtain⟨lv,cv,e,h1,h2⟩:=h;exact⟨lv,cv,e,h1.up nZ.up hl,h2.up pC.up hl⟩
def CL(s:Sc):Value:=.agg (ints (gZ s)).toArray
def BL:Rd Sc:=fun _ s cs=>cs=ints (gZ s)
theorem BL.up:BL.Up:=fun _ _ _ h=>h
end Go.Fs
namespace Go.Fs.C3
open C1 (fL cG)

theorem LK{sign none lo hi x:Int}:x∈dV sign none lo hi ↔ (sign≠none∧x=sign)∨(sign=none∧lo≤x∧x≤hi):=by
 unfold dV;by_cases h:sign=none
 ·rw[aKO Yan,aJY];constructor
  ·rintro⟨i,hi',rfl⟩;have:=aNN.1 hi';exact aKB ⟨h,by omega,by omega⟩
  ·rintro(⟨h1,_⟩|⟨_,h1,h2⟩)
   ·exact absurd h h1
   ·exact⟨(x-lo).toNat,aNN.2 Yd,by omega⟩
 ·rw[aKS h];simp[h]
def GV(l x:fC):Bool:=(decide (l.kind=0)||decide (l.kind=x.kind))&&(decide (l.chair<0)||decide (l.chair=x.chair))&&(decide (l.token<0)||decide (l.token=x.token))
def ZB(n:Int)(x:fC):Prop:=(x.kind=1∨x.kind=2)∧0≤x.chair∧x.chair<n∧0≤x.token∧x.token<n
theorem mU{n:Int}{l x:fC}(hl:qT n l=true):x∈bN n l ↔ ZB n x∧GV l x=true:=by
 unfold qT at hl;simp only[aKG,cG]at hl;unfold bN ZB GV;simp only[aJR,aJY,LK,aKG,aLP,aKU];constructor
 ·rintro⟨k,hk,c,hc,t,ht,rfl⟩;simp only;omega
 ·rintro⟨⟨h1,h2,h3,h4,h5⟩,⟨h6,h7⟩,h8⟩;refine⟨x.kind,by omega,x.chair,by omega,x.token,by omega,rfl⟩
structure AA(b:aZ)(s:Sc):Prop where
 lc:s.ch.length=4
 lt:s.tk.length=4
 pc:∀x∈s.ch,0≤x∧x≤8
 pt:∀x∈s.tk,0≤x∧x≤8
def a7(l:List Int):Int:=((l.filter fun x=>decide (x≠0)).length:Int)
end Go.Fs.C3
namespace Go.Fs.C3
open C1 (fL cG)
def eP(b:aZ):List fC→Nat→Sc→Bool
 | [],i,s=>eS b s i
 |l::ls,i,s=>eS b s i&&(bN b.chairs l).any fun r=>eF s r&&eP b ls (i+1) (bQ b s i r)
theorem CI{α β:Type}{l:List α}{f:α→List β}:l.flatMap f≠[] ↔∃x∈l,f x≠[]:=by
 rw[Ne,List.flatMap_eq_nil_iff];simp
theorem u5(b:aZ):∀(ls:List fC) (i:Nat) (s:Sc),eP b ls i s=true ↔ rZ b ls i s≠[]
 | [],i,s=>by
  unfold eP rZ;cases eS b s i<;>simp
 |l::ls,i,s=>by
  unfold eP rZ;cases eS b s i with
  |false=>simp
  |true=>
   rw[aNI,aNT,aKS rfl,CI];refine exists_congr fun r=>and_congr_right fun _=>?_
   rw[aKG,u5 b ls];cases eF s r<;>simp
theorem rW(b:aZ):eP b b.lines 0 (eH b)=decide (truths b≠[]):=by
 rw[aNR,u5,aKU];rfl

def rO(l:List Int):List Int:=l.map fun x=>min x 1
theorem aGJ(l:List Int):(rO l).length=l.length:=aMI _
theorem vW(l:List Int)(k:Nat)(x:Int):rO (l.set k x)=(rO l).set k (min x 1):=List.map_set
theorem tA{l:List Int}(h:∀x∈l,0≤x)(c:Int):(jR l c≠0) ↔ jR (rO l) c≠0:=by
 unfold jR rO;rw[aMD,aMD,aLC];cases e:l[c.toNat]? with
 |none=>simp
 |some x=>
  have:=h x (aJV e);simp only[aLK,aNL];omega
structure aDI(s s':Sc):Prop where
 ch:rO s.ch=rO s'.ch
 tk:rO s.tk=rO s'.tk
 money:s.money=s'.money
structure MX(s:Sc):Prop where
 ch:∀x∈s.ch,0≤x
 tk:∀x∈s.tk,0≤x
theorem XM{s s':Sc}(h:aDI s s')(hp:MX s)(hp':MX s')(l:fC):eF s l=eF s' l:=by
 unfold eF;have e1:decide (jR s.ch l.chair≠0)=decide (jR s'.ch l.chair≠0):=decide_eq_decide.2 (by rw[tA hp.ch,tA hp'.ch,h.ch]);have e2:decide (jR s.tk l.token≠0)=decide (jR s'.tk l.token≠0):=decide_eq_decide.2 (by rw[tA hp.tk,tA hp'.tk,h.tk]);rw[e1,e2]
theorem QU{b:aZ}{s s':Sc}(h:aDI s s')(i:Nat)(l:fC):aDI (bQ b s i l) (bQ b s' i l):=by
 unfold bQ;split
 ·exact⟨by simp only[vW,h.ch],by simp only[vW,h.tk],by simp only[h.money]⟩
 ·exact⟨by simp only[vW,h.ch],by simp only[vW,h.tk],by simp only[h.money]⟩
theorem A9{l:List Int}(h:∀x∈l,0≤x)(k:Nat){y:Int}(hy:0≤y):∀x∈l.set k y,0≤x:=fun x hx=>by
 rcases List.mem_or_eq_of_mem_set hx with hx|rfl
 ·exact h x hx
 ·exact hy
theorem lW{b:aZ}{s:Sc}(h:MX s)(i:Nat)(l:fC):MX (bQ b s i l):=by
 unfold bQ;split
 ·exact⟨A9 h.ch _ Yd,A9 h.tk _ Yd⟩
 ·exact⟨A9 h.ch _ Yd,A9 h.tk _ Yd⟩
theorem BG(b:aZ):∀(ls:List fC) (i:Nat) (s s':Sc),aDI s s'→MX s→MX s'→eP b ls i s=eP b ls i s'
 | [],i,s,s',h,_,_=>by unfold eP eS;rw[h.money]
 |l::ls,i,s,s',h,hp,hp'=>by
  unfold eP;have e:eS b s i=eS b s' i:=by unfold eS;rw[h.money]
  rw[e];congr 1;refine aKJ _ (funext fun r=>?_);rw[XM h hp hp',BG b ls (i+1) _ _ (QU h i r) (lW hp i r) (lW hp' i r)]

theorem z6{l:List Int}{k:Nat}(hk:k<l.length)(y:Int):a7 (l.set k y)=a7 l-(if l.getD k 0≠0 then 1 else 0)+(if y≠0 then 1 else 0):=by
 induction l generalizing k with
 |nil=>simp at hk
 |cons x l ih=>
  cases k with
  |zero=>
   unfold a7;simp only[List.set_cons_zero,aNS,List.getD_cons_zero,aKU];split<;>split<;>simp<;>omega
  |succ k=>
   have:=ih (k:=k) (by simpa using hk);unfold a7 at this ⊢
   simp only[List.set_cons_succ,aNS,aGE];split
   ·simp only[aKD];push_cast;omega
   ·exact this
def G3(b:aZ)(s:Sc):Prop:=s.money=b.box+b.coin*a7 s.ch
theorem JN{l m:List Int}(h:rO l=rO m)(hl:∀x∈l,0≤x)(hm:∀x∈m,0≤x):a7 l=a7 m:=by
 induction l generalizing m with
 |nil=>
  cases m with
  |nil=>rfl
  |cons y m=>simp[rO]at h
 |cons x l ih=>
  cases m with
  |nil=>simp[rO]at h
  |cons y m=>
   simp only[rO,aLB,aLS]at h;have:=ih h.2 (fun x hx=>hl x (aKA _ hx)) fun x hx=>hm x (aKA _ hx)
   have h1:=hl x aKI;have h2:=hm y aKI;unfold a7 at this ⊢
   simp only[aNS,aKU];have e:x≠0 ↔ y≠0:=by have:=h.1;omega
   by_cases hx:x≠0
   ·rw[aKS hx,aKS (e.1 hx)];simp only[aKD];push_cast;omega
   ·rw[aKO hx,aKO fun hy=>hx (e.2 hy)];exact this
theorem pR{b:aZ}{s:Sc}(h:G3 b s)(h4:s.ch.length=4){i:Nat}{l:fC}(hc:eF s l=true)(h0:0≤l.chair)(h1:l.chair<4):G3 b (bQ b s i l):=by
 unfold eF at hc;simp only[aKG,aJK,decide_eq_decide]at hc;have hk:l.chair.toNat<s.ch.length:=by omega
 unfold G3 at h ⊢
 unfold bQ;have hg:s.ch.getD l.chair.toNat 0=jR s.ch l.chair:=rfl;by_cases e:l.kind=2
 ·rw[aKS e];simp only;rw[z6 hk,hg,aKS (hc.1.2 e),aKO Yd,h,Int.mul_add,Int.mul_sub];omega
 ·rw[aKO e];simp only;rw[z6 hk,hg,aKO fun hh=>e (hc.1.1 hh),aKS Yd,h,Int.mul_add,Int.mul_sub];omega
theorem yB(b:aZ):G3 b (eH b):=by unfold G3 eH a7;simp
def UA(s:Sc)(i:Nat):List Int:=(i:Int)::(rO s.ch++rO s.tk)
theorem TT{b:aZ}{ls:List fC}{i i':Nat}{s s':Sc}(e:UA s i=UA s' i')(h:G3 b s)(h':G3 b s')(hp:MX s)(hp':MX s')(h4:s.ch.length=4)(h4':s'.ch.length=4):i=i'∧eP b ls i s=eP b ls i' s':=by
 unfold UA at e;rw[aLS]at e;obtain⟨e1,e2⟩:=e;obtain⟨e3,e4⟩:=List.append_inj e2 (by rw[aGJ,aGJ];omega)
 have hi:i=i':=by omega
 subst hi;refine⟨rfl,BG b ls i s s' ⟨e3,e4,?_⟩ hp hp'⟩;unfold G3 at h h';rw[h,h',JN e3 hp.ch hp'.ch]
end Go.Fs.C3
namespace Go.Fs
variable{P:Program}{X:Cx}{γb:Type}[Membership Nat γb]{bad:γb}{all:Array Oper}{K:Act→World→Prop}{Q:Exit→Act→World→Prop}
variable{σ:bT}{μ:aC}{Ds:List aA}{os:List (Bool×Nat)}{fl:Bool}{ix:Nat}
variable{d:Nat}{x y z:Operand}{u v:Value}{ty:TypeId}{pos:String}{aft:Array Edge}{g:Option (Nat×Bool)}
variable{k':IntKind}{m n:Nat}{t t':TypeId}
def nR(m n:Nat):Nat:=m ^^^ (m&&&n)
theorem A7(m n i:Nat):(nR m n).testBit i=(m.testBit i&& !n.testBit i):=by
 unfold nR;rw[Nat.testBit_xor,Nat.testBit_and];cases m.testBit i<;>cases n.testBit i<;>rfl
theorem vP(m n:Nat):nR m n≤m:=by
 apply Nat.le_of_testBit;intro i hi;rw[A7]at hi;simp at hi;exact hi.1
theorem pB{m:Nat}(h:m<9223372036854775808):(BitVec.ofInt IntKind.i64.bits (m:Int)).toNat=m:=by
 rw[BitVec.ofInt_natCast,BitVec.toNat_ofNat];exact Nat.mod_eq_of_lt (by show m<2^64;omega)
theorem ZQ{m n:Nat}(h:m<9223372036854775808):m&&&n<9223372036854775808:=Nat.lt_of_le_of_lt Nat.and_le_left h
theorem aCU{m n:Nat}(h:m<9223372036854775808)(h':n<9223372036854775808):m|||n<9223372036854775808:=Nat.or_lt_two_pow (n:=63) h h'
theorem aAR(ho:all[ix]?= some ⟨some d,.binOp .and t x y t',ty,pos,aft,g⟩)(hx:ev σ x=some (.int .i64 (m:Int)))(hy:ev σ y=some (.int .i64 (n:Int)))(hm:m<9223372036854775808)(hn:n<9223372036854775808)(hN:Nat.blt d X.N=true)(hg:cW all σ g)
  (kk:WL P X bad all K Q os ((d,.int .i64 ((m&&&n:Nat):Int))::σ) μ Ds):WL P X bad all K Q ((fl,ix)::os) σ μ Ds:=
 bL ho rfl rfl hN hg (fun ρ hρ w'=>iL Ye (by
  have e:(BitVec.ofInt IntKind.i64.bits (m:Int)&&&BitVec.ofInt IntKind.i64.bits (n:Int)).toNat=m&&&n:=by rw[BitVec.toNat_and,pB hm,pB hn]
  have h2:=ZQ (n:=n) hm;have h3:rP .i64 ((m&&&n:Nat):Int):=by simp only[rP];omega
  simp only[binOp,ne_eq,not_true_eq_false,aMN,Op.intBits,e,kO h3];rfl) (hρ x _ hx) (hρ y _ hy)) kk
theorem FU(ho:all[ix]?= some ⟨some d,.binOp .or t x y t',ty,pos,aft,g⟩)(hx:ev σ x=some (.int .i64 (m:Int)))(hy:ev σ y=some (.int .i64 (n:Int)))(hm:m<9223372036854775808)(hn:n<9223372036854775808)(hN:Nat.blt d X.N=true)(hg:cW all σ g)
  (kk:WL P X bad all K Q os ((d,.int .i64 ((m|||n:Nat):Int))::σ) μ Ds):WL P X bad all K Q ((fl,ix)::os) σ μ Ds:=
 bL ho rfl rfl hN hg (fun ρ hρ w'=>iL Ye (by
  have e:(BitVec.ofInt IntKind.i64.bits (m:Int)|||BitVec.ofInt IntKind.i64.bits (n:Int)).toNat=m|||n:=by rw[BitVec.toNat_or,pB hm,pB hn]
  have h2:=aCU hm hn;have h3:rP .i64 ((m|||n:Nat):Int):=by simp only[rP];omega
  simp only[binOp,ne_eq,not_true_eq_false,aMN,Op.intBits,e,kO h3];rfl) (hρ x _ hx) (hρ y _ hy)) kk
theorem PW(ho:all[ix]?= some ⟨some d,.binOp .andNot t x y t',ty,pos,aft,g⟩)(hx:ev σ x=some (.int .i64 (m:Int)))(hy:ev σ y=some (.int .i64 (n:Int)))(hm:m<9223372036854775808)(hn:n<9223372036854775808)(hN:Nat.blt d X.N=true)(hg:cW all σ g)
  (kk:WL P X bad all K Q os ((d,.int .i64 ((nR m n:Nat):Int))::σ) μ Ds):WL P X bad all K Q ((fl,ix)::os) σ μ Ds:=
 bL ho rfl rfl hN hg (fun ρ hρ w'=>iL Ye (by
  have e:(BitVec.ofInt IntKind.i64.bits (m:Int)&&& ~~~ BitVec.ofInt IntKind.i64.bits (n:Int)).toNat=nR m n:=by
   apply Nat.eq_of_testBit_eq;intro i;rw[A7,BitVec.testBit_toNat,BitVec.getLsbD_and,BitVec.getLsbD_not,←BitVec.testBit_toNat,←BitVec.testBit_toNat,pB hm,pB hn];by_cases hi:i<IntKind.i64.bits
   ·simp[hi]
   ·have:m.testBit i=false:=Nat.testBit_lt_two_pow (aMO hm (aMU (show 9223372036854775808≤2^64 by decide) (aNQ Yah (show 64≤i from Nat.le_of_not_lt hi))));simp[this]
  have h2:=vP m n;have h3:rP .i64 ((nR m n:Nat):Int):=by simp only[rP];omega
  simp only[binOp,ne_eq,not_true_eq_false,aMN,Op.intBits,e,kO h3];rfl) (hρ x _ hx) (hρ y _ hy)) kk
theorem EO{a b:Int}(ho:all[ix]?= some ⟨some d,.binOp .or t x y t',ty,pos,aft,g⟩)(hx:ev σ x=some (.int .i64 a))(hy:ev σ y=some (.int .i64 b))(ha:0≤a∧a≤1)(hb:0≤b∧b≤1)(hN:Nat.blt d X.N=true)(hg:cW all σ g)
  (kk:WL P X bad all K Q os ((d,.int .i64 (max a b))::σ) μ Ds):WL P X bad all K Q ((fl,ix)::os) σ μ Ds:=by
 have h1:a=((a.toNat:Nat):Int):=by omega
 have h2:b=((b.toNat:Nat):Int):=by omega
 have h3:max a b=((a.toNat|||b.toNat:Nat):Int):=by
  have ha':a=0∨a=1:=by omega
  have hb':b=0∨b=1:=by omega
  rcases ha' with rfl|rfl<;>rcases hb' with rfl|rfl<;>decide
 rw[h3]at kk;rw[h1]at hx;rw[h2]at hy;exact FU ho hx hy Yd Yd hN hg kk
theorem ZD{k:IntKind}{a:Int}(ho:all[ix]?= some ⟨some d,.unOp .neg t x,ty,pos,aft,g⟩)(hx:ev σ x=some (.int k a))(hr:rP k (-a))(hN:Nat.blt d X.N=true)(hg:cW all σ g)
  (kk:WL P X bad all K Q os ((d,.int k (-a))::σ) μ Ds):WL P X bad all K Q ((fl,ix)::os) σ μ Ds:=
 bL ho rfl rfl hN hg (fun ρ hρ w'=>by
  have h2:(0:Int)-a= -a:=by omega
  simp only[execOp,hρ x _ hx,Op.unary,Op.intArith,h2,kO hr];rfl) kk
theorem H5{t e:TypeId}{n sz:Nat}{parts:Array (Nat×Operand)}{us:List (Nat×Value)}{zs cs:List Value}(ho:all[ix]?= some ⟨some d,.build t parts,ty,pos,aft,g⟩)(ht:P.underlying t=some (.array n e))(hs:TS P e sz)(hz:TZ P t (.agg zs.toArray))(hu:O4 σ parts.toList=some us)
  (hf:Instr.fill (fun i=>some (i*sz,sz)) zs.toArray us=some cs.toArray) (hN:Nat.blt d X.N=true) (hg:cW all σ g) (kk:WL P X bad all K Q os ((d,.agg cs.toArray)::σ) μ Ds):WL P X bad all K Q ((fl,ix)::os) σ μ Ds:=
 bL ho rfl rfl hN hg (fun ρ hρ w'=>by
  have e:(parts.map fun(i,x)=>(i,ρ x)).toList=us:=by rw[←tD hρ hu];simp
  simp only[execOp,Instr.build,Sem.run_bind,hz w',Result.andThen_ok,TU.of ht w',hs w',Value.cells,e,hf,Sem.run_pure]) kk
theorem LC{op:BinOp}(he:op=.shl∨op=.shr){k:IntKind}{a b:Int}{w:World}{r:Value}(h:(Op.shift op k a k' b).run P w=.ok r w){ρ:Operand→Value}(hx:ρ x=.int k a)(hy:ρ y=.int k' b):
  (execOp ρ ⟨some d,.binOp op t x y t',ty,pos,aft,g⟩).run P w=.ok (.value r) w:=by
 rcases he with rfl|rfl<;>simp[execOp,hx,hy,binOp,h,go_sem]
theorem K3(ho:all[ix]?= some ⟨some d,.binOp .shr t x y t',ty,pos,aft,g⟩)(hx:ev σ x=some (.int .i64 (m:Int)))(hy:ev σ y=some (.int k' (n:Int)))(hn:n≤62)(hN:Nat.blt d X.N=true)(hg:cW all σ g)
  (kk:WL P X bad all K Q os ((d,.int .i64 ((m >>> n:Nat):Int))::σ) μ Ds):WL P X bad all K Q ((fl,ix)::os) σ μ Ds:=
 bL ho rfl rfl hN hg (fun ρ hρ w'=>LC (aKB rfl) (by
  have h1:¬((n:Int)<0):=by omega
  have h2:min (n:Int).toNat IntKind.i64.bits=n:=by rw[aLX];exact aOI (aMU hn Yah)
  have h3:(m:Int).fdiv (2^n)=((m >>> n:Nat):Int):=by
   rw[Nat.shiftRight_eq_div_pow,Int.fdiv_eq_ediv_of_nonneg _ (by exact_mod_cast aGD (2^n))];simp
  simp only[Op.shift,h1,aMN,h2,h3];rfl) (hρ x _ hx) (hρ y _ hy)) kk
theorem kA(m n:Nat):((m >>> n:Nat):Int)%2=if m.testBit n then 1 else 0:=by
 rw[Nat.testBit,Nat.one_and_eq_mod_two];have:=Nat.mod_two_eq_zero_or_one (m >>> n);rcases this with h|h
 ·have:((m >>> n:Nat):Int)%2=0:=by omega
  rw[this];simp[h]
 ·have:((m >>> n:Nat):Int)%2=1:=by omega
  rw[this];simp[h]
end Go.Fs
namespace Go.Fs
namespace C7
structure Pt where
 a:Int
 b:Int
 c:Int
deriving DecidableEq
structure Ch where
 size:Int
 parts:Pt
structure bJ where
 chairs:List Ch
 fit:Int
 claims:List (Int×Int)
def Pt.l(p:Pt):List Int:=[p.a,p.b,p.c]
def fL(n lo hi:Int):Bool:=decide (lo≤n)&&decide (n≤hi)
theorem cG{n lo hi:Int}:fL n lo hi=true ↔ lo≤n∧n≤hi:=by simp[fL]
def HJ(p:Pt)(m:Int):Bool:=p.l.all fun n=>fL n 0 m
def gX(c:Ch):Bool:=fL c.size 0 9&&HJ c.parts 2
def kZ(r:Int×Int):Bool:=(decide (0≤r.1)&&decide (r.1≤r.2))&&decide (r.2≤7)
def aAG(p:Pt):Nat:=(p.l.filter fun n=>decide (n=2)).length
def iN(l:List Ch):Nat:=(l.map fun c=>aAG c.parts).sum
def uU(y:bJ):Bool:=(fL y.fit 0 9&&y.chairs.all gX)&&y.claims.all kZ
def aT(y:bJ):Int:=if 7<y.chairs.length∨5<y.claims.length then 3 else if uU y=false then 1 else if 8<iN y.chairs then 3 else 0
def xX(n t:Int):Bool:=fL t 0 1&&(decide (n=2)||decide (t=n))
def GA(p t:Pt):Bool:=(p.l.zip t.l).all fun x=>xX x.1 x.2
def mY(y:bJ)(t:List Pt):Bool:=decide (t.length=y.chairs.length)&&(y.chairs.zip t).all fun x=>GA x.1.parts x.2
def iO(p:Pt):Bool:=decide (p=⟨1,1,1⟩)
def whole(t:List Pt):Nat:=(t.filter iO).length
end C7
open C7
def aDG(p:Pt):Value:=.agg #[.int .i64 p.a,.int .i64 p.b,.int .i64 p.c]
def aCB(c:Ch):Value:=.agg #[.int .i64 c.size,.int .i64 c.parts.a,.int .i64 c.parts.b,.int .i64 c.parts.c]
def RP:Rd Pt:=fun _ p cs=>cs=[.int .i64 p.a,.int .i64 p.b,.int .i64 p.c]
theorem RP.up:RP.Up:=fun _ _ _ h=>h
def qY:Rd Ch:=fun _ c cs=>cs=[.int .i64 c.size,.int .i64 c.parts.a,.int .i64 c.parts.b,.int .i64 c.parts.c]
theorem qY.up:qY.Up:=fun _ _ _ h=>h
def R2:Rd (Int×Int):=fun _ p cs=>cs=[.int .i64 p.1,.int .i64 p.2]
theorem R2.up:R2.Up:=fun _ _ _ h=>h
def lE(D:aA)(v:Value)(y:bJ):Prop:=∃cv rv,v=.agg #[cv,.int .i64 y.fit,rv]∧Sl D qY 4 cv y.chairs∧Sl D R2 2 rv y.claims
theorem lE.up{D D':aA}{v:Value}{y:bJ}(h:lE D v y)(hl:Le D D'):lE D' v y:=by
 obtain⟨cv,rv,hv,hc,hr⟩:=h;exact⟨cv,rv,hv,hc.up qY.up hl,hr.up R2.up hl⟩
end Go.Fs
namespace Go.Fs
variable{P:Program}{X:Cx}{γb:Type}[Membership Nat γb]{bad:γb}{all:Array Oper}{K:Act→World→Prop}{Q:Exit→Act→World→Prop}
variable{σ:bT}{μ:aC}{Ds:List aA}{os:List (Bool×Nat)}{fl:Bool}{ix:Nat}
variable{d:Nat}{x y z:Operand}{u v:Value}{ty:TypeId}{pos:String}{aft:Array Edge}{g:Option (Nat×Bool)}
abbrev aC.ks(μ:aC):List Nat:=μ.map fun p=>p.1
def N6(P:Program)(f:FuncId)(args:List Value)(D:aA)(ν:aC)(post:aA→Value→aC→Prop):Prop:=
 EF P f∧∀w,dS D w→(∀p∈ν,w.heap[p.1]?= some p.2∧D p.1=[]∧cK p.2)→ν.ks.Nodup→Calls P f args.toArray w fun e w'=>∃v D' ν',e=.returned v∧ν'.ks=ν.ks∧fN (hd w) w.heap.size D ν.ks ν' D' w'∧post D' v ν'
theorem fN.afterM{h0:H0}{lo:Nat}{D0 D D':aA}{mods:List Nat}{A B ν ν':aC}{w w':World}(h:fN h0 lo D0 mods (A++ν++B) D w)(hk:ν'.ks=ν.ks)(hs:fN (hd w) w.heap.size D ν.ks ν' D' w'):fN h0 lo D0 mods (A++ν'++B) D' w':=by
 have hle:=aMU h.hlo h.size;have hin:∀c∈ν.ks,∃o,(c,o)∈ν:=fun c hc=>by
  obtain⟨p,hp,rfl⟩:=aJY.1 hc;exact⟨p.2,hp⟩
 have hbx:∀p∈ν,_:=fun p hp=>h.box p (aKC _ (aJW _ hp))
 have hnd:=h.nd;simp only[aKN]at hnd;have keys:(A++ν'++B).map (fun p=>p.1)=(A++ν++B).map (fun p=>p.1):=by
  simp only[aKN];rw[show ν'.map (fun p=>p.1)=ν.map (fun p=>p.1)from hk]
 refine⟨h.hlo,aMU h.size hs.size,fun c hc hm=>?_,fun c hc=>?_,hs.agr,fun p hp=>?_,by rw[keys];exact h.nd,fun p hp=>?_,fun e he=>(hs.env _ rfl).trans (h.env e he)⟩
 ·have hne:c∉ν.ks:=by
   intro hcm;obtain⟨o,ho⟩:=hin c hcm;rcases(hbx _ ho).2.2 with h'|h'
   ·have:=h.hlo;simp at h';omega
   ·exact hm h'
  rw[hs.old c (aMO hc hle) hne];exact h.old c hc hm
 ·rw[hs.dold c (aMO hc hle)];exact h.dold c hc
 ·rcases aKM.1 hp with hp|hp
  ·rcases aKM.1 hp with hp|hp
   ·obtain⟨h1,h2,h3⟩:=h.box p (aKC _ (aKC _ hp));have hl:=bC h1;have hne:p.1∉ν.ks:=fun hm=>(aKE.1 (aKE.1 hnd).1).2.2 p.1 (aJY.2 ⟨p,hp,rfl⟩) p.1 hm rfl
    exact⟨by rw[hs.old _ hl hne];exact h1,by rw[hs.dold _ hl];exact h2,h3⟩
   ·obtain⟨q1,q2,_⟩:=hs.box p hp;have hm:p.1∈ν.ks:=by rw[←hk];exact aJY.2 ⟨p,hp,rfl⟩
    obtain⟨o,ho⟩:=hin p.1 hm;exact⟨q1,q2,(hbx _ ho).2.2⟩
  ·obtain⟨h1,h2,h3⟩:=h.box p (aJW _ hp);have hl:=bC h1;have hne:p.1∉ν.ks:=fun hm=>(aKE.1 hnd).2.2 p.1 (aJW _ hm) p.1 (aJY.2 ⟨p,hp,rfl⟩) rfl
   exact⟨by rw[hs.old _ hl hne];exact h1,by rw[hs.dold _ hl];exact h2,h3⟩
 ·rcases aKM.1 hp with hp|hp
  ·rcases aKM.1 hp with hp|hp
   ·exact h.fz p (aKC _ (aKC _ hp))
   ·exact hs.fz p hp
  ·exact h.fz p (aJW _ hp)
theorem dF{c:Operand}{xs:Array Operand}{ats:Array TypeId}{f:FuncId}{c1 c2:List Value}{vs:List Value}{A B ν:aC}{post:aA→Value→aC→Prop}(ho:all[ix]?= some ⟨some d,.call {callee:=.value c,args:=xs,argTypes:=ats},ty,pos,aft,g⟩)(hc:ev σ c=some (.func (.func f) c1.toArray c2.toArray))(hxs:H8 σ xs.toList=some vs)
  (hex:X.ex=none) (hfl:fl=false∨∀p∈ν,p.1∈bad) (hu:∀p∈ν,cK p.2) (hf:∀D,(∀D₁∈Ds,Le D₁ D)→N6 P f (c1++vs++c2) D ν post) (hN:Nat.blt d X.N=true) (hg:cW all σ g)
  (kk:∀v D ν',(∀D₁∈Ds,Le D₁ D)→post D v ν'→WL P X bad all K Q os ((d,v)::σ) (A++ν'++B) (D::Ds)):
  WL P X bad all K Q ((fl,ix)::os) σ (A++ν++B) Ds:=by
 refine dN ho rfl rfl hg fun a w hh=>?_
 obtain⟨h1,h2,h3,D,h4,h5,h6⟩:=id hh;have hF:=hf D h5;have hbx:∀p∈ν,_:=fun p hp=>h4.box p (aKC _ (aJW _ hp))
 have hnd:=h4.nd;simp only[aKN]at hnd;rw[pN hF.1 (hh.eval hc) (hU (fun _ _ hx=>hh.eval hx) hxs)];refine⟨fun h=>by simp[FW]at h,cX.2 ((hF.2 w h4.agr (fun p hp=>⟨(hbx p hp).1,(hbx p hp).2.1,hu p hp⟩) (aKE.1 (aKE.1 hnd).1).2.1).mono ?_)⟩;rintro e w' ⟨v,D',ν',rfl,hk,hs,hpost⟩;have hle:=eV h4.agr hs;refine⟨fun hflt=>⟨hs.size,fun c hc hcb=>hs.old c hc (fun hm=>?_)⟩,kk v D' ν' (fun D₁ hD₁=>(h5 D₁ hD₁).trans hle) hpost _ _ ?_⟩
 ·obtain⟨p,hp,rfl⟩:=aJY.1 hm;rcases hfl with h|h
  ·rw[hflt]at h;cases h
  ·exact hcb (h p hp)
 ·refine Hl.put ⟨h1,h2,h3,D',h4.afterM hk hs,fun D₁ hD₁=>?_,by unfold uB;rw[hex];trivial⟩ hN v;rcases aJX.1 hD₁ with rfl|hD₁
  ·exact Le.refl _
  ·exact(h5 D₁ hD₁).trans hle
theorem H6{c:Operand}{xs:Array Operand}{ats:Array TypeId}{f:FuncId}{c1 c2:List Value}{vs:List Value}{A ν:aC}{post:aA→Value→aC→Prop}(ho:all[ix]?= some ⟨some d,.call {callee:=.value c,args:=xs,argTypes:=ats},ty,pos,aft,g⟩)(hc:ev σ c=some (.func (.func f) c1.toArray c2.toArray))(hxs:H8 σ xs.toList=some vs)
  (hex:X.ex=none) (hfl:fl=false∨∀p∈ν,p.1∈bad) (hu:∀p∈ν,cK p.2) (hf:∀D,(∀D₁∈Ds,Le D₁ D)→N6 P f (c1++vs++c2) D ν post) (hN:Nat.blt d X.N=true) (hg:cW all σ g)
  (kk:∀v D ν',(∀D₁∈Ds,Le D₁ D)→post D v ν'→WL P X bad all K Q os ((d,v)::σ) (A++ν') (D::Ds)):
  WL P X bad all K Q ((fl,ix)::os) σ (A++ν) Ds:=by
 have:=dF (A:=A) (B:=[]) ho hc hxs hex hfl hu hf hN hg (fun v D ν' h1 h2=>by rw[aKF];exact kk v D ν' h1 h2)
 rwa [aKF]at this
def iU(X:Cx)(ks:List Nat)(post:aA→Value→aC→Prop):Ending→World→Prop:=fun e w'=>∃v D' ν',e=.returned v∧ν'.ks=ks∧fN X.h0 X.lo X.D0 X.mods ν' D' w'∧post D' v ν'
theorem aU{fn:Func}{ks:List Nat}{post:aA→Value→aC→Prop}:NP (bodyPost P fn (iU X ks post)):=by
 rintro c a w ⟨_,v,D',μ',h,_⟩;cases h
def lZ(N:Nat)(h0:H0)(D:aA)(ks:List Nat):Cx:=⟨none,N,[],h0,h0.size,D,ks,none⟩
theorem fR{f:FuncId}{fn:Func}{c:Code}{args:List Value}{D:aA}{ν:aC}{post:aA→Value→aC→Prop}(N:Nat)(hf:P.funcs[f]?= some fn)(hn:(fn.name== "runtime.NumGoroutine")=false)(hb:fn.body=some c)(hN:fn.ntmps=N)(hsz:Nat.ble args.length N=true)
  (h:∀h0:H0,(∀p∈ν,p.1<h0.size)→ν.ks.Nodup→WC P (lZ N h0 D ν.ks) (bodyPost P fn (iU (lZ N h0 D ν.ks) ν.ks post)) c (gF 0 args) ν [D]):N6 P f args D ν post:=by
 refine⟨EF.of hf hn hb,fun w hw hν hnd=>?_⟩;subst hN;have hsz:=aME hsz;refine(cX (r:=none) (n:=0)).1 ((callsIn_of_wp (R:=iU (lZ fn.ntmps (hd w) D ν.ks) ν.ks post) hf hb aGL (h (hd w) (fun p hp=>bC (hν p hp).1) hnd _ w ⟨?_,fun s v hs=>?_,rfl,D,⟨aKR _,aKR _,fun _ _ _=>rfl,fun _ _=>rfl,hw,(fun p hp=>?_),hnd,(fun p hp=>(hν p hp).2.2),fun e he=>aKZ he⟩,fun D₁ h1=>?_,aGL⟩) rfl).mono ?_)
 ·simp[lZ];omega
 ·obtain⟨_,h2⟩:=eD args 0 s v hs;have hl:=(aKH.1 h2).1;simp only[aNZ]at h2 hl;show(args.toArray++_)[s]?= some v;rw[aMS Yao];simpa using h2
 ·exact⟨(hν p hp).1,(hν p hp).2.1,aKB (aJY.2 ⟨p,hp,rfl⟩)⟩
 ·simp only[aKQ]at h1;subst h1;exact Le.refl _
 ·rintro e w' ⟨v,D',ν',rfl,hk,hs,hp⟩;exact⟨v,D',ν',rfl,hk,hs,hp⟩
theorem IU{fn:Func}{ks:List Nat}{A B ν':aC}{post:aA→Value→aC→Prop}{e:Exit}(he:(match e with|.normal=>true|.ret=>true|_=>false)=true){rs:List ResultVar}{vs:List Value}(hds:X.ds=[])(hr:fn.results=rs.toArray)(h:rN P X σ (A++ν'++B) rs vs)
  (hk:ν'.ks=ks) (hp:∀D,(∀D₁∈Ds,Le D₁ D)→post D (nY vs) ν'):∀a w,Hl X σ (A++ν'++B) Ds a w→bodyPost P fn (iU X ks post) e a w:=by
 intro a w hh;have hrun:=fQ hh hr h;obtain⟨h1,h2,h3,D,h4,h5,h6⟩:=hh;have hnd:=h4.nd;simp only[aKN]at hnd;have:a.defers=[]∧∃v,(results fn a.tmps).run P w=.ok v w∧iU X ks post (.returned v) w:=⟨h3.trans hds,_,hrun,_,D,ν',rfl,hk,h4.sub (fun p hp=>aKC _ (aJW _ hp)) (aKE.1 (aKE.1 hnd).1).2.1,hp D h5⟩
 cases e<;>first|exact this|cases he
theorem _root_.Go.Fs.Zx{fn:Func}{ks:List Nat}(A:aC)(B:aC)(ν':aC){post:aA→Value→aC→Prop}{e:Exit}{rs:List ResultVar}(vs:List Value)(e9:((match e with|.normal=>true|.ret=>true|_=>false),X.ds,fn.results)=(true,[],rs.toArray))(h:rN P X σ (A++ν'++B) rs vs)(hk:ν'.ks=ks)(hp:∀D,(∀D₁∈Ds,Le D₁ D)→post D (nY vs) ν'):∀a w,Hl X σ (A++ν'++B) Ds a w→bodyPost P fn (iU X ks post) e a w:=IU (A:=A) (B:=B) (ν':=ν') (vs:=vs) (aKJ (fun z=>z.1) e9) (aKJ (fun z=>z.2.1) e9) (aKJ (fun z=>z.2.2) e9) h hk hp
end Go.Fs
