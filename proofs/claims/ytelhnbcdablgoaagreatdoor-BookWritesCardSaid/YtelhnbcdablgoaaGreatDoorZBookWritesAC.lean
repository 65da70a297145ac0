/- Of the proof of BookWrites: Rest, Types, Spec, Row, Keys, Own, Tide, Book, BookLaw, BookEnds, Bits, Yard, Many. -/
import Derived.Test.YtelhnbcdablgoaaGreatDoorZBookWritesAB
import Derived.Test.YtelhnbcdablgoaaGreatDoorProg
import Derived.Test.YtelhnbcdablgoaaGreatDoorZBookWritesAA
import Derived.ChangeKeysEq
namespace Go.Fs
variable{P:Program}{X:Cx}{γb:Type}[Membership Nat γb]{bad:γb}{all:Array Oper}{K:Act→World→Prop}{Q:Exit→Act→World→Prop}
variable{σ:bQ}{μ:aC}{Ds:List aA}{os:List (Bool×Nat)}{fl:Bool}{ix:Nat}
variable{d:Nat}{x y z:Operand}{u v:Value}{ty:TypeId}{pos:String}{aft:Array Edge}{g:Option (Nat×Bool)}
theorem VS{t e:TypeId}{n b:Nat}(ho:all[ix]?= some ⟨some d,.slice t x none none none,ty,pos,aft,g⟩)(ht:P.underlying t=some (.array n e))(hs:TS P e 1)(hx:ev σ x=some (.pointer (some ⟨b,0,none⟩)))
  (hN:Nat.blt d X.N=true) (hg:cS all σ g) (kk:WL P X bad all K Q os ((d,.slice (some ⟨b,0,none⟩) n n)::σ) μ Ds):WL P X bad all K Q ((fl,ix)::os) σ μ Ds:=
 bH ho rfl rfl hN hg (fun ρ hρ w'=>by
  simp only[execOp,hρ x _ hx,aIK];unfold Instr.sliceAt Instr.sureAddr Instr.sliceBounds;simp only[Sem.run_bind,TU.of ht w',Result.andThen_ok,hs w',Sem.run_pure,pure_bind,aKG,aJN];split<;>simp[Addr.add]) kk
theorem JT{k k':IntKind}{s t:TypeId}{n:Int}(ho:all[ix]?= some ⟨some d,.convert s t x,ty,pos,aft,g⟩)(hr:∀w,(Go.convert s t (.int k n)).run P w=.ok (.int k' n) w)(hx:ev σ x=some (.int k n))(hN:Nat.blt d X.N=true)(hg:cS all σ g)
  (kk:WL P X bad all K Q os ((d,.int k' n)::σ) μ Ds):WL P X bad all K Q ((fl,ix)::os) σ μ Ds:=
 bH ho rfl rfl hN hg (fun ρ hρ w'=>by simp only[execOp,hρ x _ hx,Sem.run_bind,hr w',Result.andThen_ok,Sem.run_pure]) kk
theorem sX{t t':TypeId}{b:Bool}(ho:all[ix]?= some ⟨some d,.binOp .eql t x y t',ty,pos,aft,g⟩)(hr:∀w,((do eqGuard .eql t x y u v;binOp .eql t u v):Sem Value).run P w=.ok (.bool b) w)(hx:ev σ x=some u)(hy:ev σ y=some v)(hN:Nat.blt d X.N=true)(hg:cS all σ g)
  (kk:WL P X bad all K Q os ((d,.bool b)::σ) μ Ds):WL P X bad all K Q ((fl,ix)::os) σ μ Ds:=
 bH ho rfl rfl hN hg (fun ρ hρ w'=>by simp only[execOp,hρ x _ hx,hρ y _ hy];rw[Sem.run_bind,hr w'];rfl) kk
theorem d6{t t':TypeId}{b:Bool}(ho:all[ix]?= some ⟨some d,.binOp .neq t x y t',ty,pos,aft,g⟩)(hr:∀w,((do eqGuard .neq t x y u v;binOp .neq t u v):Sem Value).run P w=.ok (.bool b) w)(hx:ev σ x=some u)(hy:ev σ y=some v)(hN:Nat.blt d X.N=true)(hg:cS all σ g)
  (kk:WL P X bad all K Q os ((d,.bool b)::σ) μ Ds):WL P X bad all K Q ((fl,ix)::os) σ μ Ds:=
 bH ho rfl rfl hN hg (fun ρ hρ w'=>by simp only[execOp,hρ x _ hx,hρ y _ hy];rw[Sem.run_bind,hr w'];rfl) kk
theorem sU{t:TypeId}{a b:Bool}(ht:P.underlying t=some .bool)(w:World):(Op.equal t (.bool a) (.bool b)).run P w=.ok (a==b) w:=by
 have h:(Op.equalIn (9999+1) t (.bool a) (.bool b)).run P w=.ok (a==b) w:=by
  rw[Op.equalIn,Sem.run_bind,TU.of ht w];rfl
 exact h
theorem aDO{t t':TypeId}{a b:Bool}(ho:all[ix]?= some ⟨some d,.binOp .eql t x y t',ty,pos,aft,g⟩)(ht:P.underlying t=some .bool)(hx:ev σ x=some (.bool a))(hy:ev σ y=some (.bool b))(hN:Nat.blt d X.N=true)(hg:cS all σ g)
  (kk:WL P X bad all K Q os ((d,.bool (a==b))::σ) μ Ds):WL P X bad all K Q ((fl,ix)::os) σ μ Ds:=
 sX ho (fun w=>by
  have hg:(eqGuard .eql t x y (.bool a) (.bool b)).run P w=.ok () w:=rfl;rw[Sem.run_bind,hg];show((do Pure.pure (Value.bool (←Op.equal t (.bool a) (.bool b)))):Sem Value).run P w=_;rw[Sem.run_bind,sU ht];rfl) hx hy hN hg kk
theorem g9{t t':TypeId}{a b:Bool}(ho:all[ix]?= some ⟨some d,.binOp .neq t x y t',ty,pos,aft,g⟩)(ht:P.underlying t=some .bool)(hx:ev σ x=some (.bool a))(hy:ev σ y=some (.bool b))(hN:Nat.blt d X.N=true)(hg:cS all σ g)
  (kk:WL P X bad all K Q os ((d,.bool (!(a==b)))::σ) μ Ds):WL P X bad all K Q ((fl,ix)::os) σ μ Ds:=
 d6 ho (fun w=>by
  have hg:(eqGuard .neq t x y (.bool a) (.bool b)).run P w=.ok () w:=rfl;rw[Sem.run_bind,hg];show((do Pure.pure (Value.bool (!(←Op.equal t (.bool a) (.bool b))))):Sem Value).run P w=_;rw[Sem.run_bind,sU ht];rfl) hx hy hN hg kk
theorem B8{n:Nat}(h:∀a w,Hl X σ μ Ds a w→Q .normal a w):WC P X Q (.label n) σ μ Ds:=fun a w hh=>wpIn_label (h a w hh)
theorem P5{t e:TypeId}{n:Nat}{l:List Int}{k:IntKind}{i m:Int}(ho:all[ix]?= some ⟨some d,.index t x y,ty,pos,aft,g⟩)(ht:P.underlying t=some (.array n e))(ha:TA P e false)(hs:TS P e 1)(hx:ev σ x=some (.agg (ints l).toArray))(hy:ev σ y=some (.int k i))(h0:0≤i)(h1:i<n)(hm:l[i.toNat]?= some m)
  (hN:Nat.blt d X.N=true) (hg:cS all σ g) (kk:WL P X bad all K Q os ((d,.int .i64 m)::σ) μ Ds):WL P X bad all K Q ((fl,ix)::os) σ μ Ds:=
 bH ho rfl rfl hN hg (fun ρ hρ w'=>by
  have hg:(ints l).toArray[i.toNat]?= some (.int .i64 m):=by simpa using cA hm
  simp only[execOp,hρ x _ hx,hρ y _ hy];unfold Instr.index asIntOf part;simp only[Sem.run_bind,TU.of ht w',Result.andThen_ok,hs w',ha w',Sem.run_pure,pure_bind,h0,h1,aLA,aII,aIR,aHL,aIL,hg]) kk
theorem eW(l m:List Int):ints l++ints m=ints (l++m):=by simp[ints]
theorem ZX{t f k ft:Nat}{cs:List Value}{fs:Array Field}(ho:all[ix]?= some ⟨some d,.field t x f,ty,pos,aft,g⟩)(ht:P.underlying t=some (.struct fs))(hk:(fs[f]?).map (fun f=>(f.offset,f.type))=some (k,ft))(ha:TA P ft false)(hx:ev σ x=some (.agg cs.toArray))(hv:cs[k]?= some v)
  (hN:Nat.blt d X.N=true) (hg:cS all σ g) (kk:WL P X bad all K Q os ((d,v)::σ) μ Ds):WL P X bad all K Q ((fl,ix)::os) σ μ Ds:=
 bH ho rfl rfl hN hg (fun ρ hρ w'=>by
  cases hf:fs[f]? with
  |none=>simp[hf]at hk
  |some f0=>
   simp only[hf,aHM,aLD,aJV]at hk;obtain⟨rfl,rfl⟩:=hk;have hv':cs.toArray[f0.offset]?= some v:=by simpa using hv
   simp only[execOp,hρ x _ hx];unfold Instr.field asAgg part;simp only[Sem.run_bind,TU.of ht w',Result.andThen_ok,hf,ha w',Sem.run_pure,pure_bind,aHL,aIL,hv']) kk
theorem gD{t:TypeId}{D₁:aA}{b k:Nat}{cs:List Value}(ho:all[ix]?= some ⟨some d,.load t x,ty,pos,aft,g⟩)(ha:TA P t false)(hx:ev σ x=some (.pointer (some ⟨b,k,none⟩)))(hA:At D₁ b 0 cs)(hD:D₁∈Ds)(hv:cs[k]?= some v)(hb:b∉bad)
  (hN:Nat.blt d X.N=true) (hg:cS all σ g) (kk:WL P X bad all K Q os ((d,v)::σ) μ Ds):WL P X bad all K Q ((fl,ix)::os) σ μ Ds:=
 bC (o:=0) (k:=k) ho ha (by rw[aJA];exact hx) hA hD hv hb hN hg kk
theorem wN{γ:Type}{c:Code}{N lo:Nat}{J0:nY}(m:γ→Nat)(I:γ→Prop)(J:γ→nY)(ch:γ→bQ)(rest:bQ)(M:γ→aC)(E:γ→List aA)(g₀:γ)(h₀:I g₀)(hJ:J0=J g₀)(hch:m7 σ (ch g₀))(hrest:m7 σ rest)(hμ:(M g₀).Sublist μ)(hD:∀D∈E g₀,∃D'∈Ds,Le D D')
  (round:∀g,I g→WC P (Xj N lo (J g)) (Exit.then (fun a w=>∃g',I g'∧m g'<m g∧Hl (Xj N lo (J g')) (ch g'++rest) (M g') (E g') a w) Q) c (ch g++rest) (M g) (E g)):WC P (Xj N lo J0) Q (.loop c) σ μ Ds:=by
 subst hJ
 let p:Act→World→Nat→Prop:=fun a w n=>∃g,I g∧m g=n∧Hl (Xj N lo (J g)) (ch g++rest) (M g) (E g) a w
 have ex:∀a w,(∃n,p a w n)→∃n,p a w n∧∀k,p a w k→n≤k:=by
  intro a w ⟨n,hn⟩;induction n using Nat.strongRecOn with
  |_ n ih=>
   by_cases h:∃k,k<n∧p a w k
   ·obtain⟨k,hk,hp⟩:=h;exact ih k hk hp
   ·exact⟨n,hn,fun k hk=>Nat.le_of_not_lt fun hl=>h ⟨k,hl,hk⟩⟩
 intro a w hh;refine wpIn_loop (fun a w=>∃n,p a w n) (fun a w=>open Classical in if h:∃n,p a w n then(ex a w h).choose else 0) ⟨_,g₀,h₀,rfl,hh.weak (m7.app hch hrest) hμ hD⟩ ?_;intro a w hI;obtain⟨⟨g,hg,hm,hst⟩,hmin⟩:=(ex a w hI).choose_spec;refine wpIn_mono (round g hg a w hst) fun e a' w' hq=>?_
 cases e with
 |normal=>
  obtain⟨g',hg',hlt,hst'⟩:=hq;have hI':∃n,p a' w' n:=⟨_,g',hg',rfl,hst'⟩
  refine⟨hI',?_⟩;simp only[dif_pos hI',dif_pos hI];have:=(ex a' w' hI').choose_spec.2 _ ⟨g',hg',rfl,hst'⟩;omega
 |_=>exact hq
theorem lS{γ:Type}{N lo:Nat}{J1:nY}{m:γ→Nat}{I:γ→Prop}{J:γ→nY}{ch:γ→bQ}{rest:bQ}{M:γ→aC}{E:γ→List aA}{g:γ}(n:Nat)(g':γ)(h1:I g')(h2:m g'<m g)(hJ:J1=J g')(hch:m7 σ (ch g'))(hn:uY n σ=true)(hr:σ.drop n=rest)(hμ:(M g').Sublist μ)(hD:∀D∈E g',∃D'∈Ds,Le D D'):
  ∀a w,Hl (Xj N lo J1) σ μ Ds a w→Exit.then (fun a w=>∃g',I g'∧m g'<m g∧Hl (Xj N lo (J g')) (ch g'++rest) (M g') (E g') a w) Q .normal a w:=by
 subst hJ;intro a w hh;refine⟨g',h1,h2,?_⟩;have h3:=hh.weak (σ':=ch g') hch hμ hD;refine⟨h3.1,fun s v hs=>?_,h3.2.2⟩;rcases zV hs with hs|hs
 ·exact h3.2.1 s v hs
 ·subst hr;exact hh.2.1 s v (uB n σ hn s v hs)
theorem K7{J J1 J0:nY}{l N lo:Nat}{c:Operand}{xs:Array Operand}{ats:Array TypeId}{vs:List Value}(ho:all[ix]?= some ⟨some d,.call {callee:=.value c,args:=xs,argTypes:=ats},ty,pos,aft,g⟩)
  (hc:ev σ c=some (.func (.yield l) #[] #[])) (hxs:H3 σ xs.toList=some vs) (hfl:fl=false) (hs1:vI lo J1) (hs0:vI lo J0)
  (hY:∀D w,sJ lo D w→J (μ.map (·.1)) D w→(∀p∈μ,p.1<w.heap.size)→(∀D₁∈Ds,Le D₁ D)→fS P l vs w fun b D' w'=>sJ lo D' w'∧rZ (μ.map (·.1)) D w D' w'∧(if b then J1 (μ.map (·.1)) D' w' else J0 (μ.map (·.1)) D' w'))
  (hN:Nat.blt d N=true) (hg:cS all σ g)
  (kk:∀b J',J'=(if b=true then J1 else J0)→WL P (Xj N lo J') bad all K Q os ((d,.bool b)::σ) μ Ds):WL P (Xj N lo J) bad all K Q ((fl,ix)::os) σ μ Ds:=
 YL (X:=Xj N lo J) ho hc hxs rfl hfl rfl rfl hs1 hs0 hY hN hg (kk true J1 rfl) (kk false J0 rfl)
theorem rX{c:Code}(k:(μ.map (·.1)).Nodup→WC P X Q c σ μ Ds):WC P X Q c σ μ Ds:=fun a w hh=>k (by obtain⟨_,_,_,D,h4,_⟩:=hh;exact h4.nd) a w hh
theorem bD{t:TypeId}{b n:Nat}{vs us:List Value}{e:TypeId}{μ':aC}(ho:all[ix]?= some ⟨none,.store t x y,ty,pos,aft,g⟩)(hx:ev σ x=some (.pointer (some ⟨b,0,none⟩)))(hy:ev σ y=some v)(hv:v.cells=us.toArray)(hs:TS P t n)
  (hn:us.length=n) (hl:vs.length=n) (hm:bL μ b (.cells vs.toArray e (0,0)) (.cells us.toArray e (0,0)) μ') (hc1:∀u∈us,cell1 u=true) (hg:cS all σ g)
  (kk:WL P X bad all K Q os σ μ' Ds):WL P X bad all K Q ((false,ix)::os) σ μ Ds:=
 aX ho hx hy hv (by rw[hn];exact hs) hm Yd (by rw[List.take_zero,aJA,aHO Yd];simp) hc1 hg kk
theorem _root_.Go.Fs.Zu{t:TypeId}{b:Nat}{n:Nat}{vs:List Value}{us:List Value}{e:TypeId}{μ':aC}(e9:(all[ix]?,ev σ x,ev σ y,v.cells)=(some ⟨none,.store t x y,ty,pos,aft,g⟩,some (.pointer (some ⟨b,0,none⟩)),some v,us.toArray))(hs:TS P t n)(hm:bL μ b (.cells vs.toArray e (0,0)) (.cells us.toArray e (0,0)) μ')(kk:WL P X bad all K Q os σ μ' Ds)(hn:us.length=n:=by exact Ya)(hl:vs.length=n:=by exact Ya)(hc1:∀u∈us,cell1 u=true:=by exact Yh)(hg:cS all σ g:=by exact aLJ):WL P X bad all K Q ((false,ix)::os) σ μ Ds:=bD (aGV (fun z=>z.1) e9) (aGV (fun z=>z.2.1) e9) (aGV (fun z=>z.2.2.1) e9) (aGV (fun z=>z.2.2.2) e9) hs hn hl hm hc1 hg kk
theorem dL{t e tr e':TypeId}{n sz:Nat}{cells:List Value}{ν:aC}{ats:Array TypeId}(ho:all[ix]?= some ⟨some d,.call {callee:=.builtin .len,args:=#[x],argTypes:=ats},tr,pos,aft,g⟩)(ht:P.underlying t=some (.slice e))(hx:ev σ x=some v)(hS:bN e' sz v n cells ν)(hat:ats[0]?= some t)
  (hN:Nat.blt d X.N=true) (hg:cS all σ g) (kk:WL P X bad all K Q os ((d,.int .i64 (n:Int))::σ) μ Ds):
  WL P X bad all K Q ((fl,ix)::os) σ μ Ds:=
 bH ho rfl rfl hN hg (fun ρ hρ w'=>by
  have hx':=hρ x _ hx;rcases hS with⟨a,rfl,rfl,_⟩|⟨b,cap,junk,rfl,_⟩
  ·simp[Builtin.len_,hat,hx',Sem.run_bind,TU.of ht w',goInt,Sem.run_pure,go_sem]
  ·simp[Builtin.len_,hat,hx',Sem.run_bind,TU.of ht w',goInt,Sem.run_pure,go_sem]) kk
theorem Hl.dropBoxes{a:Act}{w:World}(n:Nat)(h:Hl X σ μ Ds a w):Hl X σ (μ.drop n) Ds a w:=by
 obtain⟨h1,h2,h3,D,h4,h5,h6⟩:=h;have hμ:(μ.drop n).Sublist μ:=List.drop_sublist n μ;exact⟨h1,h2,h3,D,h4.sub (fun p hp=>hμ.mem hp) ((hμ.map (·.1)).nodup h4.nd),h5,h6.step (fun _ p hp=>aGR (aGA.2 ⟨p,hμ.mem hp,rfl⟩)) (fun _=>OX.refl _ _ _) h4.dom⟩
theorem bN.cells1{e:TypeId}{sz n:Nat}{cells:List Value}{ν:aC}(h:bN e sz v n cells ν):v.cells=[v].toArray:=by
 rcases h with⟨a,rfl,_⟩|⟨b,cap,junk,rfl,_⟩<;>rfl
theorem bN.cell1{e:TypeId}{sz n:Nat}{cells:List Value}{ν:aC}(h:bN e sz v n cells ν):∀u∈[v],Fs.cell1 u=true:=by
 rcases h with⟨a,rfl,_⟩|⟨b,cap,junk,rfl,_⟩<;>simp[Fs.cell1]

theorem jC{b:Frame}{a:Act}{k:List Item}{cs:List Frame}{w:World}{c:Code}:step P (lone (b.atR a (.code (.scope c)::k)) cs w)=.next (lone (b.atR a (.code c::.inScope c::k)) cs w):=
 step_lone_go (by simp[stepG,stepG.exec,Frame.atR])
theorem J5{b:Frame}{a:Act}{k:List Item}{cs:List Frame}{w:World}{c:Code}:step P (lone (b.atR a (.inScope c::k)) cs w)=.next (lone (b.atR a k) cs w):=
 step_lone_go (by simp[stepG,stepG.exec,Frame.atR])
def f6(Q:Exit→Act→World→Prop):Exit→Act→World→Prop
 |.goto _,_,_=>False
 |e,a,w=>Q e a w
theorem AE{F:Fence}{n:Nat}{c:Code}{a:Act}{w:World}(h:c.wpIn F n P (f6 Q) a w):(Code.scope c).wpIn F n P Q a w:=by
 intro b k cs hro hb hr;have h0:(lone (b.atR a (.code (.scope c)::k)) cs w).fenced P F:=fenced_calm hb hr rfl;obtain⟨e,a₁,w₁,hq,harr⟩:=h b (.inScope c::k) cs hro hb hr;cases e with
 |normal=>exact⟨.normal,a₁,w₁,hq,.head h0 jC (StepsIn.trans harr (.one (fenced_calm hb hr rfl) J5))⟩
 |exit id'=>
  have hx:exitTo id' (.inScope c::k)=exitTo id' k:=by simp[exitTo]
  exact⟨.exit id',a₁,w₁,hq,fun k' hk=>.head h0 jC (harr.1 k' (by rw[hx];exact hk)),
   fun hr' hk=>let ⟨k₁,h1,h2⟩:=harr.2 hr' (by rw[hx];exact hk);⟨k₁,h1,.head h0 jC h2⟩⟩
 |goto l=>exact hq.elim
 |ret=>exact⟨_,a₁,w₁,hq,.of_steps (.one h0 jC) harr⟩
 |panic ch=>exact⟨_,a₁,w₁,hq,.of_steps (.one h0 jC) harr⟩
 |outgrown=>exact⟨_,a₁,w₁,hq,.of_steps (.one h0 jC) harr⟩
theorem l7{c:Code}(h:WC P X (f6 Q) c σ μ Ds):WC P X Q (.scope c) σ μ Ds:=fun a w hh=>AE (h a w hh)
theorem lI(h:∀a w,Hl X σ μ Ds a w→Q .normal a w):∀a w,Hl X σ μ Ds a w→f6 Q .normal a w:=h
theorem qM(h:∀a w,Hl X σ μ Ds a w→Q .ret a w):∀a w,Hl X σ μ Ds a w→f6 Q .ret a w:=h
theorem aF(μ':aC)(h:μ=μ')(k:WL P X bad all K Q os σ μ' Ds):WL P X bad all K Q os σ μ Ds:=h▸k
theorem LD{c:Code}(μ':aC)(h:μ=μ')(k:WC P X Q c σ μ' Ds):WC P X Q c σ μ Ds:=h▸k
theorem Sl.cell1{α:Type}{R:Rd α}{D:aA}{sz:Nat}{v:Value}{xs:List α}(h:Sl D R sz v xs):∀u∈[v],Fs.cell1 u=true:=by
 obtain⟨a,cap,rfl,_⟩:=h;simp[Fs.cell1]
end Go.Fs
namespace Go.Fs
open Go.Proofs
namespace Tf
theorem follows:Tryz.prog.follows .mixedOrders=true:=by kernel_rfl
theorem _root_.Go.Fs.U3:type_of% Tryz.underlying3:=Tryz.underlying3
theorem _root_.Go.Fs.U4:type_of% Tryz.underlying4:=Tryz.underlying4
theorem _root_.Go.Fs.U5:type_of% Tryz.underlying5:=Tryz.underlying5
theorem _root_.Go.Fs.U9:type_of% Tryz.underlying9:=Tryz.underlying9
theorem _root_.Go.Fs.U20:type_of% Tryz.underlying20:=Tryz.underlying20
theorem _root_.Go.Fs.U22:type_of% Tryz.underlying22:=Tryz.underlying22
theorem _root_.Go.Fs.U25:type_of% Tryz.underlying25:=Tryz.underlying25
theorem _root_.Go.Fs.U26:type_of% Tryz.underlying26:=Tryz.underlying26
theorem _root_.Go.Fs.U29:type_of% Tryz.underlying29:=Tryz.underlying29
theorem _root_.Go.Fs.U30:type_of% Tryz.underlying30:=Tryz.underlying30
theorem _root_.Go.Fs.U33:type_of% Tryz.underlying33:=Tryz.underlying33
theorem _root_.Go.Fs.U34:type_of% Tryz.underlying34:=Tryz.underlying34
theorem _root_.Go.Fs.U37:type_of% Tryz.underlying37:=Tryz.underlying37
theorem _root_.Go.Fs.U38:type_of% Tryz.underlying38:=Tryz.underlying38
theorem _root_.Go.Fs.U43:type_of% Tryz.underlying43:=Tryz.underlying43
theorem _root_.Go.Fs.U51:type_of% Tryz.underlying51:=Tryz.underlying51
theorem _root_.Go.Fs.U99:type_of% Tryz.underlying99:=Tryz.underlying99
theorem _root_.Go.Fs.U101:type_of% Tryz.underlying101:=Tryz.underlying101
theorem _root_.Go.Fs.U113:type_of% Tryz.underlying113:=Tryz.underlying113
theorem _root_.Go.Fs.U117:type_of% Tryz.underlying117:=Tryz.underlying117
theorem _root_.Go.Fs.U136:type_of% Tryz.underlying136:=Tryz.underlying136
theorem _root_.Go.Fs.U174:type_of% Tryz.underlying174:=Tryz.underlying174
theorem _root_.Go.Fs.U179:type_of% Tryz.underlying179:=Tryz.underlying179
theorem _root_.Go.Fs.U186:type_of% Tryz.underlying186:=Tryz.underlying186
theorem _root_.Go.Fs.U205:type_of% Tryz.underlying205:=Tryz.underlying205
theorem _root_.Go.Fs.U210:type_of% Tryz.underlying210:=Tryz.underlying210
theorem _root_.Go.Fs.U240:type_of% Tryz.underlying240:=Tryz.underlying240
theorem _root_.Go.Fs.U246:type_of% Tryz.underlying246:=Tryz.underlying246
theorem _root_.Go.Fs.U255:type_of% Tryz.underlying255:=Tryz.underlying255
theorem _root_.Go.Fs.U257:type_of% Tryz.underlying257:=Tryz.underlying257
theorem _root_.Go.Fs.U263:type_of% Tryz.underlying263:=Tryz.underlying263
theorem _root_.Go.Fs.U275:type_of% Tryz.underlying275:=Tryz.underlying275
theorem _root_.Go.Fs.U276:type_of% Tryz.underlying276:=Tryz.underlying276
theorem _root_.Go.Fs.U282:type_of% Tryz.underlying282:=Tryz.underlying282
theorem _root_.Go.Fs.U295:type_of% Tryz.underlying295:=Tryz.underlying295
theorem _root_.Go.Fs.U303:type_of% Tryz.underlying303:=Tryz.underlying303
theorem _root_.Go.Fs.U309:type_of% Tryz.underlying309:=Tryz.underlying309
theorem _root_.Go.Fs.U315:type_of% Tryz.underlying315:=Tryz.underlying315
theorem _root_.Go.Fs.U317:type_of% Tryz.underlying317:=Tryz.underlying317
theorem _root_.Go.Fs.U327:type_of% Tryz.underlying327:=Tryz.underlying327
theorem a3:TA Tryz.prog 3 false:=TA.of Tryz.underlying3 _ rfl
theorem s3:TS Tryz.prog 3 1:=TS.of Yg
theorem z3:TZ Tryz.prog 3 (.int .i64 0):=TZ.of Yg
theorem i3:(Tryz.prog.info? 3).map (fun i=>Nat.ble 1 i.bytes&&Nat.ble i.bytes 4096)=some true:=by kernel_rfl
theorem a4:TA Tryz.prog 4 false:=TA.of Tryz.underlying4 _ rfl
theorem s4:TS Tryz.prog 4 1:=TS.of Yg
theorem z4:TZ Tryz.prog 4 (.bool false):=TZ.of Yg
theorem a5:TA Tryz.prog 5 false:=TA.of Tryz.underlying5 _ rfl
theorem s5:TS Tryz.prog 5 1:=TS.of Yg
theorem z5:TZ Tryz.prog 5 (.int .u8 0):=TZ.of Yg
theorem i5:(Tryz.prog.info? 5).map (fun i=>Nat.ble 1 i.bytes&&Nat.ble i.bytes 4096)=some true:=by kernel_rfl
theorem a9:TA Tryz.prog 9 false:=TA.of Tryz.underlying9 _ rfl
theorem s9:TS Tryz.prog 9 1:=TS.of Yg
theorem i9:(Tryz.prog.info? 9).map (fun i=>Nat.ble 1 i.bytes&&Nat.ble i.bytes 4096)=some true:=by kernel_rfl
theorem a22:TA Tryz.prog 22 false:=TA.of Tryz.underlying22 _ rfl
theorem s22:TS Tryz.prog 22 1:=TS.of Yg
theorem z22:TZ Tryz.prog 22 (.slice none 0 0):=TZ.of Yg
theorem a25:TA Tryz.prog 25 false:=TA.of Tryz.underlying25 _ rfl
theorem s25:TS Tryz.prog 25 1:=TS.of Yg
theorem z25:TZ Tryz.prog 25 (.slice none 0 0):=TZ.of Yg
theorem a26:TA Tryz.prog 26 false:=TA.of Tryz.underlying26 _ rfl
theorem s26:TS Tryz.prog 26 1:=TS.of Yg
theorem a28:TA Tryz.prog 28 true:=TA.of Tryz.underlying28 _ rfl
theorem s28:TS Tryz.prog 28 4:=TS.of Yg
theorem f28_0:TF Tryz.prog 28 0 0:=TF.of Tryz.underlying28 rfl s25 rfl
theorem f28_1:TF Tryz.prog 28 1 1:=TF.of Tryz.underlying28 rfl s26 rfl
theorem f28_2:TF Tryz.prog 28 2 2:=TF.of Tryz.underlying28 rfl s3 rfl
theorem f28_3:TF Tryz.prog 28 3 3:=TF.of Tryz.underlying28 rfl s3 rfl
theorem a29:TA Tryz.prog 29 false:=TA.of Tryz.underlying29 _ rfl
theorem s29:TS Tryz.prog 29 1:=TS.of Yg
theorem a30:TA Tryz.prog 30 false:=TA.of Tryz.underlying30 _ rfl
theorem s30:TS Tryz.prog 30 1:=TS.of Yg
theorem a32:TA Tryz.prog 32 true:=TA.of Tryz.underlying32 _ rfl
theorem s32:TS Tryz.prog 32 5:=TS.of Yg
theorem f32_0:TF Tryz.prog 32 0 0:=TF.of Tryz.underlying32 rfl s3 rfl
theorem f32_1:TF Tryz.prog 32 1 1:=TF.of Tryz.underlying32 rfl s29 rfl
theorem f32_2:TF Tryz.prog 32 2 2:=TF.of Tryz.underlying32 rfl s3 rfl
theorem f32_3:TF Tryz.prog 32 3 3:=TF.of Tryz.underlying32 rfl s25 rfl
theorem f32_4:TF Tryz.prog 32 4 4:=TF.of Tryz.underlying32 rfl s30 rfl
theorem a33:TA Tryz.prog 33 false:=TA.of Tryz.underlying33 _ rfl
theorem s33:TS Tryz.prog 33 1:=TS.of Yg
theorem z33:TZ Tryz.prog 33 (.slice none 0 0):=TZ.of Yg
theorem a34:TA Tryz.prog 34 false:=TA.of Tryz.underlying34 _ rfl
theorem s34:TS Tryz.prog 34 1:=TS.of Yg
theorem a36:TA Tryz.prog 36 true:=TA.of Tryz.underlying36 _ rfl
theorem s36:TS Tryz.prog 36 5:=TS.of Yg
theorem z36:TZ Tryz.prog 36 (.agg #[.int .i64 0,.int .i64 0,.int .i64 0,.slice none 0 0,.slice none 0 0]):=TZ.of Yg
theorem f36_0:TF Tryz.prog 36 0 0:=TF.of Tryz.underlying36 rfl s3 rfl
theorem f36_1:TF Tryz.prog 36 1 1:=TF.of Tryz.underlying36 rfl s3 rfl
theorem f36_2:TF Tryz.prog 36 2 2:=TF.of Tryz.underlying36 rfl s3 rfl
theorem f36_3:TF Tryz.prog 36 3 3:=TF.of Tryz.underlying36 rfl s33 rfl
theorem f36_4:TF Tryz.prog 36 4 4:=TF.of Tryz.underlying36 rfl s34 rfl
theorem a37:TA Tryz.prog 37 false:=TA.of Tryz.underlying37 _ rfl
theorem s37:TS Tryz.prog 37 1:=TS.of Yg
theorem a38:TA Tryz.prog 38 false:=TA.of Tryz.underlying38 _ rfl
theorem s38:TS Tryz.prog 38 1:=TS.of Yg
theorem a40:TA Tryz.prog 40 true:=TA.of Tryz.underlying40 _ rfl
theorem s40:TS Tryz.prog 40 3:=TS.of Yg
theorem f40_0:TF Tryz.prog 40 0 0:=TF.of Tryz.underlying40 rfl s37 rfl
theorem f40_1:TF Tryz.prog 40 1 1:=TF.of Tryz.underlying40 rfl s3 rfl
theorem f40_2:TF Tryz.prog 40 2 2:=TF.of Tryz.underlying40 rfl s38 rfl
theorem a42:TA Tryz.prog 42 true:=TA.of Tryz.underlying42 _ rfl
theorem s42:TS Tryz.prog 42 17:=TS.of Yg
theorem z42:TZ Tryz.prog 42 (.agg #[.slice none 0 0,.slice none 0 0,.int .i64 0,.int .i64 0,.int .i64 0,.slice none 0 0,.int .i64 0,.slice none 0 0,.slice none 0 0,.int .i64 0,.int .i64 0,.int .i64 0,.slice none 0 0,.slice none 0 0,.slice none 0 0,.int .i64 0,.slice none 0 0]):=TZ.of Yg
theorem p42:TP Tryz.prog 42 [(0,4),(4,5),(9,5),(14,3)]:=TP.of Tryz.underlying42 Yg Yg
theorem f42_0:TF Tryz.prog 42 0 0:=TF.of Tryz.underlying42 rfl s28 rfl
theorem f42_1:TF Tryz.prog 42 1 4:=TF.of Tryz.underlying42 rfl s32 rfl
theorem f42_2:TF Tryz.prog 42 2 9:=TF.of Tryz.underlying42 rfl s36 rfl
theorem f42_3:TF Tryz.prog 42 3 14:=TF.of Tryz.underlying42 rfl s40 rfl
theorem a44:TA Tryz.prog 44 false:=TA.of Tryz.underlying44 _ rfl
theorem s44:TS Tryz.prog 44 1:=TS.of Yg
theorem z44:TZ Tryz.prog 44 (.int .i64 0):=TZ.of Yg
theorem i44:(Tryz.prog.info? 44).map (fun i=>Nat.ble 1 i.bytes&&Nat.ble i.bytes 4096)=some true:=by kernel_rfl
theorem a51:TA Tryz.prog 51 false:=TA.of Tryz.underlying51 _ rfl
theorem s51:TS Tryz.prog 51 1:=TS.of Yg
theorem a65:TA Tryz.prog 65 true:=TA.of Tryz.underlying65 _ rfl
theorem s65:TS Tryz.prog 65 2:=TS.of Yg
theorem z65:TZ Tryz.prog 65 (.agg #[.int .i64 0,.int .i64 0]):=TZ.of Yg
theorem p65:TP Tryz.prog 65 [(0,1),(1,1)]:=TP.of Tryz.underlying65 Yg Yg
theorem f65_0:TF Tryz.prog 65 0 0:=TF.of Tryz.underlying65 rfl s3 rfl
theorem f65_1:TF Tryz.prog 65 1 1:=TF.of Tryz.underlying65 rfl s3 rfl
theorem a88:TA Tryz.prog 88 true:=TA.of Tryz.underlying88 _ rfl
theorem s88:TS Tryz.prog 88 2:=TS.of Yg
theorem z88:TZ Tryz.prog 88 (.agg #[.int .i64 0,.int .i64 0]):=TZ.of Yg
theorem p88:TP Tryz.prog 88 [(0,1),(1,1)]:=TP.of Tryz.underlying88 Yg Yg
theorem f88_0:TF Tryz.prog 88 0 0:=TF.of Tryz.underlying88 rfl s3 rfl
theorem f88_1:TF Tryz.prog 88 1 1:=TF.of Tryz.underlying88 rfl s3 rfl
theorem a99:TA Tryz.prog 99 true:=TA.of Tryz.underlying99 _ rfl
theorem s99:TS Tryz.prog 99 2:=TS.of Yg
theorem z99:TZ Tryz.prog 99 (.agg #[.int .i64 0,.int .i64 0]):=TZ.of Yg
theorem i99:(Tryz.prog.info? 99).map (fun i=>Nat.ble 1 i.bytes&&Nat.ble i.bytes 4096)=some true:=by kernel_rfl
theorem p99:TP Tryz.prog 99 [(0,1),(1,1)]:=TP.of Tryz.underlying99 Yg Yg
theorem f99_0:TF Tryz.prog 99 0 0:=TF.of Tryz.underlying99 rfl s3 rfl
theorem f99_1:TF Tryz.prog 99 1 1:=TF.of Tryz.underlying99 rfl s3 rfl
theorem a101:TA Tryz.prog 101 true:=TA.of Tryz.underlying101 _ rfl
theorem s101:TS Tryz.prog 101 3:=TS.of Yg
theorem z101:TZ Tryz.prog 101 (.agg #[.int .i64 0,.int .i64 0,.int .i64 0]):=TZ.of Yg
theorem i101:(Tryz.prog.info? 101).map (fun i=>Nat.ble 1 i.bytes&&Nat.ble i.bytes 4096)=some true:=by kernel_rfl
theorem a103:TA Tryz.prog 103 true:=TA.of Tryz.underlying103 _ rfl
theorem s103:TS Tryz.prog 103 4:=TS.of Yg
theorem z103:TZ Tryz.prog 103 (.agg #[.int .i64 0,.int .i64 0,.int .i64 0,.int .i64 0]):=TZ.of Yg
theorem i103:(Tryz.prog.info? 103).map (fun i=>Nat.ble 1 i.bytes&&Nat.ble i.bytes 4096)=some true:=by kernel_rfl
theorem p103:TP Tryz.prog 103 [(0,1),(1,3)]:=TP.of Tryz.underlying103 Yg Yg
theorem f103_0:TF Tryz.prog 103 0 0:=TF.of Tryz.underlying103 rfl s3 rfl
theorem f103_1:TF Tryz.prog 103 1 1:=TF.of Tryz.underlying103 rfl s101 rfl
theorem a113:TA Tryz.prog 113 false:=TA.of Tryz.underlying113 _ rfl
theorem s113:TS Tryz.prog 113 1:=TS.of Yg
theorem s115:TS Tryz.prog 115 2:=TS.of Yg
theorem z115:TZ Tryz.prog 115 (.agg #[.pointer none,.slice none 0 0]):=TZ.of Yg
theorem f115_0:TF Tryz.prog 115 0 0:=TF.of Tryz.underlying115 rfl s113 rfl
theorem f115_1:TF Tryz.prog 115 1 1:=TF.of Tryz.underlying115 rfl s51 rfl
theorem a133:TA Tryz.prog 133 true:=TA.of Tryz.underlying133 _ rfl
theorem s133:TS Tryz.prog 133 2:=TS.of Yg
theorem z133:TZ Tryz.prog 133 (.agg #[.int .i64 0,.int .i64 0]):=TZ.of Yg
theorem i133:(Tryz.prog.info? 133).map (fun i=>Nat.ble 1 i.bytes&&Nat.ble i.bytes 4096)=some true:=by kernel_rfl
theorem p133:TP Tryz.prog 133 [(0,1),(1,1)]:=TP.of Tryz.underlying133 Yg Yg
theorem f133_0:TF Tryz.prog 133 0 0:=TF.of Tryz.underlying133 rfl s3 rfl
theorem f133_1:TF Tryz.prog 133 1 1:=TF.of Tryz.underlying133 rfl s3 rfl
theorem a136:TA Tryz.prog 136 false:=TA.of Tryz.underlying136 _ rfl
theorem s136:TS Tryz.prog 136 1:=TS.of Yg
theorem z136:TZ Tryz.prog 136 (.slice none 0 0):=TZ.of Yg
theorem a150:TA Tryz.prog 150 false:=TA.of Tryz.underlying150 _ rfl
theorem a156:TA Tryz.prog 156 true:=TA.of Tryz.underlying156 _ rfl
theorem s156:TS Tryz.prog 156 3:=TS.of Yg
theorem z156:TZ Tryz.prog 156 (.agg #[.bool false,.int .i64 0,.int .i64 0]):=TZ.of Yg
theorem i156:(Tryz.prog.info? 156).map (fun i=>Nat.ble 1 i.bytes&&Nat.ble i.bytes 4096)=some true:=by kernel_rfl
theorem p156:TP Tryz.prog 156 [(0,1),(1,1),(2,1)]:=TP.of Tryz.underlying156 Yg Yg
theorem f156_0:TF Tryz.prog 156 0 0:=TF.of Tryz.underlying156 rfl s4 rfl
theorem f156_1:TF Tryz.prog 156 1 1:=TF.of Tryz.underlying156 rfl s3 rfl
theorem f156_2:TF Tryz.prog 156 2 2:=TF.of Tryz.underlying156 rfl s3 rfl
theorem a158:TA Tryz.prog 158 true:=TA.of Tryz.underlying158 _ rfl
theorem s158:TS Tryz.prog 158 4:=TS.of Yg
theorem z158:TZ Tryz.prog 158 (.agg #[.int .i64 0,.int .i64 0,.int .i64 0,.int .i64 0]):=TZ.of Yg
theorem i158:(Tryz.prog.info? 158).map (fun i=>Nat.ble 1 i.bytes&&Nat.ble i.bytes 4096)=some true:=by kernel_rfl
theorem p158:TP Tryz.prog 158 [(0,1),(1,1),(2,2)]:=TP.of Tryz.underlying158 Yg Yg
theorem f158_0:TF Tryz.prog 158 0 0:=TF.of Tryz.underlying158 rfl s3 rfl
theorem f158_1:TF Tryz.prog 158 1 1:=TF.of Tryz.underlying158 rfl s3 rfl
theorem f158_2:TF Tryz.prog 158 2 2:=TF.of Tryz.underlying158 rfl s99 rfl
theorem a160:TA Tryz.prog 160 true:=TA.of Tryz.underlying160 _ rfl
theorem s160:TS Tryz.prog 160 3:=TS.of Yg
theorem z160:TZ Tryz.prog 160 (.agg #[.int .i64 0,.int .i64 0,.int .i64 0]):=TZ.of Yg
theorem i160:(Tryz.prog.info? 160).map (fun i=>Nat.ble 1 i.bytes&&Nat.ble i.bytes 4096)=some true:=by kernel_rfl
theorem p160:TP Tryz.prog 160 [(0,1),(1,1),(2,1)]:=TP.of Tryz.underlying160 Yg Yg
theorem f160_0:TF Tryz.prog 160 0 0:=TF.of Tryz.underlying160 rfl s3 rfl
theorem f160_1:TF Tryz.prog 160 1 1:=TF.of Tryz.underlying160 rfl s3 rfl
theorem f160_2:TF Tryz.prog 160 2 2:=TF.of Tryz.underlying160 rfl s3 rfl
theorem a162:TA Tryz.prog 162 true:=TA.of Tryz.underlying162 _ rfl
theorem s162:TS Tryz.prog 162 3:=TS.of Yg
theorem z162:TZ Tryz.prog 162 (.agg #[.int .i64 0,.int .i64 0,.int .i64 0]):=TZ.of Yg
theorem i162:(Tryz.prog.info? 162).map (fun i=>Nat.ble 1 i.bytes&&Nat.ble i.bytes 4096)=some true:=by kernel_rfl
theorem p162:TP Tryz.prog 162 [(0,1),(1,2)]:=TP.of Tryz.underlying162 Yg Yg
theorem f162_0:TF Tryz.prog 162 0 0:=TF.of Tryz.underlying162 rfl s3 rfl
theorem f162_1:TF Tryz.prog 162 1 1:=TF.of Tryz.underlying162 rfl s65 rfl
theorem a169:TA Tryz.prog 169 false:=TA.of Tryz.underlying169 _ rfl
theorem s169:TS Tryz.prog 169 1:=TS.of Yg
theorem z169:TZ Tryz.prog 169 (.pointer none):=TZ.of Yg
theorem a174:TA Tryz.prog 174 false:=TA.of Tryz.underlying174 _ rfl
theorem s174:TS Tryz.prog 174 1:=TS.of Yg
theorem z176:TZ Tryz.prog 176 (.agg #[.slice none 0 0,.slice none 0 0,.int .i64 0,.int .i64 0,.slice none 0 0]):=TZ.of Yg
theorem p176:TP Tryz.prog 176 [(0,4),(4,1)]:=TP.of Tryz.underlying176 Yg Yg
theorem f176_1:TF Tryz.prog 176 1 4:=TF.of Tryz.underlying176 rfl s174 rfl
theorem a179:TA Tryz.prog 179 true:=TA.of Tryz.underlying179 _ rfl
theorem s179:TS Tryz.prog 179 9:=TS.of Yg
theorem z179:TZ Tryz.prog 179 (.agg #[.int .i64 0,.int .i64 0,.int .i64 0,.int .i64 0,.int .i64 0,.int .i64 0,.int .i64 0,.int .i64 0,.int .i64 0]):=TZ.of Yg
theorem i179:(Tryz.prog.info? 179).map (fun i=>Nat.ble 1 i.bytes&&Nat.ble i.bytes 4096)=some true:=by kernel_rfl
theorem a186:TA Tryz.prog 186 true:=TA.of Tryz.underlying186 _ rfl
theorem s186:TS Tryz.prog 186 10:=TS.of Yg
theorem z186:TZ Tryz.prog 186 (.agg #[.int .i64 0,.int .i64 0,.int .i64 0,.int .i64 0,.int .i64 0,.int .i64 0,.int .i64 0,.int .i64 0,.int .i64 0,.int .i64 0]):=TZ.of Yg
theorem a188:TA Tryz.prog 188 false:=TA.of Tryz.underlying188 _ rfl
theorem s188:TS Tryz.prog 188 1:=TS.of Yg
theorem z188:TZ Tryz.prog 188 (.pointer none):=TZ.of Yg
theorem a191:TA Tryz.prog 191 false:=TA.of Tryz.underlying191 _ rfl
theorem s191:TS Tryz.prog 191 1:=TS.of Yg
theorem z191:TZ Tryz.prog 191 (.nilFunc):=TZ.of Yg
theorem a192:TA Tryz.prog 192 false:=TA.of Tryz.underlying192 _ rfl
theorem s192:TS Tryz.prog 192 1:=TS.of Yg
theorem z195:TZ Tryz.prog 195 (.agg #[.nilFunc]):=TZ.of Yg
theorem p195:TP Tryz.prog 195 [(0,1)]:=TP.of Tryz.underlying195 Yg Yg
theorem f195_0:TF Tryz.prog 195 0 0:=TF.of Tryz.underlying195 rfl s192 rfl
theorem a198:TA Tryz.prog 198 false:=TA.of Tryz.underlying198 _ rfl
theorem s198:TS Tryz.prog 198 1:=TS.of Yg
theorem z198:TZ Tryz.prog 198 (.nilFunc):=TZ.of Yg
theorem a205:TA Tryz.prog 205 true:=TA.of Tryz.underlying205 _ rfl
theorem s205:TS Tryz.prog 205 4:=TS.of Yg
theorem z205:TZ Tryz.prog 205 (.agg #[.int .i64 0,.int .i64 0,.int .i64 0,.int .i64 0]):=TZ.of Yg
theorem a207:TA Tryz.prog 207 true:=TA.of Tryz.underlying207 _ rfl
theorem s207:TS Tryz.prog 207 10:=TS.of Yg
theorem z207:TZ Tryz.prog 207 (.agg #[.int .i64 0,.int .i64 0,.int .i64 0,.int .i64 0,.int .i64 0,.int .i64 0,.int .i64 0,.int .i64 0,.int .i64 0,.int .i64 0]):=TZ.of Yg
theorem i207:(Tryz.prog.info? 207).map (fun i=>Nat.ble 1 i.bytes&&Nat.ble i.bytes 4096)=some true:=by kernel_rfl
theorem p207:TP Tryz.prog 207 [(0,4),(4,4),(8,1),(9,1)]:=TP.of Tryz.underlying207 Yg Yg
theorem f207_0:TF Tryz.prog 207 0 0:=TF.of Tryz.underlying207 rfl s205 rfl
theorem f207_1:TF Tryz.prog 207 1 4:=TF.of Tryz.underlying207 rfl s205 rfl
theorem f207_2:TF Tryz.prog 207 2 8:=TF.of Tryz.underlying207 rfl s3 rfl
theorem f207_3:TF Tryz.prog 207 3 9:=TF.of Tryz.underlying207 rfl s3 rfl
theorem a208:TA Tryz.prog 208 false:=TA.of Tryz.underlying208 _ rfl
theorem a210:TA Tryz.prog 210 false:=TA.of Tryz.underlying210 _ rfl
theorem s210:TS Tryz.prog 210 1:=TS.of Yg
theorem z210:TZ Tryz.prog 210 (.slice none 0 0):=TZ.of Yg
theorem a212:TA Tryz.prog 212 false:=TA.of Tryz.underlying212 _ rfl
theorem a215:TA Tryz.prog 215 false:=TA.of Tryz.underlying215 _ rfl
theorem s215:TS Tryz.prog 215 1:=TS.of Yg
theorem s218:TS Tryz.prog 218 1:=TS.of Yg
theorem z218:TZ Tryz.prog 218 (.agg #[.nilFunc]):=TZ.of Yg
theorem p218:TP Tryz.prog 218 [(0,1)]:=TP.of Tryz.underlying218 Yg Yg
theorem f218_0:TF Tryz.prog 218 0 0:=TF.of Tryz.underlying218 rfl s215 rfl
theorem a219:TA Tryz.prog 219 false:=TA.of Tryz.underlying219 _ rfl
theorem s219:TS Tryz.prog 219 1:=TS.of Yg
theorem z219:TZ Tryz.prog 219 (.nilFunc):=TZ.of Yg
theorem a223:TA Tryz.prog 223 true:=TA.of Tryz.underlying223 _ rfl
theorem s223:TS Tryz.prog 223 2:=TS.of Yg
theorem z223:TZ Tryz.prog 223 (.agg #[.int .i64 0,.int .i64 0]):=TZ.of Yg
theorem i223:(Tryz.prog.info? 223).map (fun i=>Nat.ble 1 i.bytes&&Nat.ble i.bytes 4096)=some true:=by kernel_rfl
theorem p223:TP Tryz.prog 223 [(0,1),(1,1)]:=TP.of Tryz.underlying223 Yg Yg
theorem f223_0:TF Tryz.prog 223 0 0:=TF.of Tryz.underlying223 rfl s3 rfl
theorem f223_1:TF Tryz.prog 223 1 1:=TF.of Tryz.underlying223 rfl s3 rfl
theorem s240:TS Tryz.prog 240 1:=TS.of Yg
theorem z240:TZ Tryz.prog 240 (.agg #[.int .i64 0]):=TZ.of Yg
theorem p240:TP Tryz.prog 240 [(0,1)]:=TP.of Tryz.underlying240 Yg Yg
theorem f240_0:TF Tryz.prog 240 0 0:=TF.of Tryz.underlying240 rfl s44 rfl
theorem a242:TA Tryz.prog 242 false:=TA.of Tryz.underlying242 _ rfl
theorem s242:TS Tryz.prog 242 1:=TS.of Yg
theorem s244:TS Tryz.prog 244 2:=TS.of Yg
theorem z244:TZ Tryz.prog 244 (.agg #[.int .i64 0,.nilFunc]):=TZ.of Yg
theorem p244:TP Tryz.prog 244 [(0,1),(1,1)]:=TP.of Tryz.underlying244 Yg Yg
theorem f244_0:TF Tryz.prog 244 0 0:=TF.of Tryz.underlying244 rfl s3 rfl
theorem f244_1:TF Tryz.prog 244 1 1:=TF.of Tryz.underlying244 rfl s242 rfl
theorem z253:TZ Tryz.prog 253 (.agg #[.slice none 0 0,.slice none 0 0,.int .i64 0,.int .i64 0,.int .i64 0,.slice none 0 0,.int .i64 0,.slice none 0 0,.slice none 0 0,.int .i64 0,.int .i64 0,.int .i64 0,.slice none 0 0,.slice none 0 0,.slice none 0 0,.int .i64 0,.slice none 0 0]):=TZ.of Yg
theorem p253:TP Tryz.prog 253 [(0,17)]:=TP.of Tryz.underlying253 Yg Yg
theorem f253_0:TF Tryz.prog 253 0 0:=TF.of Tryz.underlying253 rfl s42 rfl
theorem a255:TA Tryz.prog 255 true:=TA.of Tryz.underlying255 _ rfl
theorem s255:TS Tryz.prog 255 3:=TS.of Yg
theorem z255:TZ Tryz.prog 255 (.agg #[.int .u8 0,.int .u8 0,.int .u8 0]):=TZ.of Yg
theorem a257:TA Tryz.prog 257 true:=TA.of Tryz.underlying257 _ rfl
theorem s257:TS Tryz.prog 257 4:=TS.of Yg
theorem z257:TZ Tryz.prog 257 (.agg #[.int .u8 0,.int .u8 0,.int .u8 0,.int .u8 0]):=TZ.of Yg
theorem a259:TA Tryz.prog 259 true:=TA.of Tryz.underlying259 _ rfl
theorem s259:TS Tryz.prog 259 7:=TS.of Yg
theorem z259:TZ Tryz.prog 259 (.agg #[.int .u8 0,.int .u8 0,.int .u8 0,.int .u8 0,.int .u8 0,.int .u8 0,.int .u8 0]):=TZ.of Yg
theorem p259:TP Tryz.prog 259 [(0,3),(3,4)]:=TP.of Tryz.underlying259 Yg Yg
theorem f259_0:TF Tryz.prog 259 0 0:=TF.of Tryz.underlying259 rfl s255 rfl
theorem f259_1:TF Tryz.prog 259 1 3:=TF.of Tryz.underlying259 rfl s257 rfl
theorem a268:TA Tryz.prog 268 false:=TA.of Tryz.underlying268 _ rfl
theorem a271:TA Tryz.prog 271 false:=TA.of Tryz.underlying271 _ rfl
theorem a275:TA Tryz.prog 275 false:=TA.of Tryz.underlying275 _ rfl
theorem s275:TS Tryz.prog 275 1:=TS.of Yg
theorem a276:TA Tryz.prog 276 false:=TA.of Tryz.underlying276 _ rfl
theorem s276:TS Tryz.prog 276 1:=TS.of Yg
theorem z278:TZ Tryz.prog 278 (.agg #[.int .i64 0,.slice none 0 0,.int .i64 0,.slice none 0 0,.slice none 0 0,.slice none 0 0,.map none]):=TZ.of Yg
theorem p278:TP Tryz.prog 278 [(0,5),(5,1),(6,1)]:=TP.of Tryz.underlying278 Yg Yg
theorem f278_0:TF Tryz.prog 278 0 0:=TF.of Tryz.underlying278 rfl s32 rfl
theorem f278_1:TF Tryz.prog 278 1 5:=TF.of Tryz.underlying278 rfl s276 rfl
theorem f278_2:TF Tryz.prog 278 2 6:=TF.of Tryz.underlying278 rfl s275 rfl
theorem a282:TA Tryz.prog 282 true:=TA.of Tryz.underlying282 _ rfl
theorem s282:TS Tryz.prog 282 10:=TS.of Yg
theorem z282:TZ Tryz.prog 282 (.agg #[.int .i64 0,.int .i64 0,.int .i64 0,.int .i64 0,.int .i64 0,.int .i64 0,.int .i64 0,.int .i64 0,.int .i64 0,.int .i64 0]):=TZ.of Yg
theorem i282:(Tryz.prog.info? 282).map (fun i=>Nat.ble 1 i.bytes&&Nat.ble i.bytes 4096)=some true:=by kernel_rfl
theorem s285:TS Tryz.prog 285 2:=TS.of Yg
theorem z285:TZ Tryz.prog 285 (.agg #[.int .i64 0,.int .i64 0]):=TZ.of Yg
theorem p285:TP Tryz.prog 285 [(0,1),(1,1)]:=TP.of Tryz.underlying285 Yg Yg
theorem f285_0:TF Tryz.prog 285 0 0:=TF.of Tryz.underlying285 rfl s3 rfl
theorem f285_1:TF Tryz.prog 285 1 1:=TF.of Tryz.underlying285 rfl s3 rfl
theorem a288:TA Tryz.prog 288 false:=TA.of Tryz.underlying288 _ rfl
theorem a289:TA Tryz.prog 289 false:=TA.of Tryz.underlying289 _ rfl
theorem a295:TA Tryz.prog 295 false:=TA.of Tryz.underlying295 _ rfl
theorem s295:TS Tryz.prog 295 1:=TS.of Yg
theorem z297:TZ Tryz.prog 297 (.agg #[.int .i64 0,.int .i64 0,.int .i64 0,.slice none 0 0,.slice none 0 0,.map none]):=TZ.of Yg
theorem p297:TP Tryz.prog 297 [(0,5),(5,1)]:=TP.of Tryz.underlying297 Yg Yg
theorem f297_0:TF Tryz.prog 297 0 0:=TF.of Tryz.underlying297 rfl s36 rfl
theorem f297_1:TF Tryz.prog 297 1 5:=TF.of Tryz.underlying297 rfl s295 rfl
theorem a303:TA Tryz.prog 303 false:=TA.of Tryz.underlying303 _ rfl
theorem s303:TS Tryz.prog 303 1:=TS.of Yg
theorem z303:TZ Tryz.prog 303 (.slice none 0 0):=TZ.of Yg
theorem a305:TA Tryz.prog 305 false:=TA.of Tryz.underlying305 _ rfl
theorem a307:TA Tryz.prog 307 false:=TA.of Tryz.underlying307 _ rfl
theorem a309:TA Tryz.prog 309 false:=TA.of Tryz.underlying309 _ rfl
theorem s309:TS Tryz.prog 309 1:=TS.of Yg
theorem z311:TZ Tryz.prog 311 (.agg #[.slice none 0 0,.int .i64 0,.slice none 0 0,.map none]):=TZ.of Yg
theorem p311:TP Tryz.prog 311 [(0,3),(3,1)]:=TP.of Tryz.underlying311 Yg Yg
theorem f311_0:TF Tryz.prog 311 0 0:=TF.of Tryz.underlying311 rfl s40 rfl
theorem f311_1:TF Tryz.prog 311 1 3:=TF.of Tryz.underlying311 rfl s309 rfl
theorem a315:TA Tryz.prog 315 false:=TA.of Tryz.underlying315 _ rfl
theorem s315:TS Tryz.prog 315 1:=TS.of Yg
theorem z315:TZ Tryz.prog 315 (.slice none 0 0):=TZ.of Yg
theorem a317:TA Tryz.prog 317 true:=TA.of Tryz.underlying317 _ rfl
theorem s317:TS Tryz.prog 317 7:=TS.of Yg
theorem a319:TA Tryz.prog 319 true:=TA.of Tryz.underlying319 _ rfl
theorem s319:TS Tryz.prog 319 9:=TS.of Yg
theorem z319:TZ Tryz.prog 319 (.agg #[.int .i64 0,.int .i64 0,.int .i64 0,.int .i64 0,.int .i64 0,.int .i64 0,.int .i64 0,.int .i64 0,.int .i64 0]):=TZ.of Yg
theorem i319:(Tryz.prog.info? 319).map (fun i=>Nat.ble 1 i.bytes&&Nat.ble i.bytes 4096)=some true:=by kernel_rfl
theorem f319_0:TF Tryz.prog 319 0 0:=TF.of Tryz.underlying319 rfl s3 rfl
theorem f319_1:TF Tryz.prog 319 1 1:=TF.of Tryz.underlying319 rfl s3 rfl
theorem f319_2:TF Tryz.prog 319 2 2:=TF.of Tryz.underlying319 rfl s317 rfl
theorem a347:TA Tryz.prog 347 false:=TA.of Tryz.underlying347 _ rfl
theorem a349:TA Tryz.prog 349 false:=TA.of Tryz.underlying349 _ rfl
theorem a352:TA Tryz.prog 352 false:=TA.of Tryz.underlying352 _ rfl
theorem a358:TA Tryz.prog 358 true:=TA.of Tryz.underlying358 _ rfl
theorem s358:TS Tryz.prog 358 9:=TS.of Yg
theorem z358:TZ Tryz.prog 358 (.agg #[.int .i64 0,.int .i64 0,.int .i64 0,.int .i64 0,.int .i64 0,.int .i64 0,.int .i64 0,.int .i64 0,.int .i64 0]):=TZ.of Yg
theorem p358:TP Tryz.prog 358 [(0,1),(1,4),(5,4)]:=TP.of Tryz.underlying358 Yg Yg
theorem a362:TA Tryz.prog 362 false:=TA.of Tryz.underlying362 _ rfl
theorem a363:TA Tryz.prog 363 false:=TA.of Tryz.underlying363 _ rfl
theorem a367:TA Tryz.prog 367 true:=TA.of Tryz.underlying367 _ rfl
theorem s367:TS Tryz.prog 367 8:=TS.of Yg
theorem z367:TZ Tryz.prog 367 (.agg #[.int .i64 0,.int .i64 0,.int .i64 0,.int .i64 0,.int .i64 0,.int .i64 0,.int .i64 0,.int .i64 0]):=TZ.of Yg
theorem p367:TP Tryz.prog 367 [(0,1),(1,7)]:=TP.of Tryz.underlying367 Yg Yg
theorem f367_0:TF Tryz.prog 367 0 0:=TF.of Tryz.underlying367 rfl s3 rfl
theorem f367_1:TF Tryz.prog 367 1 1:=TF.of Tryz.underlying367 rfl s317 rfl
theorem a381:TA Tryz.prog 381 false:=TA.of Tryz.underlying381 _ rfl
theorem s381:TS Tryz.prog 381 1:=TS.of Yg
theorem z384:TZ Tryz.prog 384 (.agg #[.nilFunc]):=TZ.of Yg
theorem p384:TP Tryz.prog 384 [(0,1)]:=TP.of Tryz.underlying384 Yg Yg
theorem f384_0:TF Tryz.prog 384 0 0:=TF.of Tryz.underlying384 rfl s381 rfl
end Tf
end Go.Fs
namespace Go.Fs.C1
structure rO where
 back:Bool
 many:Int
 num:Int
 deriving DecidableEq
structure dF where
 places:List Int
 counts:List rO
 wrong:Int
 off:Int
 deriving DecidableEq
def fL(n lo hi:Int):Bool:=decide (lo≤n)&&decide (n≤hi)
def mR(n:Int):Bool:=fL n 0 2
def lU(len:Nat)(c:rO):Bool:=fL c.many 0 len&&fL c.num 0 9
def aT(r:dF):Int:=
 if 9<r.places.length∨6<r.counts.length then 3
 else if r.places.length=0∨fL r.wrong 0 6=false∨fL r.off 0 9=false∨r.places.all mR=false∨r.counts.all (lU r.places.length)=false then 1
 else 0
def iH(l:List Int):Nat:=(l.filter (· ==2)).length
def IK(t p:Int):Bool:=fL t 0 1&&(p==2||t==p)
def mT(r:dF)(t:List Int):Bool:=(t.length==r.places.length)&&(t.zip r.places).all fun x=>IK x.1 x.2
def cY(l:List Int)(i k:Nat):Int:=((l.drop i).take k).sum
def N0(t:List Int)(c:rO):Int:=if c.back then cY t (t.length-c.many.toNat) c.many.toNat else cY t 0 c.many.toNat
def gQ(t:List Int)(c:rO):Int:=max (N0 t c-c.num) (c.num-N0 t c)
def dV(r:dF)(t:List Int):Bool:=r.counts.all fun c=>decide (gQ t c≤r.off)
def nA(r:dF)(t:List Int):Nat:=(r.counts.filter fun c=>decide (0<gQ t c)).length
def cQ:List Int→List (List Int)
 | []=>[[]]
 |p::ps=>(if p=2∨p=0 then(cQ ps).map (0:: ·)else [])++(if p=2∨p=1 then(cQ ps).map (1:: ·)else [])
def fits(r:dF)(t:List Int):Bool:=dV r t&&decide ((nA r t:Int)≤r.wrong)
def truths(r:dF):List (List Int):=(cQ r.places).filter (fits r)
def kV(t:List Int)(i j:Nat):Int:=cY t i (j+1-i)
def oZ:List Int→Int
 | []=>0
 |x::xs=>xs.foldl min x
def nI:List Int→Int
 | []=>0
 |x::xs=>xs.foldl max x

theorem wV{l:List Int}{i k:Nat}{x:Int}(h:l[i+k]?= some x):cY l i (k+1)=cY l i k+x:=by
 unfold cY;rw[aGT,aIQ,h];simp
theorem eV{l:List Int}(hb:∀x∈l,0≤x∧x≤1)(i k:Nat):0≤cY l i k∧cY l i k≤k:=by
 induction k with
 |zero=>simp[cY]
 |succ k ih=>
  cases h:l[i+k]? with
  |none=>
   have:cY l i (k+1)=cY l i k:=by
    unfold cY;rw[aGT,aIQ,h];simp
   rw[this];omega
  |some x=>rw[wV h];have:=hb x (aGD h);omega
theorem uJ(l:List Int)(i k m:Nat):cY l i (k+m)=cY l i k+cY l (i+k) m:=by
 unfold cY;rw[List.take_add,aKA];simp
def dY(t:List Int):List Int:=t++List.replicate (9-t.length) 0
theorem fD{t:List Int}(h:t.length≤9):(dY t).length=9:=by simp[dY];omega
theorem DJ{t:List Int}(h:∀x∈t,0≤x∧x≤1):∀x∈dY t,0≤x∧x≤1:=by
 intro x hx;rcases aGP.1 hx with hx|hx
 ·exact h x hx
 ·rw[(List.mem_replicate.1 hx).2];omega
theorem vE(n:Nat):(List.replicate n (0:Int)).sum=0:=by
 induction n with
 |zero=>rfl
 |succ n ih=>rw[List.replicate_succ,List.sum_cons,ih];rfl
theorem w0(t:List Int)(k:Nat):cY (dY t) 0 k=cY t 0 k:=by
 unfold cY dY;simp only[aJU,List.take_append,List.sum_append,List.take_replicate,vE];omega
def jE(c:List Int):List Int:=(List.range 10).map fun k=>cY c 0 k
def lL(c:List Int)(k:Nat):List Int:=(List.range 10).map fun j=>if j≤k then cY c 0 j else 0
theorem lM(c:List Int):(jE c).length=10:=by simp[jE]
theorem K4(c:List Int)(k:Nat):(lL c k).length=10:=by simp[lL]
theorem m4(c:List Int):lL c 9=jE c:=by simp[lL,jE,List.range,List.range.loop]
theorem y1(c:List Int)(k:Nat)(h:k<10):(lL c k)[k]?= some (cY c 0 k):=by simp[lL,h]
theorem BA(c:List Int)(k:Nat):(lL c k).set (k+1) (cY c 0 (k+1))=lL c (k+1):=by
 apply aLE;intro j;rw[List.getElem?_set];simp only[lL,aHD];by_cases hj:k+1=j
 ·subst hj;by_cases hk:k+1<10
  ·simp[hk]
  ·simp[hk]
 ·rw[aGQ hj];by_cases hk:j<10
  ·simp only[aKY hk,aHM];by_cases h1:j≤k
   ·rw[aGX h1,aGX Yd]
   ·rw[aGQ h1,aGQ Yd]
  ·simp[hk]
theorem nS(c:List Int)(k:Nat)(h:k<10):(jE c)[k]?= some (cY c 0 k):=by simp[jE,h]
theorem CO(t:List Int):jE (dY t)=jE t:=by simp[jE,w0]

structure oD(r:dF):Prop where
 len0:0<r.places.length
 len9:r.places.length≤9
 cnt6:r.counts.length≤6
 wrong:0≤r.wrong∧r.wrong≤6
 off:0≤r.off∧r.off≤9
 place:∀p∈r.places,0≤p∧p≤2
 cnt:∀c∈r.counts,0≤c.many∧c.many≤r.places.length∧0≤c.num∧c.num≤9
theorem cE{n lo hi:Int}:fL n lo hi=true ↔ lo≤n∧n≤hi:=by simp[fL]
theorem Y3{r:dF}:aT r=0 ↔ oD r:=by
 unfold aT;constructor
 ·intro h;split at h
  ·cases h
  ·split at h
   ·cases h
   ·rename_i h1 h2;simp only[not_or]at h1 h2;obtain⟨a,b,c,d,e⟩:=h2;simp only[Bool.not_eq_false,aGY,mR,lU,aGO,cE]at b c d e;exact⟨by omega,by omega,by omega,b,c,d,fun x hx=>⟨(e x hx).1.1,(e x hx).1.2,(e x hx).2.1,(e x hx).2.2⟩⟩
 ·intro h;rw[aGQ (by have:=h.len9;have:=h.cnt6;omega),aGQ]
  simp only[not_or,Bool.not_eq_false,aGY,mR,lU,aGO,cE];exact⟨by have:=h.len0;omega,h.wrong,h.off,h.place,fun x hx=>⟨⟨(h.cnt x hx).1,(h.cnt x hx).2.1⟩,(h.cnt x hx).2.2⟩⟩
def lN(r:dF)(t:List Int):Prop:=t.length=r.places.length∧∀x∈t,0≤x∧x≤1
def aFP(r:dF)(t:List Int):Bool:=(t.length==r.places.length)&&t.all (fun x=>fL x 0 1)&&(t.zip r.places).all fun x=>x.2==2||x.1==x.2
theorem xP{α β:Type}{p:α→Bool}:∀{l:List α} {m:List β},l.length=m.length→((l.zip m).all fun x=>p x.1)=l.all p
 | [],[],_=>rfl
 |a::l,b::m,h=>by simp only[aLB,List.all_cons];rw[xP Yal]
theorem aBE(r:dF)(t:List Int):aFP r t=mT r t:=by
 unfold aFP mT IK;by_cases h:t.length=r.places.length
 ·rw[←xP h];simp only[h,beq_self_eq_true,aKB];rw[aJO];simp only[aGO,aGY];constructor
  ·rintro⟨h1,h2⟩ x hx;exact⟨h1 x hx,h2 x hx⟩
  ·intro h;exact⟨fun x hx=>(h x hx).1,fun x hx=>(h x hx).2⟩
 ·have:(t.length==r.places.length)=false:=by simpa using h
  simp[this]
theorem aCL{r:dF}{t:List Int}(h:mT r t=true):lN r t:=by
 rw[←aBE]at h;simp only[aFP,aGO,aKV,aGY,cE]at h;exact⟨h.1.1,h.1.2⟩
theorem DX{r:dF}{t:List Int}{c:rO}(ht:lN r t)(h0:0≤c.many)(h1:c.many≤r.places.length):
  N0 t c=if c.back then cY t 0 t.length-cY t 0 (t.length-c.many.toNat)else cY t 0 c.many.toNat:=by
 unfold N0;split
 ·have h:=uJ t 0 (t.length-c.many.toNat) c.many.toNat;rw[show t.length-c.many.toNat+c.many.toNat=t.length by rw[ht.1];omega,aJA]at h
  omega
 ·rfl
theorem zD{r:dF}{t:List Int}{c:rO}(ht:lN r t)(_h0:0≤c.many)(h1:c.many≤r.places.length)(h9:r.places.length≤9):0≤N0 t c∧N0 t c≤9:=by
 unfold N0;split
 ·have:=eV ht.2 (t.length-c.many.toNat) c.many.toNat;omega
 ·have:=eV ht.2 0 c.many.toNat;omega
theorem AT{r:dF}{t:List Int}{c:rO}(hr:oD r)(ht:lN r t)(hc:c∈r.counts):0≤gQ t c∧gQ t c≤9:=by
 obtain⟨a,b,d,e⟩:=hr.cnt c hc;have:=zD ht a b hr.len9;unfold gQ;omega

def y2(p:Int)(ps pre:List Int)(k:Nat):List (List Int):=(List.range k).flatMap fun(m:Nat)=>if p=2∨p=(m:Int)then(cQ ps).map (fun t=>dY (pre++(m:Int)::t))else []
theorem RH{p:Int}{ps pre:List Int}:y2 p ps pre 0=[]:=rfl
theorem aBM{p:Int}{ps pre:List Int}{k:Nat}(h:¬(p=2∨p=(k:Int))):y2 p ps pre (k+1)=y2 p ps pre k:=by
 unfold y2;rw[aIF,aHG];simp[h]
theorem GZ{p:Int}{ps pre:List Int}{k:Nat}(h:p=2∨p=(k:Int)):y2 p ps pre (k+1)=y2 p ps pre k++(cQ ps).map (fun t=>dY (pre++[(k:Int)]++t)):=by
 unfold y2;rw[aIF,aHG];simp[h]
theorem IR{p:Int}{ps pre:List Int}:y2 p ps pre 2=(cQ (p::ps)).map (fun t=>dY (pre++t)):=by
 by_cases h2:p=2
 ·simp[y2,cQ,List.range,List.range.loop,Function.comp_def,h2]
 ·by_cases h0:p=0
  ·simp[y2,cQ,List.range,List.range.loop,Function.comp_def,h0]
  ·by_cases h1:p=1
   ·simp[y2,cQ,List.range,List.range.loop,Function.comp_def,h1]
   ·have:¬(1:Int)=p:=fun e=>h1 e.symm
    simp[y2,cQ,List.range,List.range.loop,h2,h0,h1]
theorem SL{p:Int}{ps pre:List Int}{k:Nat}(hk:k<2):∃r,y2 p ps pre 2=y2 p ps pre (k+1)++r:=by
 rcases(by omega:k=0∨k=1)with rfl|rfl
 ·refine⟨if p=2∨p=1 then(cQ ps).map (fun t=>dY (pre++1::t))else [],?_⟩;simp[y2,List.range,List.range.loop]
 ·exact⟨[],by simp⟩
theorem AS{pre c:List Int}{n:Nat}(_h9:c.length=9)(hp:c.take n=pre)(hn:pre.length=n)(hz:c.drop n=List.replicate (9-n) 0):c=dY pre:=by
 rw[←aIM n c,hp,hz];unfold dY;rw[hn]
theorem ER{pre c:List Int}{i n:Nat}{k:Int}(h9:c.length=9)(hi:i<n)(hn:n≤9)(hp:c.take i=pre)(hz:c.drop n=List.replicate (9-n) 0):
  (c.set i k).length=9∧(c.set i k).take (i+1)=pre++[k]∧(c.set i k).drop n=List.replicate (9-n) 0:=by
 refine⟨by simpa using h9,?_,?_⟩
 ·rw[List.take_succ_eq_append_getElem Yaf,List.take_set_of_le (aGW _),hp];simp
 ·rw[List.drop_set_of_lt hi,hz]
theorem tC(l:List Int):(cQ l).length≤2^l.length:=by
 induction l with
 |nil=>simp[cQ]
 |cons p ps ih=>
  simp only[cQ,aGC,aGM,Nat.pow_succ];have:∀(c:Prop) [Decidable c] (f:List Int→List Int),(if c then(cQ ps).map f else []).length≤(cQ ps).length:=by intro c _ f;split<;>simp
  have h1:=this (p=2∨p=0) (0:: ·);have h2:=this (p=2∨p=1) (1:: ·);omega
theorem mS{l t:List Int}(h:t∈cQ l):t.length=l.length∧∀x∈t,0≤x∧x≤1:=by
 induction l generalizing t with
 |nil=>simp[cQ]at h;subst h;simp
 |cons p ps ih=>
  simp only[cQ,aGP]at h;rcases h with h|h
  ·split at h
   ·obtain⟨t',ht',rfl⟩:=aGA.1 h;refine⟨by simp[(ih ht').1],fun x hx=>?_⟩;rcases aGB.1 hx with rfl|hx
    ·omega
    ·exact(ih ht').2 x hx
   ·simp at h
  ·split at h
   ·obtain⟨t',ht',rfl⟩:=aGA.1 h;refine⟨by simp[(ih ht').1],fun x hx=>?_⟩;rcases aGB.1 hx with rfl|hx
    ·omega
    ·exact(ih ht').2 x hx
   ·simp at h
theorem tM{places x:List Int}{pre r:List (List Int)}(h:(cQ places).map dY=pre++x::r):∃t,(cQ places)[pre.length]?= some t∧x=dY t∧t∈cQ places∧(cQ places).take (pre++[x]).length=(cQ places).take pre.length++[t]:=by
 have h1:((cQ places).map dY)[pre.length]?= some x:=by rw[h];simp
 rw[aHD,aIZ]at h1;obtain⟨t,ht,hx⟩:=h1;refine⟨t,ht,hx.symm,aGD ht,?_⟩;rw[aGC,aJE,aGT,ht];rfl
def dC(r:dF)(fine:Bool):Int:=if aT r≠0 then aT r else if fine=false then 2 else if truths r=[]then 11 else 0
def nF(r:dF)(i j:Int):Bool:=fL i 0 (r.places.length-1)&&fL j i (r.places.length-1)

def UJ(ts:List (List Int))(i j:Nat):Int:=oZ (ts.map fun t=>kV t i j)
def OG(ts:List (List Int))(i j:Nat):Int:=nI (ts.map fun t=>kV t i j)
theorem F9(l:List Int)(a:Int)(h:l[0]?= some a):l.foldl min a=oZ l:=by
 cases l with
 |nil=>simp at h
 |cons x l=>simp at h;subst h;simp[oZ]
theorem G4(l:List Int)(a:Int)(h:l[0]?= some a):l.foldl max a=nI l:=by
 cases l with
 |nil=>simp at h
 |cons x l=>simp at h;subst h;simp[nI]
theorem k9{t:List Int}(hb:∀x∈t,0≤x∧x≤1)(i j:Nat)(hj:j<9):0≤kV t i j∧kV t i j≤9:=by
 unfold kV;have:=eV hb i (j+1-i);omega
def vd(ts:List (List Int))(q:List Int→Bool):Int:=
 match ts with
 | []=>1
 |t0::_=>if(ts.all fun t=>q t==q t0)=true then(if q t0=true then 1 else 2)else 3
theorem OF{ts:List (List Int)}{q:List Int→Bool}{t0:List Int}(h0:ts[0]?= some t0){j:Nat}(hj:ts.length≤j)(h:(ts.take j).all (fun t=>q t==q t0)=true):vd ts q=if q t0=true then 1 else 2:=by
 rw[aHE hj]at h;cases ts with
 |nil=>simp at h0
 |cons x l=>simp at h0;subst h0;simp only[vd];rw[aGX h]
theorem aAJ{ts:List (List Int)}{q:List Int→Bool}{t0 t:List Int}(h0:ts[0]?= some t0){j:Nat}(hj:ts[j]?= some t)(h:(!(q t==q t0))=true):vd ts q=3:=by
 cases ts with
 |nil=>simp at h0
 |cons x l=>
  simp only[List.getElem?_cons_zero,aLD]at h0;subst h0;simp only[vd]
  rw[aGQ];intro ha;have:=aGY.1 ha t (aGD hj);simp[this]at h
def UV(i:Nat)(t:List Int):Bool:=decide (0<t.getD i 0)
def rD(r:dF)(i:Nat)(t:List Int):Bool:=match r.counts[i]? with|some c=>decide (gQ t c=0)|none=>false
theorem OW{t:List Int}{i:Nat}(h:i<9)(h9:t.length≤9):(dY t)[i]?= some (t.getD i 0):=by
 unfold dY;by_cases hi:i<t.length
 ·rw[aIU hi,aHP,aGF hi];rfl
 ·rw[aKM Yd,List.getElem?_replicate,aGX Yd,aHP,aJJ Yd];rfl
theorem tO{r:dF}{t:List Int}(h:t∈truths r):lN r t:=mS (List.mem_filter.1 h).1


def iC(r:dF)(o:Option Int)(t:List Int):Option Int:=if dV r t=true then some (match o with|none=>(nA r t:Int)|some m=>min m (nA r t))else o
def jS(r:dF)(us:List (List Int)):Option Int:=us.foldl (iC r) none
theorem qN(r:dF)(us:List (List Int))(t:List Int):jS r (us++[t])=iC r (jS r us) t:=by simp[jS,aIG]
theorem e8{r:dF}{o:Option Int}{t:List Int}{w:Int}(h:∃m,o=some m∧m≤w):∃m,iC r o t=some m∧m≤w:=by
 obtain⟨m,rfl,hm⟩:=h;unfold iC;split
 ·exact⟨_,rfl,by simp only;omega⟩
 ·exact⟨m,rfl,hm⟩
theorem xM{r:dF}{w:Int}:∀(us:List (List Int)) (o:Option Int),(∃m,o=some m∧m≤w)→∃m,us.foldl (iC r) o=some m∧m≤w
 | [],o,h=>h
 |t::us,o,h=>by rw[aIO];exact xM us _ (e8 h)
theorem uQ{r:dF}{t:List Int}(he:dV r t=true):∀(us:List (List Int)) (o:Option Int),t∈us→∃m,us.foldl (iC r) o=some m∧m≤(nA r t:Int)
 |u::us,o,h=>by
  rw[aIO];rcases aGB.1 h with rfl|h
  ·refine xM us _ ?_;unfold iC;rw[aGX he];refine⟨_,rfl,?_⟩;split<;>omega
  ·exact uQ he us _ h
theorem S2{r:dF}{us:List (List Int)}{t:List Int}(h:t∈us):jS r (us++[t])=jS r us:=by
 rw[qN];unfold iC;split
 ·rename_i he;obtain⟨m,hm,hle⟩:=uQ he us none h;have:jS r us=some m:=hm;rw[this];simp only;rw[Int.min_eq_left hle]
 ·rfl
theorem PD{t u:List Int}(hl:t.length=u.length)(h:dY t=dY u):t=u:=by
 have:=aGV (List.take t.length) h;unfold dY at this;rw[aKP,hl,aKP]at this;exact this
def rQ(r:dF)(pre:List (List Int))(g:Option Int×List Int):Prop:=g.1=jS r ((cQ r.places).take pre.length)∧g.2.length=9∧∀u,((cQ r.places).take pre.length).getLast?= some u→g.2=dY u
theorem EW{r:dF}{pre:List (List Int)}{o:Option Int}{last t:List Int}(h:rQ r pre (o,last))(ht:t∈cQ r.places)(htake:(cQ r.places).take (pre++[dY t]).length=(cQ r.places).take pre.length++[t])(hc:(o.isSome&&(dY t==last))=true):rQ r (pre++[dY t]) (o,last):=by
 obtain⟨h1,h2,h3⟩:=h;simp only[aGO,aKV]at hc;obtain⟨ho,hl⟩:=hc;cases hg:((cQ r.places).take pre.length).getLast? with
 |none=>
  rw[List.getLast?_eq_none_iff]at hg;rw[hg]at h1;simp only at h1;rw[h1]at ho;cases ho
 |some u=>
  have hu:=List.mem_of_getLast? hg;have h4:=h3 u hg;simp only at h4;have hut:t=u:=PD (by rw[(mS ht).1,(mS (aKS hu)).1]) (by rw[hl,h4]);subst hut;refine⟨?_,h2,fun v hv=>?_⟩
  ·rw[htake,S2 hu];exact h1
  ·rw[htake,List.getLast?_concat]at hv;cases hv;exact h4
theorem KK{r:dF}{pre:List (List Int)}{o:Option Int}{last t:List Int}(h:rQ r pre (o,last))(h9:(dY t).length=9)(htake:(cQ r.places).take (pre++[dY t]).length=(cQ r.places).take pre.length++[t])
  (hc:(dV r t&&(!o.isSome||decide ((if dV r t=true then(nA r t:Int)else 0)<o.getD 0)))=true):rQ r (pre++[dY t]) (some (if dV r t=true then(nA r t:Int)else 0),dY t):=by
 obtain⟨h1,h2,h3⟩:=h;simp only[aGO]at hc;obtain⟨he,hc⟩:=hc;refine⟨?_,h9,fun v hv=>?_⟩
 ·simp only at h1;rw[htake,qN,←h1];simp only[iC,he,aII]at hc ⊢
  cases o with
  |none=>rfl
  |some m=>
   simp only[Option.isSome_some,aLF,Bool.false_or,aGZ,aJP]at hc;simp only;rw[Int.min_eq_right Yd]
 ·rw[htake,List.getLast?_concat]at hv;cases hv;rfl
theorem QS{r:dF}{pre:List (List Int)}{o:Option Int}{last t:List Int}(h:rQ r pre (o,last))(h9:(dY t).length=9)(htake:(cQ r.places).take (pre++[dY t]).length=(cQ r.places).take pre.length++[t])
  (hc:(dV r t&&(!o.isSome||decide ((if dV r t=true then(nA r t:Int)else 0)<o.getD 0)))=false):rQ r (pre++[dY t]) (o,dY t):=by
 obtain⟨h1,h2,h3⟩:=h;refine⟨?_,h9,fun v hv=>?_⟩
 ·simp only at h1;rw[htake,qN,←h1];unfold iC;split
  ·rename_i he;simp only[he,aKB,aII]at hc;cases o with
   |none=>simp at hc
   |some m=>
    simp only[Option.isSome_some,aLF,Bool.false_or,aIT,aJP]at hc;simp only;rw[Int.min_eq_left Yd]
  ·rfl
 ·rw[htake,List.getLast?_concat]at hv;cases hv;rfl
def oU(r:dF):Int:=if aT r≠0 then 0 else(jS r (cQ r.places)).getD 0
def xX(r:dF):Int:=if aT r≠0 then aT r else if(jS r (cQ r.places)).isSome=true then 0 else 10
theorem o5{r:dF}{o:Option Int}(ho:o=jS r (cQ r.places))(hf:aT r=0)(h:(!o.isSome)=true):oU r=0∧xX r=10:=by
 have hn:o=none:=by simpa using h
 rw[oU,xX,←ho,hn,hf];exact⟨rfl,rfl⟩
theorem AK{r:dF}{o:Option Int}(ho:o=jS r (cQ r.places))(hf:aT r=0)(h:(!o.isSome)=false):oU r=o.getD 0∧xX r=0:=by
 have hn:o.isSome=true:=by simpa using h
 rw[oU,xX,←ho,hf,hn];exact⟨rfl,rfl⟩

end Go.Fs.C1
namespace Go.Fs
open C1
def RC:Rd rO:=fun _ c cs=>cs=[.bool c.back,.int .i64 c.many,.int .i64 c.num]
theorem RC.up:RC.Up:=fun _ _ _ h=>h
def iV(n:Int):Value:=.int .i64 n
def cV(c:rO):Value:=.agg #[.bool c.back,.int .i64 c.many,.int .i64 c.num]
def mJ(D:aA)(v:Value)(r:dF):Prop:=∃pv cv,v=.agg #[pv,cv,.int .i64 r.wrong,.int .i64 r.off]∧Sl D RI 1 pv r.places∧Sl D RC 3 cv r.counts
theorem mJ.up{D D':aA}{v:Value}{r:dF}(h:mJ D v r)(hl:Le D D'):mJ D' v r:=by
 obtain⟨pv,cv,hv,hp,hc⟩:=h;exact⟨pv,cv,hv,hp.up RI.up hl,hc.up RC.up hl⟩
def idxOf{α:Type}(p:α→Bool)(xs:List α):Int:=if xs.any p then(xs.findIdx p:Int)else -1
def RT:Rd (List Int):=fun _ t cs=>cs=ints (dY t)
theorem RT.up:RT.Up:=fun _ _ _ h=>h
def UQ(D:aA)(v:Value)(r:dF):Prop:=∃b pv cv tv,v=.pointer (some ⟨b,0,none⟩)∧At D b 0 [pv,cv,.int .i64 r.wrong,.int .i64 r.off,tv]∧Sl D RI 1 pv r.places∧Sl D RC 3 cv r.counts∧Sl D RT 9 tv (truths r)
def vO(e:Nat)(r:dF)(pre:List (List Int))(g:Value×aC):Prop:=bN e 9 g.1 (((cQ r.places).take pre.length).filter (fits r)).length ((((cQ r.places).take pre.length).filter (fits r)).flatMap fun t=>ints (dY t)) g.2
theorem q9{l:List (List Int)}(h:∀t∈l,t.length≤9):(l.flatMap fun t=>ints (dY t)).length=l.length*9:=by
 induction l with
 |nil=>rfl
 |cons t l ih=>
  rw[aHS,aGC,ih (fun t ht=>h t (aGE _ ht)),aGM,Fs.aI,fD (h t aGL),aIW];omega
theorem SG{l:List (List Int)}(h:∀t∈l,t.length≤9){i:Nat}{t:List Int}(hi:l[i]?= some t):((l.flatMap fun t=>ints (dY t)).drop (i*9)).take 9=ints (dY t):=by
 induction l generalizing i with
 |nil=>simp at hi
 |cons u l ih=>
  have hu:(ints (dY u)).length=9:=by rw[Fs.aI,fD (h u aGL)]
  rw[aHS];cases i with
  |zero=>
   obtain rfl:u=t:=by simpa using hi
   rw[aKG,aJU,aHN Yd,aHE Yd]
  |succ i=>
   rw[aJY,aHO Yd,aHI,hu,show(i+1)*9-9=i*9 by omega];exact ih (fun t ht=>h t (aGE _ ht)) Yaj
theorem jK.truths{D:aA}{v:Value}{n:Nat}{l:List (List Int)}(hF:jK D v n (l.flatMap fun t=>Fs.ints (dY t)))(hn:l.length=n)(hb:n≤9223372036854775807)(h:∀t∈l,t.length≤9):Sl D RT 9 v l:=
 hF.sl hn hb fun i t hi=>⟨Fs.ints (dY t),rfl,by rw[Fs.aI,fD (h t (aGD hi))],SG h hi⟩
theorem YQ{e sz b:Nat}{cells:List Value}(h:cells.length=sz):bN e sz (.slice (some ⟨b,0,none⟩) 1 1) 1 cells [(b,.cells cells.toArray e (0,0))]:=
 aGH ⟨b,1,[],rfl,aGW _,by simp,by omega,by simp;omega⟩
theorem jK.at{D:aA}{b n cap:Nat}{cells:List Value}(h:jK D (.slice (some ⟨b,0,none⟩) n cap) n cells)(hn:0<n):At D b 0 cells:=by
 rcases h with⟨a,hv,h0,_⟩|⟨b',cap',hv,_,hA⟩
 ·omega
 ·cases hv;exact hA
end Go.Fs
namespace Go.Fs
variable{P:Program}{X:Cx}{γb:Type}[Membership Nat γb]{bad:γb}{all:Array Oper}{K:Act→World→Prop}{Q:Exit→Act→World→Prop}
variable{σ:bQ}{μ:aC}{Ds:List aA}{os:List (Bool×Nat)}{fl:Bool}{ix:Nat}
variable{d:Nat}{x y z:Operand}{u v:Value}{ty:TypeId}{pos:String}{aft:Array Edge}{g:Option (Nat×Bool)}
theorem dB{e:TypeId}{q:IntKind}(hu:P.underlying e=some (.int q)){xs:Array Value}{off:Nat}{v:Value}(hx:xs[off]?= some v)(w:World):(part e xs off).run P w=.ok v w:=
 run_part_plain w (by simp[Program.plainKey,hu]) hx
theorem iY(dp:Nat){e:TypeId}(hu:P.underlying e=some (.int .i64))(l m:List Int)(w:World):∀(is:List Nat),(∀i∈is,i<l.length∧i<m.length)→
  (Op.eqItems (dp+1) e 1 (ints l).toArray (ints m).toArray is).run P w=.ok (is.all fun i=>l[i]? ==m[i]?) w
 | [],_=>by simp[Op.eqItems,Sem.run_pure]
 |i::is,h=>by
  obtain⟨h1,h2⟩:=h i aGL;have g1:(ints l).toArray[i*1]?= some (.int .i64 l[i]):=by rw[aIR];simpa using cA (aGF h1)
  have g2:(ints m).toArray[i*1]?= some (.int .i64 m[i]):=by rw[aIR];simpa using cA (aGF h2)
  simp only[Op.eqItems,Sem.run_bind,dB hu g1,dB hu g2,run_equalIn_int w dp e .i64 .i64 _ _ hu,Result.andThen_ok,List.all_cons,aGF h1,aGF h2];by_cases he:l[i]=m[i]
  ·simp[he,iY dp hu l m w is (fun j hj=>h j (aGE _ hj))]
  ·simp[he,Sem.run_pure]
theorem mL{l m:List Int}{n:Nat}(hl:l.length=n)(hm:m.length=n):((List.range n).all fun i=>l[i]? ==m[i]?)=(l==m):=by
 rw[aJO];simp only[aGY,aJH,aKV];constructor
 ·intro h;apply aLE;intro i;by_cases hi:i<n
  ·exact h i hi
  ·rw[aJJ Yd,aJJ Yd]
 ·rintro rfl i _;rfl
theorem EU{t e t':TypeId}{n:Nat}{l m:List Int}(ho:all[ix]?= some ⟨some d,.binOp .eql t x y t',ty,pos,aft,g⟩)(hgt:P.eqGuardType P.depth t=false)(ht:P.underlying t=some (.array n e))(he:P.underlying e=some (.int .i64))(hc:P.cellsOf e=1)
  (hl:l.length=n) (hm:m.length=n) (hx:ev σ x=some (.agg (ints l).toArray)) (hy:ev σ y=some (.agg (ints m).toArray)) (hN:Nat.blt d X.N=true) (hg:cS all σ g)
  (kk:WL P X bad all K Q os ((d,.bool (l==m))::σ) μ Ds):WL P X bad all K Q ((fl,ix)::os) σ μ Ds:=
 sX ho (fun w=>by
  have hgd:(eqGuard .eql t x y (.agg (ints l).toArray) (.agg (ints m).toArray)).run P w=.ok () w:=by
   simp only[eqGuard,program];simp[Sem.run,hgt,go_sem]
  have heq:(Op.equal t (.agg (ints l).toArray) (.agg (ints m).toArray)).run P w=.ok (l==m) w:=by
   obtain⟨i,hi⟩:=info_of_underlying he;have h:=run_equalIn_array (P:=P) w 9999 (ints l).toArray (ints m).toArray ht hi;rw[hc,iY 9998 he l m w (List.range n) (fun j hj=>by have:=aJH.1 hj;omega),mL hl hm]at h
   exact h
  rw[Sem.run_bind,hgd];show((do Pure.pure (Value.bool (←Op.equal t (.agg (ints l).toArray) (.agg (ints m).toArray)))):Sem Value).run P w=_;rw[Sem.run_bind,heq];rfl) hx hy hN hg kk

def K2(P:Program)(k:TypeId):Prop:=P.underlying k=some (.struct (P.fieldsOf k))∧P.stoodInHeld k=false∧
 (P.fieldsOf k).toList.map (fun f=>(f.name== "_",f.offset,P.underlying f.type))=[(false,0,some (.int .i64)),(false,1,some (.int .i64))]
def iL(k:Int×Int):Value:=.agg #[.int .i64 k.1,.int .i64 k.2]
theorem K2.fields{k:TypeId}(h:K2 P k):∃f0 f1,P.underlying k=some (.struct #[f0,f1])∧P.fieldsOf k=#[f0,f1]∧f0.name≠ "_" ∧f1.name≠ "_" ∧f0.offset=0∧f1.offset=1∧P.underlying f0.type=some (.int .i64)∧P.underlying f1.type=some (.int .i64):=by
 obtain⟨h1,h2,h3⟩:=h;generalize hl:(P.fieldsOf k).toList=fs at h3;have h0:=aGV List.length h3;simp only[aHR,aGM,aIA]at h0;rcases fs with _|⟨f0,_|⟨f1,_|⟨f2,fs⟩⟩⟩<;>simp only[aGM,aIA]at h0<;>try omega
 have he:P.fieldsOf k=#[f0,f1]:=by rw[←Array.toArray_toList (xs:=P.fieldsOf k),hl]
 simp only[aHB,aKD,aIP,aJV,and_true,beq_eq_false_iff_ne]at h3;exact⟨f0,f1,by rw[h1,he],he,h3.1.1,h3.2.1,h3.1.2.1,h3.2.2.1,h3.1.2.2,h3.2.2.2⟩
theorem wK{k:TypeId}(h:K2 P k)(a b:Int×Int)(w:World):(Op.equal k (iL a) (iL b)).run P w=.ok (a==b) w:=by
 obtain⟨a1,a2⟩:=a;obtain⟨b1,b2⟩:=b;obtain⟨f0,f1,hu,hf,n0,n1,o0,o1,t0,t1⟩:=h.fields;have he:=run_equalIn_struct (P:=P) w 9999 k #[.int .i64 a1,.int .i64 a2] #[.int .i64 b1,.int .i64 b2] h.1 h.2.1;show(Op.equalIn (9999+1) k (.agg #[.int .i64 a1,.int .i64 a2]) (.agg #[.int .i64 b1,.int .i64 b2])).run P w=_;rw[he,hf];have p0:∀c1 c2:Int,(part f0.type #[.int .i64 c1,.int .i64 c2] f0.offset).run P w=.ok (.int .i64 c1) w:=fun c1 c2=>dB t0 (by rw[o0];rfl) w
 have p1:∀c1 c2:Int,(part f1.type #[.int .i64 c1,.int .i64 c2] f1.offset).run P w=.ok (.int .i64 c2) w:=fun c1 c2=>dB t1 (by rw[o1];rfl) w
 have e0:=run_equalIn_int w 9998 f0.type .i64 .i64 a1 b1 t0;have e1:=run_equalIn_int w 9998 f1.type .i64 .i64 a2 b2 t1;have s1:(Op.eqFields 9999 #[.int .i64 a1,.int .i64 a2] #[.int .i64 b1,.int .i64 b2] [f1]).run P w=.ok (a2==b2) w:=by
  simp only[Op.eqFields,n1,ne_eq,aKU,aII,Sem.run_bind,p1,Result.andThen_ok];rw[e1];simp only[Result.andThen_ok];cases a2==b2<;>rfl
 show(Op.eqFields 9999 #[.int .i64 a1,.int .i64 a2] #[.int .i64 b1,.int .i64 b2] (f0::[f1])).run P w=_;rw[Op.eqFields,aGX n0];simp only[Sem.run_bind,p0,Result.andThen_ok];rw[e0];simp only[Result.andThen_ok];by_cases hab:a1=b1
 ·subst hab;simp only[beq_self_eq_true,aLF,aHL,aIL];rw[s1];have:(a2==b2)=((a1,a2)==(a1,b2)):=by rw[aJO];simp
  rw[this]
 ·have hb:(a1==b1)=false:=by simpa using hab
  simp only[hb,aKQ,aII,Sem.run_pure];simp[hab]
theorem VN{t t':TypeId}{a b:Int×Int}(ho:all[ix]?= some ⟨some d,.binOp .eql t x y t',ty,pos,aft,g⟩)(hgt:P.eqGuardType P.depth t=false)(ht:K2 P t)(hx:ev σ x=some (iL a))(hy:ev σ y=some (iL b))(hN:Nat.blt d X.N=true)(hg:cS all σ g)
  (kk:WL P X bad all K Q os ((d,.bool (a==b))::σ) μ Ds):WL P X bad all K Q ((fl,ix)::os) σ μ Ds:=
 sX ho (fun w=>by
  have hgd:(eqGuard .eql t x y (iL a) (iL b)).run P w=.ok () w:=by
   simp only[eqGuard,iL,program];simp[Sem.run,hgt,go_sem]
  rw[Sem.run_bind,hgd];show((do Pure.pure (Value.bool (←Op.equal t (iL a) (iL b)))):Sem Value).run P w=_;rw[Sem.run_bind,wK ht];rfl) hx hy hN hg kk
theorem wM{k k':IntKind}{s t:TypeId}{u':TypeDesc}{n:Int}(ho:all[ix]?= some ⟨some d,.convert s t x,ty,pos,aft,g⟩)(hs:P.underlying s=some u')(ht:P.underlying t=some (.int k'))(hx:ev σ x=some (.int k n))(hn:rJ k' n)(hN:Nat.blt d X.N=true)(hg:cS all σ g)
  (kk:WL P X bad all K Q os ((d,.int k' n)::σ) μ Ds):WL P X bad all K Q ((fl,ix)::os) σ μ Ds:=
 JT ho (fun w=>by
  simp only[Go.convert,Sem.run_bind,TU.of hs w,TU.of ht w,Result.andThen_ok,Conv.intToInt,kR hn];rfl) hx hN hg kk
theorem bN.shape{e:TypeId}{sz n:Nat}{cells:List Value}{ν:aC}(h:bN e sz v n cells ν):∃a cap,v=.slice a n cap:=by
 rcases h with⟨a,hv,hn,_,_⟩|⟨b,cap,junk,hv,_⟩
 ·exact⟨a,0,by rw[hv,hn]⟩
 ·exact⟨_,cap,hv⟩
theorem Sl.shape{α:Type}{R:Rd α}{D:aA}{sz:Nat}{xs:List α}(h:Sl D R sz v xs):∃a cap,v=.slice a xs.length cap:=by
 obtain⟨a,cap,hv,_⟩:=h;exact⟨a,cap,hv⟩
theorem zY{k:TypeId}(h:K2 P k)(em:Bool)(a:Int×Int)(w:World):(Instr.checkKey em 10000 k (iL a)).run P w=.ok () w:=by
 obtain⟨f0,f1,hu,hf,n0,n1,o0,o1,t0,t1⟩:=h.fields;have p0:(part f0.type #[.int .i64 a.1,.int .i64 a.2] f0.offset).run P w=.ok (.int .i64 a.1) w:=dB t0 (by rw[o0];rfl) w
 have p1:(part f1.type #[.int .i64 a.1,.int .i64 a.2] f1.offset).run P w=.ok (.int .i64 a.2) w:=dB t1 (by rw[o1];rfl) w;have c0:(Instr.checkKey em (9998+1) f0.type (.int .i64 a.1)).run P w=.ok () w:=by
  rw[Instr.checkKey,Sem.run_bind,TU.of t0 w];rfl
 have c1:(Instr.checkKey em (9998+1) f1.type (.int .i64 a.2)).run P w=.ok () w:=by
  rw[Instr.checkKey,Sem.run_bind,TU.of t1 w];rfl
 show(Instr.checkKey em (9999+1) k (.agg #[.int .i64 a.1,.int .i64 a.2])).run P w=_;rw[Instr.checkKey,Sem.run_bind,TU.of hu w];simp only[Result.andThen_ok];rw[←Array.forIn_toList];simp only[List.forIn_cons,List.forIn_nil,n0,n1,ne_eq,aKU,aII,Sem.run_bind,p0,Result.andThen_ok,Sem.run_pure];rw[c0];simp only[Result.andThen_ok,Sem.run_pure,Sem.run_bind,p1];rw[c1];simp[Sem.run_pure,Result.andThen_ok]
theorem pM{t:TypeId}(ho:all[ix]?= some ⟨some d,.makeMap t none,ty,pos,aft,g⟩)(hN:Nat.blt d X.N=true)(hg:cS all σ g)
  (kk:∀b,WL P X bad all K Q os ((d,.map (some b))::σ) ((b,.map #[] 0)::μ) Ds):WL P X bad all K Q ((fl,ix)::os) σ μ Ds:=by
 refine dI ho rfl rfl hg fun a w hh=>?_
 obtain⟨h1,h2,h3,D,h4,h5,h6⟩:=id hh;have:(execOp a.eval ⟨some d,.makeMap t none,ty,pos,aft,g⟩).run P w=.ok (.value (.map (some w.heap.size))) {w with heap:=w.heap.push (.map #[] 0)}:=rfl;rw[this];exact⟨fun _=>lD _ _ _,kk _ _ _ (Hl.put ⟨h1,h2,h3,D,h4.push _ (show cF (.map #[] 0)from aLJ),h5,h6.step (fun _ p hp=>by rcases aGB.1 hp with rfl|hp;exact Or.inr (aGW _);exact Or.inl (aGA.2 ⟨p,hp,rfl⟩)) (fun _=>wD _ _) (h4.push _ (show cF (.map #[] 0)from aLJ)).dom⟩ hN _)⟩
theorem gH{w:World}{r:Nat}{es:Array MapEntry}{clock:Nat}(h:w.heap[r]?= some (.map es clock)):(getObj r).run P w=.ok (.map es clock) w:=by
 simp[getObj,Sem.run,h]

theorem aEK{t t':TypeId}{m n:Int}{k:IntKind}(ho:all[ix]?= some ⟨some d,.binOp .shl t x y t',ty,pos,aft,g⟩)(hx:ev σ x=some (.int .i64 m))(hy:ev σ y=some (.int k n))(h0:0≤n)(h1:n<64)(hr:rJ .i64 (m*2^n.toNat))(hN:Nat.blt d X.N=true)(hg:cS all σ g)
  (kk:WL P X bad all K Q os ((d,.int .i64 (m*2^n.toNat))::σ) μ Ds):WL P X bad all K Q ((fl,ix)::os) σ μ Ds:=
 bH ho rfl rfl hN hg (fun ρ hρ w'=>by
  have hn:min n.toNat IntKind.i64.bits=n.toNat:=by have:IntKind.i64.bits=64:=rfl;omega
  have h0':¬n<0:=by omega
  have hs:(binOp .shl t (.int .i64 m) (.int k n)).run P w'=.ok (.int .i64 (m*2^n.toNat)) w':=by
   show(Op.shift .shl .i64 m k n).run P w'=_;unfold Op.shift;rw[aGQ h0'];simp only[hn,kR hr,Sem.run_pure]
  have hg:∀w,(eqGuard .shl t x y (.int .i64 m) (.int k n)).run P w=.ok () w:=fun w=>rfl
  simp only[execOp,hρ x _ hx,hρ y _ hy,Sem.run_bind,hg,Result.andThen_ok,hs,Sem.run_pure]) kk

def aAK(X:Cx)(b:Nat)(post:aA→Value→Obj→Prop):Ending→World→Prop:=fun e w'=>∃v D' o',e=.returned v∧fI X.h0 X.lo X.D0 X.mods [(b,o')] D' w'∧post D' v o'
theorem dM{fn:Func}{b:Nat}{o':Obj}{post:aA→Value→Obj→Prop}{e:Exit}(he:(match e with|.normal=>true|.ret=>true|_=>false)=true){rs:List ResultVar}{vs:List Value}(hds:X.ds=[])(hr:fn.results=rs.toArray)(h:rM P X σ μ rs vs)
  (hm:(b,o')∈μ) (hp:∀D,(∀D₁∈Ds,Le D₁ D)→post D (mI vs) o'):∀a w,Hl X σ μ Ds a w→bodyPost P fn (aAK X b post) e a w:=by
 intro a w hh;have hrun:=fR hh hr h;obtain⟨h1,h2,h3,D,h4,h5,h6⟩:=hh;have:a.defers=[]∧∃v,(results fn a.tmps).run P w=.ok v w∧aAK X b post (.returned v) w:=⟨h3.trans hds,_,hrun,_,D,o',rfl,h4.sub (fun p hp=>by rw[aGU.1 hp];exact hm) Ye,hp D h5⟩
 cases e<;>first|exact this|cases he
theorem L6{t t':TypeId}{n:Nat}(ho:all[ix]?= some ⟨some d,.binOp .shl t x y t',ty,pos,aft,g⟩)(hx:ev σ x=some (.int .i64 1))(hy:ev σ y=some (.int .i64 (n:Int)))(h1:n<62)(hN:Nat.blt d X.N=true)(hg:cS all σ g)
  (kk:WL P X bad all K Q os ((d,.int .i64 ((2^n:Nat):Int))::σ) μ Ds):WL P X bad all K Q ((fl,ix)::os) σ μ Ds:=by
 have h2:(2:Nat)^n<2^62:=Nat.pow_lt_pow_right Yd h1;have e:(1:Int)*2^(n:Int).toNat=((2^n:Nat):Int):=by simp
 have hr:rJ .i64 ((1:Int)*2^(n:Int).toNat):=by
  rw[e];generalize (2:Nat)^n=q at h2;simp only[rJ];omega
 refine aEK ho hx hy Yd Yd hr hN hg ?_;rw[e];exact kk
end Go.Fs
namespace Go.Fs
variable{P:Program}{X:Cx}{γb:Type}[Membership Nat γb]{bad:γb}{all:Array Oper}{K:Act→World→Prop}{Q:Exit→Act→World→Prop}
variable{σ:bQ}{μ:aC}{Ds:List aA}{os:List (Bool×Nat)}{fl:Bool}{ix:Nat}
variable{d:Nat}{x y z:Operand}{u v:Value}{ty:TypeId}{pos:String}{aft:Array Edge}{g:Option (Nat×Bool)}
def CI(P:Program)(f:FuncId)(args:Array Value)(D:aA)(post:aA→Value→aC→Prop):Prop:=
 EF P f∧∀w,dQ D w→Calls P f args w fun e w'=>∃v D' ν,e=.returned v∧fI (hd w) w.heap.size D [] ν D' w'∧post D' v ν
theorem mD{f:FuncId}{fn:Func}{c:Code}{args:List Value}{D:aA}{post:aA→Value→aC→Prop}(N:Nat)(hf:P.funcs[f]?= some fn)(hn:(fn.name== "runtime.NumGoroutine")=false)(hb:fn.body=some c)(hN:fn.ntmps=N)(hsz:Nat.ble args.length N=true)
  (h:∀h0:H0,WC P ⟨none,N,[],h0,h0.size,D,[],none⟩ (bodyPost P fn (lG ⟨none,N,[],h0,h0.size,D,[],none⟩ post)) c (gG 0 args) [] [D]):CI P f args.toArray D post:=by
 refine⟨EF.of hf hn hb,fun w hw=>?_⟩;subst hN;have hsz:=aIE hsz;refine(cU (r:=none) (n:=0)).1 ((callsIn_of_wp (R:=lG ⟨none,fn.ntmps,[],hd w,w.heap.size,D,[],none⟩ post) hf hb aLJ (h (hd w) _ w ⟨?_,fun s v hs=>?_,rfl,D,⟨aGW _,aGW _,fun _ _ _=>rfl,fun _ _=>rfl,hw,(fun p hp=>by cases hp),aID,(fun p hp=>by cases hp),fun e he=>aHC he⟩,fun D₁ h1=>?_,aLJ⟩) rfl).mono ?_)
 ·simp;omega
 ·obtain⟨_,h2⟩:=eA args 0 s v hs;have hl:=(aGJ.1 h2).1;simp only[aJN]at h2 hl;show(args.toArray++_)[s]?= some v;rw[aIX Yam];simpa using h2
 ·simp only[aGU]at h1;subst h1;exact Le.refl _
 ·rintro e w' ⟨v,D',μ',rfl,hs,hp⟩;exact⟨v,D',μ',rfl,hs,hp⟩
theorem fI.afterO{h0:H0}{lo:Nat}{D0 D D':aA}{mods:List Nat}{μ ν:aC}{w w':World}(h:fI h0 lo D0 mods μ D w)(hs:fI (hd w) w.heap.size D [] ν D' w'):fI h0 lo D0 mods (ν++μ) D' w':=by
 have h1:=h.after (hs.sub (μ':=[]) (fun p hp=>by cases hp) aID);have hge:∀p∈ν,w.heap.size≤p.1:=fun p hp=>(hs.box p hp).2.2.resolve_right Ye
 refine⟨h1.hlo,h1.size,h1.old,h1.dold,h1.agr,fun p hp=>?_,?_,(fun p hp=>by rcases aGP.1 hp with hp|hp;exact hs.fz p hp;exact h.fz p hp),h1.env⟩
 ·rcases aGP.1 hp with hp|hp
  ·obtain⟨a,b,_⟩:=hs.box p hp;exact⟨a,b,aGR (aJB h.size (hge p hp))⟩
  ·exact h1.box p hp
 ·rw[aGS,aGK];refine⟨hs.nd,h.nd,fun a ha b hb=>?_⟩;obtain⟨p,hp,rfl⟩:=aGA.1 ha;obtain⟨q,hq,rfl⟩:=aGA.1 hb;have:=hge p hp;have:=aY (h.box q hq).1;omega
theorem eU{c:Operand}{xs:Array Operand}{ats:Array TypeId}{f:FuncId}{c1 c2:List Value}{vs:List Value}{post:aA→Value→aC→Prop}(ho:all[ix]?= some ⟨some d,.call {callee:=.value c,args:=xs,argTypes:=ats},ty,pos,aft,g⟩)(hc:ev σ c=some (.func (.func f) c1.toArray c2.toArray))(hxs:H3 σ xs.toList=some vs)
  (hf:∀D,(∀D₁∈Ds,Le D₁ D)→CI P f (c1++vs++c2).toArray D post) (hN:Nat.blt d X.N=true) (hg:cS all σ g)
  (kk:∀v D ν,(∀D₁∈Ds,Le D₁ D)→post D v ν→WL P X bad all K Q os ((d,v)::σ) (ν++μ) (D::Ds)):
  WL P X bad all K Q ((fl,ix)::os) σ μ Ds:=by
 refine dI ho rfl rfl hg fun a w hh=>?_
 obtain⟨h1,h2,h3,D,h4,h5,h6⟩:=id hh;have hF:=hf D h5;rw[pD hF.1 (hh.eval hc) (iB (fun _ _ hx=>hh.eval hx) hxs)];refine⟨fun h=>by simp[FW]at h,cU.2 ((hF.2 w h4.agr).mono ?_)⟩;rintro e w' ⟨v,D',ν,rfl,hs,hpost⟩;have hle:=eR h4.agr hs;refine⟨fun _=>hs.keep bad,kk v D' ν (fun D₁ hD₁=>(h5 D₁ hD₁).trans hle) hpost _ _ ?_⟩;refine Hl.put ⟨h1,h2,h3,D',h4.afterO hs,fun D₁ hD₁=>?_,h6.step (fun _ p hp=>?_) (fun _=>hs.low _) (h4.afterO hs).dom⟩ hN v
 ·rcases aGB.1 hD₁ with rfl|hD₁
  ·exact Le.refl _
  ·exact(h5 D₁ hD₁).trans hle
 ·rcases aGP.1 hp with hp|hp
  ·exact aGH ((hs.box p hp).2.2.resolve_right Ye)
  ·exact aGR (aGA.2 ⟨p,hp,rfl⟩)
theorem eY{t e:TypeId}{sz b o n cap:Nat}{k:IntKind}{i:Int}(ho:all[ix]?= some ⟨some d,.indexAddr t x y,ty,pos,aft,g⟩)(ht:P.underlying t=some (.slice e))(hs:TS P e sz)(hx:ev σ x=some (.slice (some ⟨b,o,none⟩) n cap))
  (hy:ev σ y=some (.int k i)) (h0:0≤i) (hi:i<n) (hN:Nat.blt d X.N=true) (hg:cS all σ g)
  (kk:WL P X bad all K Q os ((d,.pointer (some ⟨b,o+i.toNat*sz,none⟩))::σ) μ Ds):WL P X bad all K Q ((fl,ix)::os) σ μ Ds:=
 bH ho rfl rfl hN hg (fun ρ hρ w'=>by
  simp only[execOp,hρ x _ hx,hρ y _ hy];unfold Instr.indexAt asIntOf;simp only[Sem.run_bind,TU.of ht w',Result.andThen_ok,hs w',Sem.run_pure,pure_bind,h0,hi,aLA,aII,dW]) kk
theorem bN.some{e:TypeId}{sz n:Nat}{cells:List Value}{ν:aC}(h:bN e sz v n cells ν)(hn:0<n):∃b cap junk,v=.slice (some ⟨b,0,none⟩) n cap∧n≤cap∧ν=[(b,.cells (cells++junk).toArray e (0,0))]∧cells.length=n*sz∧(cells++junk).length=cap*sz:=by
 rcases h with⟨_,_,h0,_⟩|h
 ·omega
 ·exact h
end Go.Fs
namespace Go.Fs
namespace C2
open C1 (fL cE oZ nI)
structure Mk where
 frm:Int
 to:Int
 lo:Int
 hi:Int
deriving DecidableEq
structure aZ where
 last:Int
 heights:List (Int×Int)
 step:Int
 levels:List Int
 marks:List Mk
def eE(n:Int):Bool:=fL n 0 99
def fX(r:Int×Int):Bool:=decide (r.1≤r.2)&&eE r.1&&eE r.2
def eS(r:Int×Int):Int:=r.2-r.1+1
def T2(last n:Int):Bool:=fL n 0 last
def nM(last a b:Int):Bool:=T2 last a&&T2 last b&&decide (a≤b)
def pT(last:Int)(m:Mk):Bool:=nM last m.frm m.to&&fX (m.lo,m.hi)
def lW(hs:List (Int×Int)):Int:=hs.foldl (fun(m:Int) r=>min (m*eS r) 2001) 1
def jM(step:Int)(p:Option Int)(n:Int):Bool:=match p with
 |none=>true
 |some q=>fL (n-q) (-step) step
def fY(step:Int):List (Int×Int)→Option Int→List (List Int)
 | [],_=>[[]]
 |r::rs,p=>(List.range (eS r).toNat).flatMap fun(k:Nat)=>if jM step p (r.1+k)=true then(fY step rs (some (r.1+k))).map (fun l=>(r.1+(k:Int))::l)else []
def fC(t:aZ):List (List Int):=fY t.step t.heights none
def WG(t:aZ):Bool:=decide (t.last>9)||decide ((t.levels.length:Int)>6)||decide ((t.marks.length:Int)>5)
def aDR(t:aZ):Bool:=decide (0≤t.last)&&decide ((t.heights.length:Int)=t.last+1)&&t.heights.all fX&&eE t.step&&t.levels.all eE&&t.marks.all (pT t.last)
def aT(t:aZ):Int:=if WG t=true then 3 else if aDR t=false then 1 else if 2000<lW t.heights then 3 else if fC t=[]then 9 else 0
def jB(s:List Int)(a b:Int):Int:=nI ((s.drop a.toNat).take (b+1-a).toNat)
def kF(t:aZ)(s:List Int):Bool:=t.marks.all fun m=>fL (jB s m.frm m.to) m.lo m.hi
def yC(t:aZ)(acc:List (List Int))(s:List Int):List (List Int):=if kF t s=false∨acc.getLast?= some s then acc else acc++[s]
def bG(t:aZ):List (List Int):=(fC t).foldl (yC t) []
def kA(t:aZ)(fine:Bool):Int:=if aT t≠0 then aT t else if fine=false then 2 else if bG t=[]then 11 else 0
def aFI(s:List Int)(i:Nat):Int:=s.getD i 0
def qX(t:aZ)(i:Nat):Int×Int:=(oZ ((bG t).map (aFI · i)),nI ((bG t).map (aFI · i)))
def qL(s:List Int)(level:Int):Int:=((s.takeWhile fun n=>decide (n≤level)).length:Int)
def OJ(t:aZ)(level:Int):Int×Int:=(oZ ((bG t).map (qL · level)),nI ((bG t).map (qL · level)))
def aEY(t:aZ)(a b:Int):Int:=nI ((bG t).map (jB · a b))
def cK(l:List Int):List Int:=l++List.replicate (10-l.length) 0
theorem eC{l:List Int}(h:l.length≤10):(cK l).length=10:=by simp[cK];omega
theorem FJ{c l:List Int}(h2:c.take l.length=l)(h3:c.drop l.length=List.replicate (10-l.length) 0):cK l=c:=by
 unfold cK;rw[←h3]
 conv=>rhs;rw[←aIM l.length c,h2]
def CJ(step:Int)(rs:List (Int×Int))(pre:List Int)(r:Int×Int)(k:Nat):List (List Int):=(List.range k).flatMap fun(m:Nat)=>if jM step pre.getLast? (r.1+m)=true then(fY step rs (some (r.1+m))).map (fun t=>cK (pre++(r.1+(m:Int))::t))else []
theorem PM{step:Int}{rs:List (Int×Int)}{pre:List Int}{r:Int×Int}:CJ step rs pre r 0=[]:=rfl
theorem aBG{step:Int}{rs:List (Int×Int)}{pre:List Int}{r:Int×Int}{k:Nat}(h:jM step pre.getLast? (r.1+k)=false):CJ step rs pre r (k+1)=CJ step rs pre r k:=by
 unfold CJ;rw[aIF,aHG,aHW,aGQ (by simp[h]),aGG]
theorem GJ{step:Int}{rs:List (Int×Int)}{pre:List Int}{r:Int×Int}{k:Nat}(h:jM step pre.getLast? (r.1+k)=true):CJ step rs pre r (k+1)=CJ step rs pre r k++(fY step rs ((pre++[r.1+(k:Int)]).getLast?)).map (fun t=>cK ((pre++[r.1+(k:Int)])++t)):=by
 unfold CJ;rw[aIF,aHG,aHW,aGX h,List.getLast?_concat];simp
theorem IH{step:Int}{rs:List (Int×Int)}{pre:List Int}{r:Int×Int}:CJ step rs pre r (eS r).toNat=(fY step (r::rs) pre.getLast?).map (fun t=>cK (pre++t)):=by
 unfold CJ;simp only[fY];rw[List.map_flatMap]
 congr 1;funext m
 split<;>simp
theorem QZ{step:Int}{rs:List (Int×Int)}{pre:List Int}{r:Int×Int}{k n:Nat}(hk:k<n):∃rr,CJ step rs pre r n=CJ step rs pre r (k+1)++rr:=by
 refine⟨((List.range n).drop (k+1)).flatMap fun(m:Nat)=>if jM step pre.getLast? (r.1+m)=true then(fY step rs (some (r.1+m))).map (fun t=>cK (pre++(r.1+(m:Int))::t))else [],?_⟩;unfold CJ;rw[←aHG];congr 1;have h:=aIM (k+1) (List.range n);rw[List.take_range,aKC Yd]at h;exact h.symm
theorem I2{step:Int}:∀(rs:List (Int×Int)) (p:Option Int) (t:List Int),t∈fY step rs p→t.length=rs.length
 | [],p,t,h=>by simp[fY]at h;subst h;rfl
 |r::rs,p,t,h=>by
  simp only[fY,aLG,aJH]at h;obtain⟨m,hm,h⟩:=h;split at h
  ·obtain⟨u,hu,rfl⟩:=aGA.1 h;rw[aGM,I2 rs _ u hu,aGM]
  ·cases h
theorem j4{step:Int}:∀(rs:List (Int×Int)) (p:Option Int) (t:List Int),(∀r∈rs,fX r=true)→t∈fY step rs p→∀x∈t,0≤x∧x≤99
 | [],p,t,_,h=>by simp[fY]at h;subst h;intro x hx;cases hx
 |r::rs,p,t,hr,h=>by
  simp only[fY,aLG,aJH]at h;obtain⟨m,hm,h⟩:=h;split at h
  ·obtain⟨u,hu,rfl⟩:=aGA.1 h;intro x hx;rcases aGB.1 hx with rfl|hx
   ·have h1:=hr r aGL;unfold fX eE at h1;simp only[aGO,aGZ,cE]at h1;unfold eS at hm;omega
   ·exact j4 rs _ u (fun q hq=>hr q (aGE _ hq)) hu x hx
  ·cases h
structure n9(t:aZ):Prop where
 last:0≤t.last∧t.last≤9
 len:(t.heights.length:Int)=t.last+1
 step:0≤t.step∧t.step≤99
 hts:∀r∈t.heights,fX r=true
 lev:t.levels.length≤6
 levs:∀n∈t.levels,0≤n∧n≤99
 mks:t.marks.length≤5
 mark:∀m∈t.marks,pT t.last m=true
theorem aFY{t:aZ}(h1:WG t=false)(h2:aDR t=true):n9 t:=by
 unfold WG at h1;unfold aDR eE at h2;simp only[aJM,aIT]at h1;simp only[aGO,aGZ,aGY,cE]at h2;obtain⟨⟨⟨⟨⟨h3,h4⟩,h5⟩,h6⟩,h7⟩,h8⟩:=h2;exact⟨by omega,h4,h6,h5,by omega,h7,by omega,h8⟩
theorem S7{t:aZ}(h:aT t=0):n9 t:=by
 unfold aT at h;split at h
 ·omega
 ·rename_i h1;split at h
  ·omega
  ·rename_i h2;exact aFY (by simpa using h1) (by simpa using h2)
theorem n9.len10{t:aZ}(h:n9 t):t.heights.length≤10:=by have:=h.len;have:=h.last;omega

theorem OU{s:List Int}{a k:Nat}(h:a+k≤s.length):((cK s).drop a).take k=(s.drop a).take k:=by
 unfold cK;rw[List.drop_append_of_le_length Yd,aHN Yaf]
theorem rW{s:List Int}{a b:Int}(h0:0≤a)(h1:a≤b)(h2:b<s.length):jB (cK s) a b=jB s a b:=by
 unfold jB;rw[OU Yd]
theorem JU{last:Int}{m:Mk}(h:pT last m=true):0≤m.frm∧m.frm≤m.to∧m.to≤last∧0≤m.lo∧m.lo≤m.hi∧m.hi≤99:=by
 unfold pT nM T2 fX eE at h;simp only[aGO,aGZ,cE]at h;omega
theorem LN{t:aZ}(ht:n9 t){s:List Int}(hs:(s.length:Int)=t.last+1):kF t (cK s)=kF t s:=by
 unfold kF;rw[aJO,aGY,aGY];constructor<;>intro h m hm<;>have h1:=JU (ht.mark m hm)<;>have h2:=h m hm
 ·rwa [rW Yd Yd Yd]at h2
 ·rwa [rW Yd Yd Yd]
theorem DZ{l:List (List Int)}{pre us:List (List Int)}{x:List Int}(h:l.map cK=pre++x::us):∃s,l[pre.length]?= some s∧x=cK s∧s∈l∧l.take (pre.length+1)=l.take pre.length++[s]:=by
 have h1:(l.map cK)[pre.length]?= some x:=by rw[h];simp
 rw[aHD]at h1;obtain⟨s,hs,hx⟩:=aIZ.1 h1;exact⟨s,hs,hx.symm,aGD hs,by rw[aGT,hs];rfl⟩
def gU(t:aZ)(k:Nat):List (List Int):=((fC t).take k).foldl (yC t) []
theorem wW(t:aZ){k:Nat}(h:(fC t).length≤k):gU t k=bG t:=by unfold gU bG;rw[aHE h]
theorem T5{t:aZ}{k:Nat}{s:List Int}(h:(fC t).take (k+1)=(fC t).take k++[s]):gU t (k+1)=yC t (gU t k) s:=by
 unfold gU;rw[h,aIG];rfl
theorem PU{t:aZ}{acc:List (List Int)}{s:List Int}:∀u∈yC t acc s,u∈acc∨u=s:=by
 intro u hu;unfold yC at hu
 split at hu
 ·exact aGR hu
 ·simpa using hu
theorem V9{t:aZ}:∀(l acc:List (List Int)),∀u∈l.foldl (yC t) acc,u∈acc∨u∈l
 | [],acc,u,h=>aGR h
 |s::l,acc,u,h=>by
  rcases V9 l (yC t acc s) u h with h|h
  ·rcases PU u h with h|rfl
   ·exact aGR h
   ·exact aGH aGL
  ·exact aGH (aGE _ h)
theorem X5{t:aZ}:∀(l acc:List (List Int)),(l.foldl (yC t) acc).length≤acc.length+l.length
 | [],acc=>by simp
 |s::l,acc=>by
  have h1:=X5 (t:=t) l (yC t acc s);have h2:(yC t acc s).length≤acc.length+1:=by
   unfold yC;split
   ·omega
   ·simp
  rw[aIO,aGM];omega
theorem xE{t:aZ}{k:Nat}{u:List Int}(h:u∈gU t k):u∈fC t:=by
 rcases V9 _ _ u h with h|h
 ·cases h
 ·exact aKS h
theorem y9(t:aZ)(k:Nat):(gU t k).length≤(fC t).length:=by
 have h1:=X5 (t:=t) ((fC t).take k) [];have h2:=aKX k (fC t);rw[aHZ]at h1;unfold gU;simp only[aIA]at h1;omega
def oE:List (Int×Int)→Int
 | []=>1
 |r::l=>eS r*oE l
theorem Y1:∀(l:List (Int×Int)) (m:Int),(∀r∈l,fX r=true)→0≤m→l.foldl (fun(m:Int) r=>min (m*eS r) 2001) m≤2000→m*oE l≤2000∧1≤oE l
 | [],m,_,_,h=>by simpa [oE]using h
 |r::l,m,hr,hm,h=>by
  have h1:1≤eS r:=by
   have h1:=hr r aGL;unfold fX eE at h1;simp only[aGO,aGZ,cE]at h1;unfold eS;omega
  have h2:0≤m*eS r:=Int.mul_nonneg hm Yd;rw[aIO]at h;obtain⟨h3,h4⟩:=Y1 l (min (m*eS r) 2001) (fun q hq=>hr q (aGE _ hq)) Yd h;have h5:1≤eS r*oE l:=by
   have:=Int.mul_le_mul h1 h4 Yd Yd;omega
  refine⟨?_,h5⟩;show m*(eS r*oE l)≤2000;rw[←Int.mul_assoc];by_cases hc:m*eS r≤2001
  ·rwa [Int.min_eq_left hc]at h3
  ·rw[Int.min_eq_right Yd]at h3;omega
theorem iR{α β:Type}{f:α→List β}{n:Nat}:∀(l:List α),(∀x∈l,(f x).length≤n)→(l.flatMap f).length≤l.length*n
 | [],_=>by simp
 |x::l,h=>by
  have h1:=iR l fun y hy=>h y (aGE _ hy)
  have h2:=h x aGL;rw[aHS,aGC,aGM,aIW];omega
theorem qU{step:Int}:∀(rs:List (Int×Int)) (p:Option Int),(∀r∈rs,fX r=true)→1≤oE rs∧((fY step rs p).length:Int)≤oE rs
 | [],p,_=>by simp[fY,oE]
 |r::rs,p,hr=>by
  have h1:1≤eS r:=by
   have h1:=hr r aGL;unfold fX eE at h1;simp only[aGO,aGZ,cE]at h1;unfold eS;omega
  have h2:=qU (step:=step) rs none fun q hq=>hr q (aGE _ hq)
  have h3:(fY step (r::rs) p).length≤(List.range (eS r).toNat).length*(oE rs).toNat:=by
   simp only[fY];refine iR _ fun k _=>?_
   split
   ·rw[aHR];have:=(qU (step:=step) rs (some (r.1+(k:Int))) fun q hq=>hr q (aGE _ hq)).2;omega
   ·exact aKO _
  rw[List.length_range]at h3;have h4:(((eS r).toNat*(oE rs).toNat:Nat):Int)=eS r*oE rs:=by
   rw[Int.natCast_mul,Int.toNat_of_nonneg Yd,Int.toNat_of_nonneg Yd]
  have h5:=Int.mul_le_mul h1 h2.1 Yd Yd;refine⟨?_,?_⟩
  ·show 1≤eS r*oE rs;omega
  ·show _≤eS r*oE rs;rw[←h4];exact Int.ofNat_le.2 h3
theorem t7{t:aZ}(h:aT t=0):lW t.heights≤2000:=by
 unfold aT at h;split at h
 ·omega
 ·split at h
  ·omega
  ·split at h
   ·omega
   ·omega
theorem zU{t:aZ}(h:aT t=0):(fC t).length≤2000:=by
 have h1:=S7 h;have h2:=(qU (step:=t.step) t.heights none h1.hts).2;have h3:=(Y1 t.heights 1 h1.hts Yd (t7 h)).1;show(fY t.step t.heights none).length≤2000;omega
theorem lH{t:aZ}{s:List Int}(h:s∈fC t):s.length=t.heights.length:=I2 _ _ _ h
def uH(l:List (List Int))(last:Int)(S:List (Int×Int)):Prop:=∀p,p∈S ↔∃s∈l,∃j:Nat,(j:Int)≤last∧p=((j:Int),s.getD j 0)
theorem uH.nil{last:Int}:uH [] last []:=fun p=>by simp
end C2
open C1 C2
def BJ:Rd Mk:=fun _ m cs=>cs=[.int .i64 m.frm,.int .i64 m.to,.int .i64 m.lo,.int .i64 m.hi]
theorem BJ.up:BJ.Up:=fun _ _ _ h=>h
def A1:Rd (Int×Int):=fun _ p cs=>cs=[.int .i64 p.1,.int .i64 p.2]
theorem A1.up:A1.Up:=fun _ _ _ h=>h
def aDS(m:Mk):Value:=.agg #[.int .i64 m.frm,.int .i64 m.to,.int .i64 m.lo,.int .i64 m.hi]
def gL(D:aA)(v:Value)(t:aZ):Prop:=∃hv lv mv,v=.agg #[.int .i64 t.last,hv,.int .i64 t.step,lv,mv]∧Sl D A1 2 hv t.heights∧Sl D RI 1 lv t.levels∧Sl D BJ 4 mv t.marks
def S6:Rd (List Int):=fun _ l cs=>cs=ints (cK l)
theorem S6.up:S6.Up:=fun _ _ _ h=>h
def vH(l:List (List Int)):List Value:=l.flatMap fun s=>ints (cK s)
theorem t8{l:List (List Int)}(h:∀s∈l,s.length≤10):(vH l).length=l.length*10:=by
 induction l with
 |nil=>rfl
 |cons c l ih=>
  have:=ih fun s hs=>h s (aGE _ hs)
  unfold vH at this ⊢
  rw[aHS,aGC,this,aI,eC (h c aGL),aGM];omega
theorem o4{l:List (List Int)}(h:∀s∈l,s.length≤10){i:Nat}{s:List Int}(hi:l[i]?= some s)(junk:List Value):((vH l++junk).drop (i*10)).take 10=ints (cK s):=by
 induction l generalizing i with
 |nil=>simp at hi
 |cons d l ih=>
  have h9:(ints (cK d)).length=10:=by rw[aI,eC (h d aGL)]
  have hc:vH (d::l)=ints (cK d)++vH l:=rfl;rw[hc,aGN];cases i with
  |zero=>
   obtain rfl:d=s:=by simpa using hi
   rw[aKG,aJU,aHN Yd,aHE Yd]
  |succ i=>
   rw[show(i+1)*10=(ints (cK d)).length+i*10 by omega,aKK];exact ih (fun s hs=>h s (aGE _ hs)) Yaj
theorem jK.seas{D:aA}{v:Value}{n:Nat}{l:List (List Int)}(hF:jK D v n (vH l))(hn:l.length=n)(hb:n≤9223372036854775807)(h:∀t∈l,t.length≤10):Sl D S6 10 v l:=
 hF.sl hn hb fun i t hi=>⟨Fs.ints (cK t),rfl,by rw[Fs.aI,eC (h t (aGD hi))],by have:=o4 h hi [];rwa [aGG]at this⟩
theorem gL.up{D D':aA}{v:Value}{t:aZ}(h:gL D v t)(hl:Le D D'):gL D' v t:=by
 obtain⟨hv,lv,mv,e,h1,h2,h3⟩:=h;exact⟨hv,lv,mv,e,h1.up A1.up hl,h2.up RI.up hl,h3.up BJ.up hl⟩
end Go.Fs
namespace Go.Fs
namespace C3
open C1 (fL cE)
structure eZ where
 kind:Int
 chair:Int
 token:Int
deriving DecidableEq
structure Cn where
 after:Int
 lo:Int
 hi:Int
deriving DecidableEq
structure aW where
 chairs:Int
 coin:Int
 box:Int
 lines:List eZ
 counts:List Cn
def qQ(n:Int)(l:eZ):Bool:=fL l.kind 0 2&&fL l.chair (-1) (n-1)&&fL l.token (-1) (n-1)
def lU(len:Int)(c:Cn):Bool:=fL c.after 0 len&&decide (0≤c.lo)&&decide (c.lo≤c.hi)&&decide (c.hi≤2000)
def dT(sign none lo hi:Int):List Int:=if sign≠none then [sign]else(List.range (hi+1-lo).toNat).map fun i:Nat=>lo+(i:Int)
def cN(n:Int)(l:eZ):List eZ:=(dT l.kind 0 1 2).flatMap fun k=>(dT l.chair (-1) 0 (n-1)).flatMap fun c=>(dT l.token (-1) 0 (n-1)).map fun t=>⟨k,c,t⟩
def uO(n:Int)(ls:List eZ):Int:=ls.foldl (fun m l=>min (m*(cN n l).length) 4097) 1
def oY(b:aW):Bool:=fL b.chairs 1 4&&fL b.coin 1 99&&fL b.box 0 999&&b.lines.all (qQ b.chairs)&&b.counts.all (lU b.lines.length)
def aT(b:aW):Int:=if 8<b.lines.length∨4<b.counts.length then 3 else if oY b=false then 1 else if 4096<uO b.chairs b.lines then 3 else 0
structure Sc where
 ch:List Int
 tk:List Int
 money:Int
 mixed:Int
deriving DecidableEq
def kX(s:Sc):List Int:=s.ch++s.tk++[s.money,s.mixed]
def jQ(l:List Int)(i:Int):Int:=l.getD i.toNat 0
def iA(s:Sc)(l:eZ):Bool:=(decide (jQ s.ch l.chair≠0)==decide (l.kind=2))&&(decide (jQ s.tk l.token≠0)==decide (l.kind=2))
def dO(b:aW)(s:Sc)(i:Int)(l:eZ):Sc:=
 if l.kind=2 then⟨s.ch.set l.chair.toNat 0,s.tk.set l.token.toNat 0,s.money-b.coin,if jQ s.ch l.chair≠jQ s.tk l.token then s.mixed+1 else s.mixed⟩
 else⟨s.ch.set l.chair.toNat (i+1),s.tk.set l.token.toNat (i+1),s.money+b.coin,s.mixed⟩
def eO(b:aW)(s:Sc)(after:Int):Bool:=b.counts.all fun c=>decide (c.after≠after)||fL s.money c.lo c.hi
def eG(b:aW):Sc:=⟨[0,0,0,0],[0,0,0,0],b.box,0⟩
def sH(b:aW):List eZ→Nat→Sc→List (List eZ×List Sc)
 | [],i,s=>if eO b s i=true then [([],[s])]else []
 |l::ls,i,s=>if eO b s i=true then(cN b.chairs l).flatMap fun r=>if iA s r=true then(sH b ls (i+1) (dO b s i r)).map fun x=>(r::x.1,s::x.2)else []else []
def truths(b:aW):List (List eZ×List Sc):=sH b b.lines 0 (eG b)
def sI(b:aW)(fine:Bool):Int:=if aT b≠0 then aT b else if fine=false then 2 else if truths b=[]then 11 else 0
def aAY(ss:List Sc)(k:Nat):Sc:=ss.getD k ⟨[],[],0,0⟩
end C3
open C1 C3
def nX:Rd eZ:=fun _ l cs=>cs=[.int .i64 l.kind,.int .i64 l.chair,.int .i64 l.token]
theorem nX.up:nX.Up:=fun _ _ _ h=>h
def pR:Rd Cn:=fun _ c cs=>cs=[.int .i64 c.after,.int .i64 c.lo,.int .i64 c.hi]
theorem pR.up:pR.Up:=fun _ _ _ h=>h
def x8(l:eZ):Value:=.agg #[.int .i64 l.kind,.int .i64 l.chair,.int .i64 l.token]
def aAU(c:Cn):Value:=.agg #[.int .i64 c.after,.int .i64 c.lo,.int .i64 c.hi]
def fP(D:aA)(v:Value)(b:aW):Prop:=∃lv cv,v=.agg #[.int .i64 b.chairs,.int .i64 b.coin,.int .i64 b.box,lv,cv]∧Sl D nX 3 lv b.lines∧Sl D pR 3 cv b.counts
theorem fP.up{D D':aA}{v:Value}{b:aW}(h:fP D v b)(hl:Le D D'):fP D' v b:=by
 obtain⟨lv,cv,e,h1,h2⟩:=h;exact⟨lv,cv,e,h1.up nX.up hl,h2.up pR.up hl⟩
def FR(s:Sc):Value:=.agg (ints (kX s)).toArray
def CH:Rd Sc:=fun _ s cs=>cs=ints (kX s)
theorem CH.up:CH.Up:=fun _ _ _ h=>h
end Go.Fs
namespace Go.Fs.C3
open C1 (fL cE)

theorem LP{sign none lo hi x:Int}:x∈dT sign none lo hi ↔ (sign≠none∧x=sign)∨(sign=none∧lo≤x∧x≤hi):=by
 unfold dT;by_cases h:sign=none
 ·rw[aGQ Yal,aGA];constructor
  ·rintro⟨i,hi',rfl⟩;have:=aJH.1 hi';exact aGH ⟨h,by omega,by omega⟩
  ·rintro(⟨h1,_⟩|⟨_,h1,h2⟩)
   ·exact absurd h h1
   ·exact⟨(x-lo).toNat,aJH.2 Yd,by omega⟩
 ·rw[aGX h];simp[h]
def IA(l x:eZ):Bool:=(decide (l.kind=0)||decide (l.kind=x.kind))&&(decide (l.chair<0)||decide (l.chair=x.chair))&&(decide (l.token<0)||decide (l.token=x.token))
def aAM(n:Int)(x:eZ):Prop:=(x.kind=1∨x.kind=2)∧0≤x.chair∧x.chair<n∧0≤x.token∧x.token<n
theorem wS{n:Int}{l x:eZ}(hl:qQ n l=true):x∈cN n l ↔ aAM n x∧IA l x=true:=by
 unfold qQ at hl;simp only[aGO,cE]at hl;unfold cN aAM IA;simp only[aLG,aGA,LP,aGO,aIC,aGZ];constructor
 ·rintro⟨k,hk,c,hc,t,ht,rfl⟩;simp only;omega
 ·rintro⟨⟨h1,h2,h3,h4,h5⟩,⟨h6,h7⟩,h8⟩;refine⟨x.kind,by omega,x.chair,by omega,x.token,by omega,rfl⟩
structure BQ(b:aW)(s:Sc):Prop where
 lc:s.ch.length=4
 lt:s.tk.length=4
 pc:∀x∈s.ch,0≤x∧x≤8
 pt:∀x∈s.tk,0≤x∧x≤8
def l0(l:List Int):Int:=((l.filter fun x=>decide (x≠0)).length:Int)
end Go.Fs.C3
namespace Go.Fs.C3
open C1 (fL cE)
def iP(b:aW):List eZ→Nat→Sc→Bool
 | [],i,s=>eO b s i
 |l::ls,i,s=>eO b s i&&(cN b.chairs l).any fun r=>iA s r&&iP b ls (i+1) (dO b s i r)
theorem FF{α β:Type}{l:List α}{f:α→List β}:l.flatMap f≠[] ↔∃x∈l,f x≠[]:=by
 rw[Ne,List.flatMap_eq_nil_iff];simp
theorem BR(b:aW):∀(ls:List eZ) (i:Nat) (s:Sc),iP b ls i s=true ↔ sH b ls i s≠[]
 | [],i,s=>by
  unfold iP sH;cases eO b s i<;>simp
 |l::ls,i,s=>by
  unfold iP sH;cases eO b s i with
  |false=>simp
  |true=>
   rw[aKB,aLH,aGX rfl,FF];refine exists_congr fun r=>and_congr_right fun _=>?_
   rw[aGO,BR b ls];cases iA s r<;>simp
theorem tA(b:aW):iP b b.lines 0 (eG b)=decide (truths b≠[]):=by
 rw[aJO,BR,aGZ];rfl

def rL(l:List Int):List Int:=l.map fun x=>min x 1
theorem BN(l:List Int):(rL l).length=l.length:=aHR _
theorem wR(l:List Int)(k:Nat)(x:Int):rL (l.set k x)=(rL l).set k (min x 1):=List.map_set
theorem tP{l:List Int}(h:∀x∈l,0≤x)(c:Int):(jQ l c≠0) ↔ jQ (rL l) c≠0:=by
 unfold jQ rL;rw[aHP,aHP,aHD];cases e:l[c.toNat]? with
 |none=>simp
 |some x=>
  have:=h x (aGD e);simp only[aHM,aJP];omega
structure aFG(s s':Sc):Prop where
 ch:rL s.ch=rL s'.ch
 tk:rL s.tk=rL s'.tk
 money:s.money=s'.money
structure OE(s:Sc):Prop where
 ch:∀x∈s.ch,0≤x
 tk:∀x∈s.tk,0≤x
theorem YZ{s s':Sc}(h:aFG s s')(hp:OE s)(hp':OE s')(l:eZ):iA s l=iA s' l:=by
 unfold iA;have e1:decide (jQ s.ch l.chair≠0)=decide (jQ s'.ch l.chair≠0):=decide_eq_decide.2 (by rw[tP hp.ch,tP hp'.ch,h.ch]);have e2:decide (jQ s.tk l.token≠0)=decide (jQ s'.tk l.token≠0):=decide_eq_decide.2 (by rw[tP hp.tk,tP hp'.tk,h.tk]);rw[e1,e2]
theorem OH{b:aW}{s s':Sc}(h:aFG s s')(i:Nat)(l:eZ):aFG (dO b s i l) (dO b s' i l):=by
 unfold dO;split
 ·exact⟨by simp only[wR,h.ch],by simp only[wR,h.tk],by simp only[h.money]⟩
 ·exact⟨by simp only[wR,h.ch],by simp only[wR,h.tk],by simp only[h.money]⟩
theorem A7{l:List Int}(h:∀x∈l,0≤x)(k:Nat){y:Int}(hy:0≤y):∀x∈l.set k y,0≤x:=fun x hx=>by
 rcases List.mem_or_eq_of_mem_set hx with hx|rfl
 ·exact h x hx
 ·exact hy
theorem I1{b:aW}{s:Sc}(h:OE s)(i:Nat)(l:eZ):OE (dO b s i l):=by
 unfold dO;split
 ·exact⟨A7 h.ch _ Yd,A7 h.tk _ Yd⟩
 ·exact⟨A7 h.ch _ Yd,A7 h.tk _ Yd⟩
theorem p7(b:aW):∀(ls:List eZ) (i:Nat) (s s':Sc),aFG s s'→OE s→OE s'→iP b ls i s=iP b ls i s'
 | [],i,s,s',h,_,_=>by unfold iP eO;rw[h.money]
 |l::ls,i,s,s',h,hp,hp'=>by
  unfold iP;have e:eO b s i=eO b s' i:=by unfold eO;rw[h.money]
  rw[e];congr 1;refine aGV _ (funext fun r=>?_);rw[YZ h hp hp',p7 b ls (i+1) _ _ (OH h i r) (I1 hp i r) (I1 hp' i r)]

theorem u5{l:List Int}{k:Nat}(hk:k<l.length)(y:Int):l0 (l.set k y)=l0 l-(if l.getD k 0≠0 then 1 else 0)+(if y≠0 then 1 else 0):=by
 induction l generalizing k with
 |nil=>simp at hk
 |cons x l ih=>
  cases k with
  |zero=>
   unfold l0;simp only[List.set_cons_zero,aJX,List.getD_cons_zero,aGZ];split<;>split<;>simp<;>omega
  |succ k=>
   have:=ih (k:=k) (by simpa using hk);unfold l0 at this ⊢
   simp only[List.set_cons_succ,aJX,aKJ];split
   ·simp only[aGM];push_cast;omega
   ·exact this
def I0(b:aW)(s:Sc):Prop:=s.money=b.box+b.coin*l0 s.ch
theorem MM{l m:List Int}(h:rL l=rL m)(hl:∀x∈l,0≤x)(hm:∀x∈m,0≤x):l0 l=l0 m:=by
 induction l generalizing m with
 |nil=>
  cases m with
  |nil=>rfl
  |cons y m=>simp[rL]at h
 |cons x l ih=>
  cases m with
  |nil=>simp[rL]at h
  |cons y m=>
   simp only[rL,aHB,aIP]at h;have:=ih h.2 (fun x hx=>hl x (aGE _ hx)) fun x hx=>hm x (aGE _ hx)
   have h1:=hl x aGL;have h2:=hm y aGL;unfold l0 at this ⊢
   simp only[aJX,aGZ];have e:x≠0 ↔ y≠0:=by have:=h.1;omega
   by_cases hx:x≠0
   ·rw[aGX hx,aGX (e.1 hx)];simp only[aGM];push_cast;omega
   ·rw[aGQ hx,aGQ fun hy=>hx (e.2 hy)];exact this
theorem TG{b:aW}{s:Sc}(h:I0 b s)(h4:s.ch.length=4){i:Nat}{l:eZ}(hc:iA s l=true)(h0:0≤l.chair)(h1:l.chair<4):I0 b (dO b s i l):=by
 unfold iA at hc;simp only[aGO,aKV,decide_eq_decide]at hc;have hk:l.chair.toNat<s.ch.length:=by omega
 unfold I0 at h ⊢
 unfold dO;have hg:s.ch.getD l.chair.toNat 0=jQ s.ch l.chair:=rfl;by_cases e:l.kind=2
 ·rw[aGX e];simp only;rw[u5 hk,hg,aGX (hc.1.2 e),aGQ Yd,h,Int.mul_add,Int.mul_sub];omega
 ·rw[aGQ e];simp only;rw[u5 hk,hg,aGQ fun hh=>e (hc.1.1 hh),aGX Yd,h,Int.mul_add,Int.mul_sub];omega
theorem yR(b:aW):I0 b (eG b):=by unfold I0 eG l0;simp
def RY(s:Sc)(i:Nat):List Int:=(i:Int)::(rL s.ch++rL s.tk)
theorem SS{b:aW}{ls:List eZ}{i i':Nat}{s s':Sc}(e:RY s i=RY s' i')(h:I0 b s)(h':I0 b s')(hp:OE s)(hp':OE s')(h4:s.ch.length=4)(h4':s'.ch.length=4):i=i'∧iP b ls i s=iP b ls i' s':=by
 unfold RY at e;rw[aIP]at e;obtain⟨e1,e2⟩:=e;obtain⟨e3,e4⟩:=List.append_inj e2 (by rw[BN,BN];omega)
 have hi:i=i':=by omega
 subst hi;refine⟨rfl,p7 b ls i s s' ⟨e3,e4,?_⟩ hp hp'⟩;unfold I0 at h h';rw[h,h',MM e3 hp.ch hp'.ch]
end Go.Fs.C3
namespace Go.Fs
variable{P:Program}{X:Cx}{γb:Type}[Membership Nat γb]{bad:γb}{all:Array Oper}{K:Act→World→Prop}{Q:Exit→Act→World→Prop}
variable{σ:bQ}{μ:aC}{Ds:List aA}{os:List (Bool×Nat)}{fl:Bool}{ix:Nat}
variable{d:Nat}{x y z:Operand}{u v:Value}{ty:TypeId}{pos:String}{aft:Array Edge}{g:Option (Nat×Bool)}
variable{k':IntKind}{m n:Nat}{t t':TypeId}
def nW(m n:Nat):Nat:=m ^^^ (m&&&n)
theorem B7(m n i:Nat):(nW m n).testBit i=(m.testBit i&& !n.testBit i):=by
 unfold nW;rw[Nat.testBit_xor,Nat.testBit_and];cases m.testBit i<;>cases n.testBit i<;>rfl
theorem vM(m n:Nat):nW m n≤m:=by
 apply Nat.le_of_testBit;intro i hi;rw[B7]at hi;simp at hi;exact hi.1
theorem pG{m:Nat}(h:m<9223372036854775808):(BitVec.ofInt IntKind.i64.bits (m:Int)).toNat=m:=by
 rw[BitVec.ofInt_natCast,BitVec.toNat_ofNat];exact Nat.mod_eq_of_lt (by show m<2^64;omega)
theorem aBI{m n:Nat}(h:m<9223372036854775808):m&&&n<9223372036854775808:=Nat.lt_of_le_of_lt Nat.and_le_left h
theorem aEJ{m n:Nat}(h:m<9223372036854775808)(h':n<9223372036854775808):m|||n<9223372036854775808:=Nat.or_lt_two_pow (n:=63) h h'
theorem aBB(ho:all[ix]?= some ⟨some d,.binOp .and t x y t',ty,pos,aft,g⟩)(hx:ev σ x=some (.int .i64 (m:Int)))(hy:ev σ y=some (.int .i64 (n:Int)))(hm:m<9223372036854775808)(hn:n<9223372036854775808)(hN:Nat.blt d X.N=true)(hg:cS all σ g)
  (kk:WL P X bad all K Q os ((d,.int .i64 ((m&&&n:Nat):Int))::σ) μ Ds):WL P X bad all K Q ((fl,ix)::os) σ μ Ds:=
 bH ho rfl rfl hN hg (fun ρ hρ w'=>iG Ye (by
  have e:(BitVec.ofInt IntKind.i64.bits (m:Int)&&&BitVec.ofInt IntKind.i64.bits (n:Int)).toNat=m&&&n:=by rw[BitVec.toNat_and,pG hm,pG hn]
  have h2:=aBI (n:=n) hm;have h3:rJ .i64 ((m&&&n:Nat):Int):=by simp only[rJ];omega
  simp only[binOp,ne_eq,not_true_eq_false,aIL,Op.intBits,e,kR h3];rfl) (hρ x _ hx) (hρ y _ hy)) kk
theorem HR(ho:all[ix]?= some ⟨some d,.binOp .or t x y t',ty,pos,aft,g⟩)(hx:ev σ x=some (.int .i64 (m:Int)))(hy:ev σ y=some (.int .i64 (n:Int)))(hm:m<9223372036854775808)(hn:n<9223372036854775808)(hN:Nat.blt d X.N=true)(hg:cS all σ g)
  (kk:WL P X bad all K Q os ((d,.int .i64 ((m|||n:Nat):Int))::σ) μ Ds):WL P X bad all K Q ((fl,ix)::os) σ μ Ds:=
 bH ho rfl rfl hN hg (fun ρ hρ w'=>iG Ye (by
  have e:(BitVec.ofInt IntKind.i64.bits (m:Int)|||BitVec.ofInt IntKind.i64.bits (n:Int)).toNat=m|||n:=by rw[BitVec.toNat_or,pG hm,pG hn]
  have h2:=aEJ hm hn;have h3:rJ .i64 ((m|||n:Nat):Int):=by simp only[rJ];omega
  simp only[binOp,ne_eq,not_true_eq_false,aIL,Op.intBits,e,kR h3];rfl) (hρ x _ hx) (hρ y _ hy)) kk
theorem QA(ho:all[ix]?= some ⟨some d,.binOp .andNot t x y t',ty,pos,aft,g⟩)(hx:ev σ x=some (.int .i64 (m:Int)))(hy:ev σ y=some (.int .i64 (n:Int)))(hm:m<9223372036854775808)(hn:n<9223372036854775808)(hN:Nat.blt d X.N=true)(hg:cS all σ g)
  (kk:WL P X bad all K Q os ((d,.int .i64 ((nW m n:Nat):Int))::σ) μ Ds):WL P X bad all K Q ((fl,ix)::os) σ μ Ds:=
 bH ho rfl rfl hN hg (fun ρ hρ w'=>iG Ye (by
  have e:(BitVec.ofInt IntKind.i64.bits (m:Int)&&& ~~~ BitVec.ofInt IntKind.i64.bits (n:Int)).toNat=nW m n:=by
   apply Nat.eq_of_testBit_eq;intro i;rw[B7,BitVec.testBit_toNat,BitVec.getLsbD_and,BitVec.getLsbD_not,←BitVec.testBit_toNat,←BitVec.testBit_toNat,pG hm,pG hn];by_cases hi:i<IntKind.i64.bits
   ·simp[hi]
   ·have:m.testBit i=false:=Nat.testBit_lt_two_pow (aIV hm (aJB (show 9223372036854775808≤2^64 by decide) (aJW Yag (show 64≤i from Nat.le_of_not_lt hi))));simp[this]
  have h2:=vM m n;have h3:rJ .i64 ((nW m n:Nat):Int):=by simp only[rJ];omega
  simp only[binOp,ne_eq,not_true_eq_false,aIL,Op.intBits,e,kR h3];rfl) (hρ x _ hx) (hρ y _ hy)) kk
theorem CP{a b:Int}(ho:all[ix]?= some ⟨some d,.binOp .or t x y t',ty,pos,aft,g⟩)(hx:ev σ x=some (.int .i64 a))(hy:ev σ y=some (.int .i64 b))(ha:0≤a∧a≤1)(hb:0≤b∧b≤1)(hN:Nat.blt d X.N=true)(hg:cS all σ g)
  (kk:WL P X bad all K Q os ((d,.int .i64 (max a b))::σ) μ Ds):WL P X bad all K Q ((fl,ix)::os) σ μ Ds:=by
 have h1:a=((a.toNat:Nat):Int):=by omega
 have h2:b=((b.toNat:Nat):Int):=by omega
 have h3:max a b=((a.toNat|||b.toNat:Nat):Int):=by
  have ha':a=0∨a=1:=by omega
  have hb':b=0∨b=1:=by omega
  rcases ha' with rfl|rfl<;>rcases hb' with rfl|rfl<;>decide
 rw[h3]at kk;rw[h1]at hx;rw[h2]at hy;exact HR ho hx hy Yd Yd hN hg kk
theorem aAP{k:IntKind}{a:Int}(ho:all[ix]?= some ⟨some d,.unOp .neg t x,ty,pos,aft,g⟩)(hx:ev σ x=some (.int k a))(hr:rJ k (-a))(hN:Nat.blt d X.N=true)(hg:cS all σ g)
  (kk:WL P X bad all K Q os ((d,.int k (-a))::σ) μ Ds):WL P X bad all K Q ((fl,ix)::os) σ μ Ds:=
 bH ho rfl rfl hN hg (fun ρ hρ w'=>by
  have h2:(0:Int)-a= -a:=by omega
  simp only[execOp,hρ x _ hx,Op.unary,Op.intArith,h2,kR hr];rfl) kk
theorem xD{t e:TypeId}{n sz:Nat}{parts:Array (Nat×Operand)}{us:List (Nat×Value)}{zs cs:List Value}(ho:all[ix]?= some ⟨some d,.build t parts,ty,pos,aft,g⟩)(ht:P.underlying t=some (.array n e))(hs:TS P e sz)(hz:TZ P t (.agg zs.toArray))(hu:S1 σ parts.toList=some us)
  (hf:Instr.fill (fun i=>some (i*sz,sz)) zs.toArray us=some cs.toArray) (hN:Nat.blt d X.N=true) (hg:cS all σ g) (kk:WL P X bad all K Q os ((d,.agg cs.toArray)::σ) μ Ds):WL P X bad all K Q ((fl,ix)::os) σ μ Ds:=
 bH ho rfl rfl hN hg (fun ρ hρ w'=>by
  have e:(parts.map fun(i,x)=>(i,ρ x)).toList=us:=by rw[←tV hρ hu];simp
  simp only[execOp,Instr.build,Sem.run_bind,hz w',Result.andThen_ok,TU.of ht w',hs w',Value.cells,e,hf,Sem.run_pure]) kk
theorem MB{op:BinOp}(he:op=.shl∨op=.shr){k:IntKind}{a b:Int}{w:World}{r:Value}(h:(Op.shift op k a k' b).run P w=.ok r w){ρ:Operand→Value}(hx:ρ x=.int k a)(hy:ρ y=.int k' b):
  (execOp ρ ⟨some d,.binOp op t x y t',ty,pos,aft,g⟩).run P w=.ok (.value r) w:=by
 rcases he with rfl|rfl<;>simp[execOp,hx,hy,binOp,h,go_sem]
theorem G7(ho:all[ix]?= some ⟨some d,.binOp .shr t x y t',ty,pos,aft,g⟩)(hx:ev σ x=some (.int .i64 (m:Int)))(hy:ev σ y=some (.int k' (n:Int)))(hn:n≤62)(hN:Nat.blt d X.N=true)(hg:cS all σ g)
  (kk:WL P X bad all K Q os ((d,.int .i64 ((m >>> n:Nat):Int))::σ) μ Ds):WL P X bad all K Q ((fl,ix)::os) σ μ Ds:=
 bH ho rfl rfl hN hg (fun ρ hρ w'=>MB (aGH rfl) (by
  have h1:¬((n:Int)<0):=by omega
  have h2:min (n:Int).toNat IntKind.i64.bits=n:=by rw[aIH];exact aKC (aJB hn Yag)
  have h3:(m:Int).fdiv (2^n)=((m >>> n:Nat):Int):=by
   rw[Nat.shiftRight_eq_div_pow,Int.fdiv_eq_ediv_of_nonneg _ (by exact_mod_cast aKO (2^n))];simp
  simp only[Op.shift,h1,aIL,h2,h3];rfl) (hρ x _ hx) (hρ y _ hy)) kk
theorem jR(m n:Nat):((m >>> n:Nat):Int)%2=if m.testBit n then 1 else 0:=by
 rw[Nat.testBit,Nat.one_and_eq_mod_two];have:=Nat.mod_two_eq_zero_or_one (m >>> n);rcases this with h|h
 ·have:((m >>> n:Nat):Int)%2=0:=by omega
  rw[this];simp[h]
 ·have:((m >>> n:Nat):Int)%2=1:=by omega
  rw[this];simp[h]
end Go.Fs
namespace Go.Fs
namespace C7
structure Pt where
 a:Int
 b:Int
 c:Int
deriving DecidableEq
structure Ch where
 size:Int
 parts:Pt
structure bI where
 chairs:List Ch
 fit:Int
 claims:List (Int×Int)
def Pt.l(p:Pt):List Int:=[p.a,p.b,p.c]
def fL(n lo hi:Int):Bool:=decide (lo≤n)&&decide (n≤hi)
theorem cE{n lo hi:Int}:fL n lo hi=true ↔ lo≤n∧n≤hi:=by simp[fL]
def IY(p:Pt)(m:Int):Bool:=p.l.all fun n=>fL n 0 m
def hC(c:Ch):Bool:=fL c.size 0 9&&IY c.parts 2
def kM(r:Int×Int):Bool:=(decide (0≤r.1)&&decide (r.1≤r.2))&&decide (r.2≤7)
def aBV(p:Pt):Nat:=(p.l.filter fun n=>decide (n=2)).length
def iH(l:List Ch):Nat:=(l.map fun c=>aBV c.parts).sum
def uV(y:bI):Bool:=(fL y.fit 0 9&&y.chairs.all hC)&&y.claims.all kM
def aT(y:bI):Int:=if 7<y.chairs.length∨5<y.claims.length then 3 else if uV y=false then 1 else if 8<iH y.chairs then 3 else 0
def yV(n t:Int):Bool:=fL t 0 1&&(decide (n=2)||decide (t=n))
def GF(p t:Pt):Bool:=(p.l.zip t.l).all fun x=>yV x.1 x.2
def mT(y:bI)(t:List Pt):Bool:=decide (t.length=y.chairs.length)&&(y.chairs.zip t).all fun x=>GF x.1.parts x.2
def iJ(p:Pt):Bool:=decide (p=⟨1,1,1⟩)
def whole(t:List Pt):Nat:=(t.filter iJ).length
end C7
open C7
def aFF(p:Pt):Value:=.agg #[.int .i64 p.a,.int .i64 p.b,.int .i64 p.c]
def aDU(c:Ch):Value:=.agg #[.int .i64 c.size,.int .i64 c.parts.a,.int .i64 c.parts.b,.int .i64 c.parts.c]
def RP:Rd Pt:=fun _ p cs=>cs=[.int .i64 p.a,.int .i64 p.b,.int .i64 p.c]
theorem RP.up:RP.Up:=fun _ _ _ h=>h
def rC:Rd Ch:=fun _ c cs=>cs=[.int .i64 c.size,.int .i64 c.parts.a,.int .i64 c.parts.b,.int .i64 c.parts.c]
theorem rC.up:rC.Up:=fun _ _ _ h=>h
def R2:Rd (Int×Int):=fun _ p cs=>cs=[.int .i64 p.1,.int .i64 p.2]
theorem R2.up:R2.Up:=fun _ _ _ h=>h
def lE(D:aA)(v:Value)(y:bI):Prop:=∃cv rv,v=.agg #[cv,.int .i64 y.fit,rv]∧Sl D rC 4 cv y.chairs∧Sl D R2 2 rv y.claims
theorem lE.up{D D':aA}{v:Value}{y:bI}(h:lE D v y)(hl:Le D D'):lE D' v y:=by
 obtain⟨cv,rv,hv,hc,hr⟩:=h;exact⟨cv,rv,hv,hc.up rC.up hl,hr.up R2.up hl⟩
end Go.Fs
namespace Go.Fs
variable{P:Program}{X:Cx}{γb:Type}[Membership Nat γb]{bad:γb}{all:Array Oper}{K:Act→World→Prop}{Q:Exit→Act→World→Prop}
variable{σ:bQ}{μ:aC}{Ds:List aA}{os:List (Bool×Nat)}{fl:Bool}{ix:Nat}
variable{d:Nat}{x y z:Operand}{u v:Value}{ty:TypeId}{pos:String}{aft:Array Edge}{g:Option (Nat×Bool)}
abbrev aC.ks(μ:aC):List Nat:=μ.map fun p=>p.1
def Q1(P:Program)(f:FuncId)(args:List Value)(D:aA)(ν:aC)(post:aA→Value→aC→Prop):Prop:=
 EF P f∧∀w,dQ D w→(∀p∈ν,w.heap[p.1]?= some p.2∧D p.1=[]∧cF p.2)→ν.ks.Nodup→Calls P f args.toArray w fun e w'=>∃v D' ν',e=.returned v∧ν'.ks=ν.ks∧fI (hd w) w.heap.size D ν.ks ν' D' w'∧post D' v ν'
theorem fI.afterM{h0:H0}{lo:Nat}{D0 D D':aA}{mods:List Nat}{A B ν ν':aC}{w w':World}(h:fI h0 lo D0 mods (A++ν++B) D w)(hk:ν'.ks=ν.ks)(hs:fI (hd w) w.heap.size D ν.ks ν' D' w'):fI h0 lo D0 mods (A++ν'++B) D' w':=by
 have hle:=aJB h.hlo h.size;have hin:∀c∈ν.ks,∃o,(c,o)∈ν:=fun c hc=>by
  obtain⟨p,hp,rfl⟩:=aGA.1 hc;exact⟨p.2,hp⟩
 have hbx:∀p∈ν,_:=fun p hp=>h.box p (aGI _ (aFZ _ hp))
 have hnd:=h.nd;simp only[aGS]at hnd;have keys:(A++ν'++B).map (fun p=>p.1)=(A++ν++B).map (fun p=>p.1):=by
  simp only[aGS];rw[show ν'.map (fun p=>p.1)=ν.map (fun p=>p.1)from hk]
 refine⟨h.hlo,aJB h.size hs.size,fun c hc hm=>?_,fun c hc=>?_,hs.agr,fun p hp=>?_,by rw[keys];exact h.nd,fun p hp=>?_,fun e he=>(hs.env _ rfl).trans (h.env e he)⟩
 ·have hne:c∉ν.ks:=by
   intro hcm;obtain⟨o,ho⟩:=hin c hcm;rcases(hbx _ ho).2.2 with h'|h'
   ·have:=h.hlo;simp at h';omega
   ·exact hm h'
  rw[hs.old c (aIV hc hle) hne];exact h.old c hc hm
 ·rw[hs.dold c (aIV hc hle)];exact h.dold c hc
 ·rcases aGP.1 hp with hp|hp
  ·rcases aGP.1 hp with hp|hp
   ·obtain⟨h1,h2,h3⟩:=h.box p (aGI _ (aGI _ hp));have hl:=aY h1;have hne:p.1∉ν.ks:=fun hm=>(aGK.1 (aGK.1 hnd).1).2.2 p.1 (aGA.2 ⟨p,hp,rfl⟩) p.1 hm rfl
    exact⟨by rw[hs.old _ hl hne];exact h1,by rw[hs.dold _ hl];exact h2,h3⟩
   ·obtain⟨q1,q2,_⟩:=hs.box p hp;have hm:p.1∈ν.ks:=by rw[←hk];exact aGA.2 ⟨p,hp,rfl⟩
    obtain⟨o,ho⟩:=hin p.1 hm;exact⟨q1,q2,(hbx _ ho).2.2⟩
  ·obtain⟨h1,h2,h3⟩:=h.box p (aFZ _ hp);have hl:=aY h1;have hne:p.1∉ν.ks:=fun hm=>(aGK.1 hnd).2.2 p.1 (aFZ _ hm) p.1 (aGA.2 ⟨p,hp,rfl⟩) rfl
   exact⟨by rw[hs.old _ hl hne];exact h1,by rw[hs.dold _ hl];exact h2,h3⟩
 ·rcases aGP.1 hp with hp|hp
  ·rcases aGP.1 hp with hp|hp
   ·exact h.fz p (aGI _ (aGI _ hp))
   ·exact hs.fz p hp
  ·exact h.fz p (aFZ _ hp)
theorem dX{c:Operand}{xs:Array Operand}{ats:Array TypeId}{f:FuncId}{c1 c2:List Value}{vs:List Value}{A B ν:aC}{post:aA→Value→aC→Prop}(ho:all[ix]?= some ⟨some d,.call {callee:=.value c,args:=xs,argTypes:=ats},ty,pos,aft,g⟩)(hc:ev σ c=some (.func (.func f) c1.toArray c2.toArray))(hxs:H3 σ xs.toList=some vs)
  (hex:X.ex=none) (hfl:fl=false∨∀p∈ν,p.1∈bad) (hu:∀p∈ν,cF p.2) (hf:∀D,(∀D₁∈Ds,Le D₁ D)→Q1 P f (c1++vs++c2) D ν post) (hN:Nat.blt d X.N=true) (hg:cS all σ g)
  (kk:∀v D ν',(∀D₁∈Ds,Le D₁ D)→post D v ν'→WL P X bad all K Q os ((d,v)::σ) (A++ν'++B) (D::Ds)):
  WL P X bad all K Q ((fl,ix)::os) σ (A++ν++B) Ds:=by
 refine dI ho rfl rfl hg fun a w hh=>?_
 obtain⟨h1,h2,h3,D,h4,h5,h6⟩:=id hh;have hF:=hf D h5;have hbx:∀p∈ν,_:=fun p hp=>h4.box p (aGI _ (aFZ _ hp))
 have hnd:=h4.nd;simp only[aGS]at hnd;rw[pD hF.1 (hh.eval hc) (iB (fun _ _ hx=>hh.eval hx) hxs)];refine⟨fun h=>by simp[FW]at h,cU.2 ((hF.2 w h4.agr (fun p hp=>⟨(hbx p hp).1,(hbx p hp).2.1,hu p hp⟩) (aGK.1 (aGK.1 hnd).1).2.1).mono ?_)⟩;rintro e w' ⟨v,D',ν',rfl,hk,hs,hpost⟩;have hle:=eR h4.agr hs;refine⟨fun hflt=>⟨hs.size,fun c hc hcb=>hs.old c hc (fun hm=>?_)⟩,kk v D' ν' (fun D₁ hD₁=>(h5 D₁ hD₁).trans hle) hpost _ _ ?_⟩
 ·obtain⟨p,hp,rfl⟩:=aGA.1 hm;rcases hfl with h|h
  ·rw[hflt]at h;cases h
  ·exact hcb (h p hp)
 ·refine Hl.put ⟨h1,h2,h3,D',h4.afterM hk hs,fun D₁ hD₁=>?_,by unfold uF;rw[hex];trivial⟩ hN v;rcases aGB.1 hD₁ with rfl|hD₁
  ·exact Le.refl _
  ·exact(h5 D₁ hD₁).trans hle
theorem I9{c:Operand}{xs:Array Operand}{ats:Array TypeId}{f:FuncId}{c1 c2:List Value}{vs:List Value}{A ν:aC}{post:aA→Value→aC→Prop}(ho:all[ix]?= some ⟨some d,.call {callee:=.value c,args:=xs,argTypes:=ats},ty,pos,aft,g⟩)(hc:ev σ c=some (.func (.func f) c1.toArray c2.toArray))(hxs:H3 σ xs.toList=some vs)
  (hex:X.ex=none) (hfl:fl=false∨∀p∈ν,p.1∈bad) (hu:∀p∈ν,cF p.2) (hf:∀D,(∀D₁∈Ds,Le D₁ D)→Q1 P f (c1++vs++c2) D ν post) (hN:Nat.blt d X.N=true) (hg:cS all σ g)
  (kk:∀v D ν',(∀D₁∈Ds,Le D₁ D)→post D v ν'→WL P X bad all K Q os ((d,v)::σ) (A++ν') (D::Ds)):
  WL P X bad all K Q ((fl,ix)::os) σ (A++ν) Ds:=by
 have:=dX (A:=A) (B:=[]) ho hc hxs hex hfl hu hf hN hg (fun v D ν' h1 h2=>by rw[aGG];exact kk v D ν' h1 h2)
 rwa [aGG]at this
def iQ(X:Cx)(ks:List Nat)(post:aA→Value→aC→Prop):Ending→World→Prop:=fun e w'=>∃v D' ν',e=.returned v∧ν'.ks=ks∧fI X.h0 X.lo X.D0 X.mods ν' D' w'∧post D' v ν'
theorem bT{fn:Func}{ks:List Nat}{post:aA→Value→aC→Prop}:NP (bodyPost P fn (iQ X ks post)):=by
 rintro c a w ⟨_,v,D',μ',h,_⟩;cases h
def lT(N:Nat)(h0:H0)(D:aA)(ks:List Nat):Cx:=⟨none,N,[],h0,h0.size,D,ks,none⟩
theorem fT{f:FuncId}{fn:Func}{c:Code}{args:List Value}{D:aA}{ν:aC}{post:aA→Value→aC→Prop}(N:Nat)(hf:P.funcs[f]?= some fn)(hn:(fn.name== "runtime.NumGoroutine")=false)(hb:fn.body=some c)(hN:fn.ntmps=N)(hsz:Nat.ble args.length N=true)
  (h:∀h0:H0,(∀p∈ν,p.1<h0.size)→ν.ks.Nodup→WC P (lT N h0 D ν.ks) (bodyPost P fn (iQ (lT N h0 D ν.ks) ν.ks post)) c (gG 0 args) ν [D]):Q1 P f args D ν post:=by
 refine⟨EF.of hf hn hb,fun w hw hν hnd=>?_⟩;subst hN;have hsz:=aIE hsz;refine(cU (r:=none) (n:=0)).1 ((callsIn_of_wp (R:=iQ (lT fn.ntmps (hd w) D ν.ks) ν.ks post) hf hb aLJ (h (hd w) (fun p hp=>aY (hν p hp).1) hnd _ w ⟨?_,fun s v hs=>?_,rfl,D,⟨aGW _,aGW _,fun _ _ _=>rfl,fun _ _=>rfl,hw,(fun p hp=>?_),hnd,(fun p hp=>(hν p hp).2.2),fun e he=>aHC he⟩,fun D₁ h1=>?_,aLJ⟩) rfl).mono ?_)
 ·simp[lT];omega
 ·obtain⟨_,h2⟩:=eA args 0 s v hs;have hl:=(aGJ.1 h2).1;simp only[aJN]at h2 hl;show(args.toArray++_)[s]?= some v;rw[aIX Yam];simpa using h2
 ·exact⟨(hν p hp).1,(hν p hp).2.1,aGH (aGA.2 ⟨p,hp,rfl⟩)⟩
 ·simp only[aGU]at h1;subst h1;exact Le.refl _
 ·rintro e w' ⟨v,D',ν',rfl,hk,hs,hp⟩;exact⟨v,D',ν',rfl,hk,hs,hp⟩
theorem LA{fn:Func}{ks:List Nat}{A B ν':aC}{post:aA→Value→aC→Prop}{e:Exit}(he:(match e with|.normal=>true|.ret=>true|_=>false)=true){rs:List ResultVar}{vs:List Value}(hds:X.ds=[])(hr:fn.results=rs.toArray)(h:rM P X σ (A++ν'++B) rs vs)
  (hk:ν'.ks=ks) (hp:∀D,(∀D₁∈Ds,Le D₁ D)→post D (mI vs) ν'):∀a w,Hl X σ (A++ν'++B) Ds a w→bodyPost P fn (iQ X ks post) e a w:=by
 intro a w hh;have hrun:=fR hh hr h;obtain⟨h1,h2,h3,D,h4,h5,h6⟩:=hh;have hnd:=h4.nd;simp only[aGS]at hnd;have:a.defers=[]∧∃v,(results fn a.tmps).run P w=.ok v w∧iQ X ks post (.returned v) w:=⟨h3.trans hds,_,hrun,_,D,ν',rfl,hk,h4.sub (fun p hp=>aGI _ (aFZ _ hp)) (aGK.1 (aGK.1 hnd).1).2.1,hp D h5⟩
 cases e<;>first|exact this|cases he
theorem _root_.Go.Fs.Zy{fn:Func}{ks:List Nat}(A:aC)(B:aC)(ν':aC){post:aA→Value→aC→Prop}{e:Exit}{rs:List ResultVar}(vs:List Value)(e9:((match e with|.normal=>true|.ret=>true|_=>false),X.ds,fn.results)=(true,[],rs.toArray))(h:rM P X σ (A++ν'++B) rs vs)(hk:ν'.ks=ks)(hp:∀D,(∀D₁∈Ds,Le D₁ D)→post D (mI vs) ν'):∀a w,Hl X σ (A++ν'++B) Ds a w→bodyPost P fn (iQ X ks post) e a w:=LA (A:=A) (B:=B) (ν':=ν') (vs:=vs) (aGV (fun z=>z.1) e9) (aGV (fun z=>z.2.1) e9) (aGV (fun z=>z.2.2) e9) h hk hp
end Go.Fs
