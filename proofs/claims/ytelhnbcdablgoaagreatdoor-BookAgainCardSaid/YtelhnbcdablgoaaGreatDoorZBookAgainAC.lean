/- Of the proof of BookAgain: Rest, Types, Spec, Row, Keys, Own, Tide, Book, BookLaw, BookEnds, Bits, Yard, Many. -/
import Derived.Test.YtelhnbcdablgoaaGreatDoorZBookAgainAB
import Derived.Test.YtelhnbcdablgoaaGreatDoorProg
import Derived.Test.YtelhnbcdablgoaaGreatDoorZBookAgainAA
import Derived.ChangeKeysEq
namespace Go.Fs
variable{P:Program}{X:Cx}{γb:Type}[Membership Nat γb]{bad:γb}{all:Array Oper}{K:Act→World→Prop}{Q:Exit→Act→World→Prop}
variable{σ:bI}{μ:aC}{Ds:List aA}{os:List (Bool×Nat)}{fl:Bool}{ix:Nat}
variable{d:Nat}{x y z:Operand}{u v:Value}{ty:TypeId}{pos:String}{aft:Array Edge}{g:Option (Nat×Bool)}
theorem TV{t e:TypeId}{n b:Nat}(ho:all[ix]?= some ⟨some d,.slice t x none none none,ty,pos,aft,g⟩)(ht:P.underlying t=some (.array n e))(hs:TS P e 1)(hx:ev σ x=some (.pointer (some ⟨b,0,none⟩)))
  (hN:Nat.blt d X.N=true) (hg:cY all σ g) (kk:WL P X bad all K Q os ((d,.slice (some ⟨b,0,none⟩) n n)::σ) μ Ds):WL P X bad all K Q ((fl,ix)::os) σ μ Ds:=
 bO ho rfl rfl hN hg (fun ρ hρ w'=>by
  simp only[execOp,hρ x _ hx,aOK];unfold Instr.sliceAt Instr.sureAddr Instr.sliceBounds;simp only[Sem.run_bind,TU.of ht w',Result.andThen_ok,hs w',Sem.run_pure,pure_bind,aQF,aPY];split<;>simp[Addr.add]) kk
theorem TB{k k':IntKind}{s t:TypeId}{n:Int}(ho:all[ix]?= some ⟨some d,.convert s t x,ty,pos,aft,g⟩)(hr:∀w,(Go.convert s t (.int k n)).run P w=.ok (.int k' n) w)(hx:ev σ x=some (.int k n))(hN:Nat.blt d X.N=true)(hg:cY all σ g)
  (kk:WL P X bad all K Q os ((d,.int k' n)::σ) μ Ds):WL P X bad all K Q ((fl,ix)::os) σ μ Ds:=
 bO ho rfl rfl hN hg (fun ρ hρ w'=>by simp only[execOp,hρ x _ hx,Sem.run_bind,hr w',Result.andThen_ok,Sem.run_pure]) kk
theorem wQ{t t':TypeId}{b:Bool}(ho:all[ix]?= some ⟨some d,.binOp .eql t x y t',ty,pos,aft,g⟩)(hr:∀w,((do eqGuard .eql t x y u v;binOp .eql t u v):Sem Value).run P w=.ok (.bool b) w)(hx:ev σ x=some u)(hy:ev σ y=some v)(hN:Nat.blt d X.N=true)(hg:cY all σ g)
  (kk:WL P X bad all K Q os ((d,.bool b)::σ) μ Ds):WL P X bad all K Q ((fl,ix)::os) σ μ Ds:=
 bO ho rfl rfl hN hg (fun ρ hρ w'=>by simp only[execOp,hρ x _ hx,hρ y _ hy];rw[Sem.run_bind,hr w'];rfl) kk
theorem AG{t t':TypeId}{b:Bool}(ho:all[ix]?= some ⟨some d,.binOp .neq t x y t',ty,pos,aft,g⟩)(hr:∀w,((do eqGuard .neq t x y u v;binOp .neq t u v):Sem Value).run P w=.ok (.bool b) w)(hx:ev σ x=some u)(hy:ev σ y=some v)(hN:Nat.blt d X.N=true)(hg:cY all σ g)
  (kk:WL P X bad all K Q os ((d,.bool b)::σ) μ Ds):WL P X bad all K Q ((fl,ix)::os) σ μ Ds:=
 bO ho rfl rfl hN hg (fun ρ hρ w'=>by simp only[execOp,hρ x _ hx,hρ y _ hy];rw[Sem.run_bind,hr w'];rfl) kk
theorem uF{t:TypeId}{a b:Bool}(ht:P.underlying t=some .bool)(w:World):(Op.equal t (.bool a) (.bool b)).run P w=.ok (a==b) w:=by
 have h:(Op.equalIn (9999+1) t (.bool a) (.bool b)).run P w=.ok (a==b) w:=by
  rw[Op.equalIn,Sem.run_bind,TU.of ht w];rfl
 exact h
theorem aIA{t t':TypeId}{a b:Bool}(ho:all[ix]?= some ⟨some d,.binOp .eql t x y t',ty,pos,aft,g⟩)(ht:P.underlying t=some .bool)(hx:ev σ x=some (.bool a))(hy:ev σ y=some (.bool b))(hN:Nat.blt d X.N=true)(hg:cY all σ g)
  (kk:WL P X bad all K Q os ((d,.bool (a==b))::σ) μ Ds):WL P X bad all K Q ((fl,ix)::os) σ μ Ds:=
 wQ ho (fun w=>by
  have hg:(eqGuard .eql t x y (.bool a) (.bool b)).run P w=.ok () w:=rfl;rw[Sem.run_bind,hg];show((do Pure.pure (Value.bool (←Op.equal t (.bool a) (.bool b)))):Sem Value).run P w=_;rw[Sem.run_bind,uF ht];rfl) hx hy hN hg kk
theorem s6{t t':TypeId}{a b:Bool}(ho:all[ix]?= some ⟨some d,.binOp .neq t x y t',ty,pos,aft,g⟩)(ht:P.underlying t=some .bool)(hx:ev σ x=some (.bool a))(hy:ev σ y=some (.bool b))(hN:Nat.blt d X.N=true)(hg:cY all σ g)
  (kk:WL P X bad all K Q os ((d,.bool (!(a==b)))::σ) μ Ds):WL P X bad all K Q ((fl,ix)::os) σ μ Ds:=
 AG ho (fun w=>by
  have hg:(eqGuard .neq t x y (.bool a) (.bool b)).run P w=.ok () w:=rfl;rw[Sem.run_bind,hg];show((do Pure.pure (Value.bool (!(←Op.equal t (.bool a) (.bool b))))):Sem Value).run P w=_;rw[Sem.run_bind,uF ht];rfl) hx hy hN hg kk
theorem y6{n:Nat}(h:∀a w,Hl X σ μ Ds a w→Q .normal a w):WC P X Q (.label n) σ μ Ds:=fun a w hh=>wpIn_label (h a w hh)
theorem R6{t e:TypeId}{n:Nat}{l:List Int}{k:IntKind}{i m:Int}(ho:all[ix]?= some ⟨some d,.index t x y,ty,pos,aft,g⟩)(ht:P.underlying t=some (.array n e))(ha:TA P e false)(hs:TS P e 1)(hx:ev σ x=some (.agg (ints l).toArray))(hy:ev σ y=some (.int k i))(h0:0≤i)(h1:i<n)(hm:l[i.toNat]?= some m)
  (hN:Nat.blt d X.N=true) (hg:cY all σ g) (kk:WL P X bad all K Q os ((d,.int .i64 m)::σ) μ Ds):WL P X bad all K Q ((fl,ix)::os) σ μ Ds:=
 bO ho rfl rfl hN hg (fun ρ hρ w'=>by
  have hg:(ints l).toArray[i.toNat]?= some (.int .i64 m):=by simpa using cA hm
  simp only[execOp,hρ x _ hx,hρ y _ hy];unfold Instr.index asIntOf part;simp only[Sem.run_bind,TU.of ht w',Result.andThen_ok,hs w',ha w',Sem.run_pure,pure_bind,h0,h1,aQV,aOJ,aPE,aNJ,aOP,hg]) kk
theorem eQ(l m:List Int):ints l++ints m=ints (l++m):=by simp[ints]
theorem aBW{t f k ft:Nat}{cs:List Value}{fs:Array Field}(ho:all[ix]?= some ⟨some d,.field t x f,ty,pos,aft,g⟩)(ht:P.underlying t=some (.struct fs))(hk:(fs[f]?).map (fun f=>(f.offset,f.type))=some (k,ft))(ha:TA P ft false)(hx:ev σ x=some (.agg cs.toArray))(hv:cs[k]?= some v)
  (hN:Nat.blt d X.N=true) (hg:cY all σ g) (kk:WL P X bad all K Q os ((d,v)::σ) μ Ds):WL P X bad all K Q ((fl,ix)::os) σ μ Ds:=
 bO ho rfl rfl hN hg (fun ρ hρ w'=>by
  cases hf:fs[f]? with
  |none=>simp[hf]at hk
  |some f0=>
   simp only[hf,aNN,aRA,aPX]at hk;obtain⟨rfl,rfl⟩:=hk;have hv':cs.toArray[f0.offset]?= some v:=by simpa using hv
   simp only[execOp,hρ x _ hx];unfold Instr.field asAgg part;simp only[Sem.run_bind,TU.of ht w',Result.andThen_ok,hf,ha w',Sem.run_pure,pure_bind,aNJ,aOP,hv']) kk
theorem gM{t:TypeId}{D₁:aA}{b k:Nat}{cs:List Value}(ho:all[ix]?= some ⟨some d,.load t x,ty,pos,aft,g⟩)(ha:TA P t false)(hx:ev σ x=some (.pointer (some ⟨b,k,none⟩)))(hA:At D₁ b 0 cs)(hD:D₁∈Ds)(hv:cs[k]?= some v)(hb:b∉bad)
  (hN:Nat.blt d X.N=true) (hg:cY all σ g) (kk:WL P X bad all K Q os ((d,v)::σ) μ Ds):WL P X bad all K Q ((fl,ix)::os) σ μ Ds:=
 bC (o:=0) (k:=k) ho ha (by rw[aPC];exact hx) hA hD hv hb hN hg kk
theorem J5{γ:Type}{c:Code}{N lo:Nat}{J0:pC}(m:γ→Nat)(I:γ→Prop)(J:γ→pC)(ch:γ→bI)(rest:bI)(M:γ→aC)(E:γ→List aA)(g₀:γ)(h₀:I g₀)(hJ:J0=J g₀)(hch:x9 σ (ch g₀))(hrest:x9 σ rest)(hμ:(M g₀).Sublist μ)(hD:∀D∈E g₀,∃D'∈Ds,Le D D')
  (round:∀g,I g→WC P (Xj N lo (J g)) (Exit.then (fun a w=>∃g',I g'∧m g'<m g∧Hl (Xj N lo (J g')) (ch g'++rest) (M g') (E g') a w) Q) c (ch g++rest) (M g) (E g)):WC P (Xj N lo J0) Q (.loop c) σ μ Ds:=by
 subst hJ
 let p:Act→World→Nat→Prop:=fun a w n=>∃g,I g∧m g=n∧Hl (Xj N lo (J g)) (ch g++rest) (M g) (E g) a w
 have ex:∀a w,(∃n,p a w n)→∃n,p a w n∧∀k,p a w k→n≤k:=by
  intro a w ⟨n,hn⟩;induction n using Nat.strongRecOn with
  |_ n ih=>
   by_cases h:∃k,k<n∧p a w k
   ·obtain⟨k,hk,hp⟩:=h;exact ih k hk hp
   ·exact⟨n,hn,fun k hk=>Nat.le_of_not_lt fun hl=>h ⟨k,hl,hk⟩⟩
 intro a w hh;refine wpIn_loop (fun a w=>∃n,p a w n) (fun a w=>open Classical in if h:∃n,p a w n then(ex a w h).choose else 0) ⟨_,g₀,h₀,rfl,hh.weak (x9.app hch hrest) hμ hD⟩ ?_;intro a w hI;obtain⟨⟨g,hg,hm,hst⟩,hmin⟩:=(ex a w hI).choose_spec;refine wpIn_mono (round g hg a w hst) fun e a' w' hq=>?_
 cases e with
 |normal=>
  obtain⟨g',hg',hlt,hst'⟩:=hq;have hI':∃n,p a' w' n:=⟨_,g',hg',rfl,hst'⟩
  refine⟨hI',?_⟩;simp only[dif_pos hI',dif_pos hI];have:=(ex a' w' hI').choose_spec.2 _ ⟨g',hg',rfl,hst'⟩;omega
 |_=>exact hq
theorem lM{γ:Type}{N lo:Nat}{J1:pC}{m:γ→Nat}{I:γ→Prop}{J:γ→pC}{ch:γ→bI}{rest:bI}{M:γ→aC}{E:γ→List aA}{g:γ}(n:Nat)(g':γ)(h1:I g')(h2:m g'<m g)(hJ:J1=J g')(hch:x9 σ (ch g'))(hn:wM n σ=true)(hr:σ.drop n=rest)(hμ:(M g').Sublist μ)(hD:∀D∈E g',∃D'∈Ds,Le D D'):
  ∀a w,Hl (Xj N lo J1) σ μ Ds a w→Exit.then (fun a w=>∃g',I g'∧m g'<m g∧Hl (Xj N lo (J g')) (ch g'++rest) (M g') (E g') a w) Q .normal a w:=by
 subst hJ;intro a w hh;refine⟨g',h1,h2,?_⟩;have h3:=hh.weak (σ':=ch g') hch hμ hD;refine⟨h3.1,fun s v hs=>?_,h3.2.2⟩;rcases uI hs with hs|hs
 ·exact h3.2.1 s v hs
 ·subst hr;exact hh.2.1 s v (uX n σ hn s v hs)
theorem EO{J J1 J0:pC}{l N lo:Nat}{c:Operand}{xs:Array Operand}{ats:Array TypeId}{vs:List Value}(ho:all[ix]?= some ⟨some d,.call {callee:=.value c,args:=xs,argTypes:=ats},ty,pos,aft,g⟩)
  (hc:ev σ c=some (.func (.yield l) #[] #[])) (hxs:P1 σ xs.toList=some vs) (hfl:fl=false) (hs1:xE lo J1) (hs0:xE lo J0)
  (hY:∀D w,uR lo D w→J (μ.map (·.1)) D w→(∀p∈μ,p.1<w.heap.size)→(∀D₁∈Ds,Le D₁ D)→fY P l vs w fun b D' w'=>uR lo D' w'∧tJ (μ.map (·.1)) D w D' w'∧(if b then J1 (μ.map (·.1)) D' w' else J0 (μ.map (·.1)) D' w'))
  (hN:Nat.blt d N=true) (hg:cY all σ g)
  (kk:∀b J',J'=(if b=true then J1 else J0)→WL P (Xj N lo J') bad all K Q os ((d,.bool b)::σ) μ Ds):WL P (Xj N lo J) bad all K Q ((fl,ix)::os) σ μ Ds:=
 aEX (X:=Xj N lo J) ho hc hxs rfl hfl rfl rfl hs1 hs0 hY hN hg (kk true J1 rfl) (kk false J0 rfl)
theorem uU{c:Code}(k:(μ.map (·.1)).Nodup→WC P X Q c σ μ Ds):WC P X Q c σ μ Ds:=fun a w hh=>k (by obtain⟨_,_,_,D,h4,_⟩:=hh;exact h4.nd) a w hh
theorem bK{t:TypeId}{b n:Nat}{vs us:List Value}{e:TypeId}{μ':aC}(ho:all[ix]?= some ⟨none,.store t x y,ty,pos,aft,g⟩)(hx:ev σ x=some (.pointer (some ⟨b,0,none⟩)))(hy:ev σ y=some v)(hv:v.cells=us.toArray)(hs:TS P t n)
  (hn:us.length=n) (hl:vs.length=n) (hm:bS μ b (.cells vs.toArray e (0,0)) (.cells us.toArray e (0,0)) μ') (hc1:∀u∈us,cell1 u=true) (hg:cY all σ g)
  (kk:WL P X bad all K Q os σ μ' Ds):WL P X bad all K Q ((false,ix)::os) σ μ Ds:=
 aL ho hx hy hv (by rw[hn];exact hs) hm Yd (by rw[List.take_zero,aPC,aNM Yd];simp) hc1 hg kk
theorem _root_.Go.Fs.Zu{t:TypeId}{b:Nat}{n:Nat}{vs:List Value}{us:List Value}{e:TypeId}{μ':aC}(e9:(all[ix]?,ev σ x,ev σ y,v.cells)=(some ⟨none,.store t x y,ty,pos,aft,g⟩,some (.pointer (some ⟨b,0,none⟩)),some v,us.toArray))(hs:TS P t n)(hm:bS μ b (.cells vs.toArray e (0,0)) (.cells us.toArray e (0,0)) μ')(kk:WL P X bad all K Q os σ μ' Ds)(hn:us.length=n:=by exact Yb)(hl:vs.length=n:=by exact Yb)(hc1:∀u∈us,cell1 u=true:=by exact Yh)(hg:cY all σ g:=by exact cW):WL P X bad all K Q ((false,ix)::os) σ μ Ds:=bK (aMQ (fun z=>z.1) e9) (aMQ (fun z=>z.2.1) e9) (aMQ (fun z=>z.2.2.1) e9) (aMQ (fun z=>z.2.2.2) e9) hs hn hl hm hc1 hg kk
theorem eE{t e tr e':TypeId}{n sz:Nat}{cells:List Value}{ν:aC}{ats:Array TypeId}(ho:all[ix]?= some ⟨some d,.call {callee:=.builtin .len,args:=#[x],argTypes:=ats},tr,pos,aft,g⟩)(ht:P.underlying t=some (.slice e))(hx:ev σ x=some v)(hS:bM e' sz v n cells ν)(hat:ats[0]?= some t)
  (hN:Nat.blt d X.N=true) (hg:cY all σ g) (kk:WL P X bad all K Q os ((d,.int .i64 (n:Int))::σ) μ Ds):
  WL P X bad all K Q ((fl,ix)::os) σ μ Ds:=
 bO ho rfl rfl hN hg (fun ρ hρ w'=>by
  have hx':=hρ x _ hx;rcases hS with⟨a,rfl,rfl,_⟩|⟨b,cap,junk,rfl,_⟩
  ·simp[Builtin.len_,hat,hx',Sem.run_bind,TU.of ht w',goInt,Sem.run_pure,go_sem]
  ·simp[Builtin.len_,hat,hx',Sem.run_bind,TU.of ht w',goInt,Sem.run_pure,go_sem]) kk
theorem Hl.dropBoxes{a:Act}{w:World}(n:Nat)(h:Hl X σ μ Ds a w):Hl X σ (μ.drop n) Ds a w:=by
 obtain⟨h1,h2,h3,D,h4,h5,h6⟩:=h;have hμ:(μ.drop n).Sublist μ:=List.drop_sublist n μ;exact⟨h1,h2,h3,D,h4.sub (fun p hp=>hμ.mem hp) ((hμ.map (·.1)).nodup h4.nd),h5,h6.step (fun _ p hp=>aMR (aMB.2 ⟨p,hμ.mem hp,rfl⟩)) (fun _=>aAA.refl _ _ _) h4.dom⟩
theorem bM.cells1{e:TypeId}{sz n:Nat}{cells:List Value}{ν:aC}(h:bM e sz v n cells ν):v.cells=[v].toArray:=by
 rcases h with⟨a,rfl,_⟩|⟨b,cap,junk,rfl,_⟩<;>rfl
theorem bM.cell1{e:TypeId}{sz n:Nat}{cells:List Value}{ν:aC}(h:bM e sz v n cells ν):∀u∈[v],Fs.cell1 u=true:=by
 rcases h with⟨a,rfl,_⟩|⟨b,cap,junk,rfl,_⟩<;>simp[Fs.cell1]

theorem jU{b:Frame}{a:Act}{k:List Item}{cs:List Frame}{w:World}{c:Code}:step P (lone (b.atR a (.code (.scope c)::k)) cs w)=.next (lone (b.atR a (.code c::.inScope c::k)) cs w):=
 step_lone_go (by simp[stepG,stepG.exec,Frame.atR])
theorem K5{b:Frame}{a:Act}{k:List Item}{cs:List Frame}{w:World}{c:Code}:step P (lone (b.atR a (.inScope c::k)) cs w)=.next (lone (b.atR a k) cs w):=
 step_lone_go (by simp[stepG,stepG.exec,Frame.atR])
def AI(Q:Exit→Act→World→Prop):Exit→Act→World→Prop
 |.goto _,_,_=>False
 |e,a,w=>Q e a w
theorem CP{F:Fence}{n:Nat}{c:Code}{a:Act}{w:World}(h:c.wpIn F n P (AI Q) a w):(Code.scope c).wpIn F n P Q a w:=by
 intro b k cs hro hb hr;have h0:(lone (b.atR a (.code (.scope c)::k)) cs w).fenced P F:=fenced_calm hb hr rfl;obtain⟨e,a₁,w₁,hq,harr⟩:=h b (.inScope c::k) cs hro hb hr;cases e with
 |normal=>exact⟨.normal,a₁,w₁,hq,.head h0 jU (StepsIn.trans harr (.one (fenced_calm hb hr rfl) K5))⟩
 |exit id'=>
  have hx:exitTo id' (.inScope c::k)=exitTo id' k:=by simp[exitTo]
  exact⟨.exit id',a₁,w₁,hq,fun k' hk=>.head h0 jU (harr.1 k' (by rw[hx];exact hk)),
   fun hr' hk=>let ⟨k₁,h1,h2⟩:=harr.2 hr' (by rw[hx];exact hk);⟨k₁,h1,.head h0 jU h2⟩⟩
 |goto l=>exact hq.elim
 |ret=>exact⟨_,a₁,w₁,hq,.of_steps (.one h0 jU) harr⟩
 |panic ch=>exact⟨_,a₁,w₁,hq,.of_steps (.one h0 jU) harr⟩
 |outgrown=>exact⟨_,a₁,w₁,hq,.of_steps (.one h0 jU) harr⟩
theorem MY{c:Code}(h:WC P X (AI Q) c σ μ Ds):WC P X Q (.scope c) σ μ Ds:=fun a w hh=>CP (h a w hh)
theorem sS(h:∀a w,Hl X σ μ Ds a w→Q .normal a w):∀a w,Hl X σ μ Ds a w→AI Q .normal a w:=h
theorem xC(h:∀a w,Hl X σ μ Ds a w→Q .ret a w):∀a w,Hl X σ μ Ds a w→AI Q .ret a w:=h
theorem aF(μ':aC)(h:μ=μ')(k:WL P X bad all K Q os σ μ' Ds):WL P X bad all K Q os σ μ Ds:=h▸k
theorem PY{c:Code}(μ':aC)(h:μ=μ')(k:WC P X Q c σ μ' Ds):WC P X Q c σ μ Ds:=h▸k
theorem Sl.cell1{α:Type}{R:Rd α}{D:aA}{sz:Nat}{v:Value}{xs:List α}(h:Sl D R sz v xs):∀u∈[v],Fs.cell1 u=true:=by
 obtain⟨a,cap,rfl,_⟩:=h;simp[Fs.cell1]
end Go.Fs
namespace Go.Fs
open Go.Proofs
namespace Tf
theorem follows:Tryz.prog.follows .mixedOrders=true:=by kernel_rfl
theorem _root_.Go.Fs.U3:type_of% Tryz.underlying3:=Tryz.underlying3
theorem _root_.Go.Fs.U4:type_of% Tryz.underlying4:=Tryz.underlying4
theorem _root_.Go.Fs.U5:type_of% Tryz.underlying5:=Tryz.underlying5
theorem _root_.Go.Fs.U9:type_of% Tryz.underlying9:=Tryz.underlying9
theorem _root_.Go.Fs.U20:type_of% Tryz.underlying20:=Tryz.underlying20
theorem _root_.Go.Fs.U22:type_of% Tryz.underlying22:=Tryz.underlying22
theorem _root_.Go.Fs.U25:type_of% Tryz.underlying25:=Tryz.underlying25
theorem _root_.Go.Fs.U26:type_of% Tryz.underlying26:=Tryz.underlying26
theorem _root_.Go.Fs.U29:type_of% Tryz.underlying29:=Tryz.underlying29
theorem _root_.Go.Fs.U30:type_of% Tryz.underlying30:=Tryz.underlying30
theorem _root_.Go.Fs.U33:type_of% Tryz.underlying33:=Tryz.underlying33
theorem _root_.Go.Fs.U34:type_of% Tryz.underlying34:=Tryz.underlying34
theorem _root_.Go.Fs.U37:type_of% Tryz.underlying37:=Tryz.underlying37
theorem _root_.Go.Fs.U38:type_of% Tryz.underlying38:=Tryz.underlying38
theorem _root_.Go.Fs.U43:type_of% Tryz.underlying43:=Tryz.underlying43
theorem _root_.Go.Fs.U51:type_of% Tryz.underlying51:=Tryz.underlying51
theorem _root_.Go.Fs.U99:type_of% Tryz.underlying99:=Tryz.underlying99
theorem _root_.Go.Fs.U101:type_of% Tryz.underlying101:=Tryz.underlying101
theorem _root_.Go.Fs.U113:type_of% Tryz.underlying113:=Tryz.underlying113
theorem _root_.Go.Fs.U117:type_of% Tryz.underlying117:=Tryz.underlying117
theorem _root_.Go.Fs.U136:type_of% Tryz.underlying136:=Tryz.underlying136
theorem _root_.Go.Fs.U174:type_of% Tryz.underlying174:=Tryz.underlying174
theorem _root_.Go.Fs.U179:type_of% Tryz.underlying179:=Tryz.underlying179
theorem _root_.Go.Fs.U186:type_of% Tryz.underlying186:=Tryz.underlying186
theorem _root_.Go.Fs.U205:type_of% Tryz.underlying205:=Tryz.underlying205
theorem _root_.Go.Fs.U210:type_of% Tryz.underlying210:=Tryz.underlying210
theorem _root_.Go.Fs.U240:type_of% Tryz.underlying240:=Tryz.underlying240
theorem _root_.Go.Fs.U246:type_of% Tryz.underlying246:=Tryz.underlying246
theorem _root_.Go.Fs.U255:type_of% Tryz.underlying255:=Tryz.underlying255
theorem _root_.Go.Fs.U257:type_of% Tryz.underlying257:=Tryz.underlying257
theorem _root_.Go.Fs.U263:type_of% Tryz.underlying263:=Tryz.underlying263
theorem _root_.Go.Fs.U275:type_of% Tryz.underlying275:=Tryz.underlying275
theorem _root_.Go.Fs.U276:type_of% Tryz.underlying276:=Tryz.underlying276
theorem _root_.Go.Fs.U282:type_of% Tryz.underlying282:=Tryz.underlying282
theorem _root_.Go.Fs.U295:type_of% Tryz.underlying295:=Tryz.underlying295
theorem _root_.Go.Fs.U303:type_of% Tryz.underlying303:=Tryz.underlying303
theorem _root_.Go.Fs.U309:type_of% Tryz.underlying309:=Tryz.underlying309
theorem _root_.Go.Fs.U315:type_of% Tryz.underlying315:=Tryz.underlying315
theorem _root_.Go.Fs.U317:type_of% Tryz.underlying317:=Tryz.underlying317
theorem _root_.Go.Fs.U327:type_of% Tryz.underlying327:=Tryz.underlying327
theorem a3:TA Tryz.prog 3 false:=TA.of Tryz.underlying3 _ rfl
theorem s3:TS Tryz.prog 3 1:=TS.of Yg
theorem z3:TZ Tryz.prog 3 (.int .i64 0):=TZ.of Yg
theorem i3:(Tryz.prog.info? 3).map (fun i=>Nat.ble 1 i.bytes&&Nat.ble i.bytes 4096)=some true:=by kernel_rfl
theorem a4:TA Tryz.prog 4 false:=TA.of Tryz.underlying4 _ rfl
theorem s4:TS Tryz.prog 4 1:=TS.of Yg
theorem z4:TZ Tryz.prog 4 (.bool false):=TZ.of Yg
theorem a5:TA Tryz.prog 5 false:=TA.of Tryz.underlying5 _ rfl
theorem s5:TS Tryz.prog 5 1:=TS.of Yg
theorem z5:TZ Tryz.prog 5 (.int .u8 0):=TZ.of Yg
theorem i5:(Tryz.prog.info? 5).map (fun i=>Nat.ble 1 i.bytes&&Nat.ble i.bytes 4096)=some true:=by kernel_rfl
theorem a9:TA Tryz.prog 9 false:=TA.of Tryz.underlying9 _ rfl
theorem s9:TS Tryz.prog 9 1:=TS.of Yg
theorem i9:(Tryz.prog.info? 9).map (fun i=>Nat.ble 1 i.bytes&&Nat.ble i.bytes 4096)=some true:=by kernel_rfl
theorem a25:TA Tryz.prog 25 false:=TA.of Tryz.underlying25 _ rfl
theorem s25:TS Tryz.prog 25 1:=TS.of Yg
theorem z25:TZ Tryz.prog 25 (.slice none 0 0):=TZ.of Yg
theorem a26:TA Tryz.prog 26 false:=TA.of Tryz.underlying26 _ rfl
theorem s26:TS Tryz.prog 26 1:=TS.of Yg
theorem a28:TA Tryz.prog 28 true:=TA.of Tryz.underlying28 _ rfl
theorem s28:TS Tryz.prog 28 4:=TS.of Yg
theorem f28_0:TF Tryz.prog 28 0 0:=TF.of Tryz.underlying28 rfl s25 rfl
theorem f28_1:TF Tryz.prog 28 1 1:=TF.of Tryz.underlying28 rfl s26 rfl
theorem f28_2:TF Tryz.prog 28 2 2:=TF.of Tryz.underlying28 rfl s3 rfl
theorem f28_3:TF Tryz.prog 28 3 3:=TF.of Tryz.underlying28 rfl s3 rfl
theorem a29:TA Tryz.prog 29 false:=TA.of Tryz.underlying29 _ rfl
theorem s29:TS Tryz.prog 29 1:=TS.of Yg
theorem a30:TA Tryz.prog 30 false:=TA.of Tryz.underlying30 _ rfl
theorem s30:TS Tryz.prog 30 1:=TS.of Yg
theorem a32:TA Tryz.prog 32 true:=TA.of Tryz.underlying32 _ rfl
theorem s32:TS Tryz.prog 32 5:=TS.of Yg
theorem f32_0:TF Tryz.prog 32 0 0:=TF.of Tryz.underlying32 rfl s3 rfl
theorem f32_1:TF Tryz.prog 32 1 1:=TF.of Tryz.underlying32 rfl s29 rfl
theorem f32_2:TF Tryz.prog 32 2 2:=TF.of Tryz.underlying32 rfl s3 rfl
theorem f32_3:TF Tryz.prog 32 3 3:=TF.of Tryz.underlying32 rfl s25 rfl
theorem f32_4:TF Tryz.prog 32 4 4:=TF.of Tryz.underlying32 rfl s30 rfl
theorem a33:TA Tryz.prog 33 false:=TA.of Tryz.underlying33 _ rfl
theorem s33:TS Tryz.prog 33 1:=TS.of Yg
theorem z33:TZ Tryz.prog 33 (.slice none 0 0):=TZ.of Yg
theorem a34:TA Tryz.prog 34 false:=TA.of Tryz.underlying34 _ rfl
theorem s34:TS Tryz.prog 34 1:=TS.of Yg
theorem a36:TA Tryz.prog 36 true:=TA.of Tryz.underlying36 _ rfl
theorem s36:TS Tryz.prog 36 5:=TS.of Yg
theorem z36:TZ Tryz.prog 36 (.agg #[.int .i64 0,.int .i64 0,.int .i64 0,.slice none 0 0,.slice none 0 0]):=TZ.of Yg
theorem f36_0:TF Tryz.prog 36 0 0:=TF.of Tryz.underlying36 rfl s3 rfl
theorem f36_1:TF Tryz.prog 36 1 1:=TF.of Tryz.underlying36 rfl s3 rfl
theorem f36_2:TF Tryz.prog 36 2 2:=TF.of Tryz.underlying36 rfl s3 rfl
theorem f36_3:TF Tryz.prog 36 3 3:=TF.of Tryz.underlying36 rfl s33 rfl
theorem f36_4:TF Tryz.prog 36 4 4:=TF.of Tryz.underlying36 rfl s34 rfl
theorem a37:TA Tryz.prog 37 false:=TA.of Tryz.underlying37 _ rfl
theorem s37:TS Tryz.prog 37 1:=TS.of Yg
theorem a38:TA Tryz.prog 38 false:=TA.of Tryz.underlying38 _ rfl
theorem s38:TS Tryz.prog 38 1:=TS.of Yg
theorem a40:TA Tryz.prog 40 true:=TA.of Tryz.underlying40 _ rfl
theorem s40:TS Tryz.prog 40 3:=TS.of Yg
theorem f40_0:TF Tryz.prog 40 0 0:=TF.of Tryz.underlying40 rfl s37 rfl
theorem f40_1:TF Tryz.prog 40 1 1:=TF.of Tryz.underlying40 rfl s3 rfl
theorem f40_2:TF Tryz.prog 40 2 2:=TF.of Tryz.underlying40 rfl s38 rfl
theorem a42:TA Tryz.prog 42 true:=TA.of Tryz.underlying42 _ rfl
theorem s42:TS Tryz.prog 42 17:=TS.of Yg
theorem z42:TZ Tryz.prog 42 (.agg #[.slice none 0 0,.slice none 0 0,.int .i64 0,.int .i64 0,.int .i64 0,.slice none 0 0,.int .i64 0,.slice none 0 0,.slice none 0 0,.int .i64 0,.int .i64 0,.int .i64 0,.slice none 0 0,.slice none 0 0,.slice none 0 0,.int .i64 0,.slice none 0 0]):=TZ.of Yg
theorem p42:TP Tryz.prog 42 [(0,4),(4,5),(9,5),(14,3)]:=TP.of Tryz.underlying42 Yg Yg
theorem f42_0:TF Tryz.prog 42 0 0:=TF.of Tryz.underlying42 rfl s28 rfl
theorem f42_1:TF Tryz.prog 42 1 4:=TF.of Tryz.underlying42 rfl s32 rfl
theorem f42_2:TF Tryz.prog 42 2 9:=TF.of Tryz.underlying42 rfl s36 rfl
theorem f42_3:TF Tryz.prog 42 3 14:=TF.of Tryz.underlying42 rfl s40 rfl
theorem a44:TA Tryz.prog 44 false:=TA.of Tryz.underlying44 _ rfl
theorem s44:TS Tryz.prog 44 1:=TS.of Yg
theorem z44:TZ Tryz.prog 44 (.int .i64 0):=TZ.of Yg
theorem i44:(Tryz.prog.info? 44).map (fun i=>Nat.ble 1 i.bytes&&Nat.ble i.bytes 4096)=some true:=by kernel_rfl
theorem a51:TA Tryz.prog 51 false:=TA.of Tryz.underlying51 _ rfl
theorem s51:TS Tryz.prog 51 1:=TS.of Yg
theorem a65:TA Tryz.prog 65 true:=TA.of Tryz.underlying65 _ rfl
theorem s65:TS Tryz.prog 65 2:=TS.of Yg
theorem z65:TZ Tryz.prog 65 (.agg #[.int .i64 0,.int .i64 0]):=TZ.of Yg
theorem p65:TP Tryz.prog 65 [(0,1),(1,1)]:=TP.of Tryz.underlying65 Yg Yg
theorem f65_0:TF Tryz.prog 65 0 0:=TF.of Tryz.underlying65 rfl s3 rfl
theorem f65_1:TF Tryz.prog 65 1 1:=TF.of Tryz.underlying65 rfl s3 rfl
theorem a88:TA Tryz.prog 88 true:=TA.of Tryz.underlying88 _ rfl
theorem s88:TS Tryz.prog 88 2:=TS.of Yg
theorem z88:TZ Tryz.prog 88 (.agg #[.int .i64 0,.int .i64 0]):=TZ.of Yg
theorem p88:TP Tryz.prog 88 [(0,1),(1,1)]:=TP.of Tryz.underlying88 Yg Yg
theorem f88_0:TF Tryz.prog 88 0 0:=TF.of Tryz.underlying88 rfl s3 rfl
theorem f88_1:TF Tryz.prog 88 1 1:=TF.of Tryz.underlying88 rfl s3 rfl
theorem a99:TA Tryz.prog 99 true:=TA.of Tryz.underlying99 _ rfl
theorem s99:TS Tryz.prog 99 2:=TS.of Yg
theorem z99:TZ Tryz.prog 99 (.agg #[.int .i64 0,.int .i64 0]):=TZ.of Yg
theorem i99:(Tryz.prog.info? 99).map (fun i=>Nat.ble 1 i.bytes&&Nat.ble i.bytes 4096)=some true:=by kernel_rfl
theorem p99:TP Tryz.prog 99 [(0,1),(1,1)]:=TP.of Tryz.underlying99 Yg Yg
theorem f99_0:TF Tryz.prog 99 0 0:=TF.of Tryz.underlying99 rfl s3 rfl
theorem f99_1:TF Tryz.prog 99 1 1:=TF.of Tryz.underlying99 rfl s3 rfl
theorem a101:TA Tryz.prog 101 true:=TA.of Tryz.underlying101 _ rfl
theorem s101:TS Tryz.prog 101 3:=TS.of Yg
theorem z101:TZ Tryz.prog 101 (.agg #[.int .i64 0,.int .i64 0,.int .i64 0]):=TZ.of Yg
theorem i101:(Tryz.prog.info? 101).map (fun i=>Nat.ble 1 i.bytes&&Nat.ble i.bytes 4096)=some true:=by kernel_rfl
theorem a103:TA Tryz.prog 103 true:=TA.of Tryz.underlying103 _ rfl
theorem s103:TS Tryz.prog 103 4:=TS.of Yg
theorem z103:TZ Tryz.prog 103 (.agg #[.int .i64 0,.int .i64 0,.int .i64 0,.int .i64 0]):=TZ.of Yg
theorem i103:(Tryz.prog.info? 103).map (fun i=>Nat.ble 1 i.bytes&&Nat.ble i.bytes 4096)=some true:=by kernel_rfl
theorem p103:TP Tryz.prog 103 [(0,1),(1,3)]:=TP.of Tryz.underlying103 Yg Yg
theorem f103_0:TF Tryz.prog 103 0 0:=TF.of Tryz.underlying103 rfl s3 rfl
theorem f103_1:TF Tryz.prog 103 1 1:=TF.of Tryz.underlying103 rfl s101 rfl
theorem a113:TA Tryz.prog 113 false:=TA.of Tryz.underlying113 _ rfl
theorem s113:TS Tryz.prog 113 1:=TS.of Yg
theorem s115:TS Tryz.prog 115 2:=TS.of Yg
theorem z115:TZ Tryz.prog 115 (.agg #[.pointer none,.slice none 0 0]):=TZ.of Yg
theorem f115_0:TF Tryz.prog 115 0 0:=TF.of Tryz.underlying115 rfl s113 rfl
theorem f115_1:TF Tryz.prog 115 1 1:=TF.of Tryz.underlying115 rfl s51 rfl
theorem a133:TA Tryz.prog 133 true:=TA.of Tryz.underlying133 _ rfl
theorem s133:TS Tryz.prog 133 2:=TS.of Yg
theorem z133:TZ Tryz.prog 133 (.agg #[.int .i64 0,.int .i64 0]):=TZ.of Yg
theorem i133:(Tryz.prog.info? 133).map (fun i=>Nat.ble 1 i.bytes&&Nat.ble i.bytes 4096)=some true:=by kernel_rfl
theorem p133:TP Tryz.prog 133 [(0,1),(1,1)]:=TP.of Tryz.underlying133 Yg Yg
theorem f133_0:TF Tryz.prog 133 0 0:=TF.of Tryz.underlying133 rfl s3 rfl
theorem f133_1:TF Tryz.prog 133 1 1:=TF.of Tryz.underlying133 rfl s3 rfl
theorem a136:TA Tryz.prog 136 false:=TA.of Tryz.underlying136 _ rfl
theorem s136:TS Tryz.prog 136 1:=TS.of Yg
theorem z136:TZ Tryz.prog 136 (.slice none 0 0):=TZ.of Yg
theorem a150:TA Tryz.prog 150 false:=TA.of Tryz.underlying150 _ rfl
theorem a156:TA Tryz.prog 156 true:=TA.of Tryz.underlying156 _ rfl
theorem s156:TS Tryz.prog 156 3:=TS.of Yg
theorem z156:TZ Tryz.prog 156 (.agg #[.bool false,.int .i64 0,.int .i64 0]):=TZ.of Yg
theorem i156:(Tryz.prog.info? 156).map (fun i=>Nat.ble 1 i.bytes&&Nat.ble i.bytes 4096)=some true:=by kernel_rfl
theorem p156:TP Tryz.prog 156 [(0,1),(1,1),(2,1)]:=TP.of Tryz.underlying156 Yg Yg
theorem f156_0:TF Tryz.prog 156 0 0:=TF.of Tryz.underlying156 rfl s4 rfl
theorem f156_1:TF Tryz.prog 156 1 1:=TF.of Tryz.underlying156 rfl s3 rfl
theorem f156_2:TF Tryz.prog 156 2 2:=TF.of Tryz.underlying156 rfl s3 rfl
theorem a158:TA Tryz.prog 158 true:=TA.of Tryz.underlying158 _ rfl
theorem s158:TS Tryz.prog 158 4:=TS.of Yg
theorem z158:TZ Tryz.prog 158 (.agg #[.int .i64 0,.int .i64 0,.int .i64 0,.int .i64 0]):=TZ.of Yg
theorem i158:(Tryz.prog.info? 158).map (fun i=>Nat.ble 1 i.bytes&&Nat.ble i.bytes 4096)=some true:=by kernel_rfl
theorem p158:TP Tryz.prog 158 [(0,1),(1,1),(2,2)]:=TP.of Tryz.underlying158 Yg Yg
theorem f158_0:TF Tryz.prog 158 0 0:=TF.of Tryz.underlying158 rfl s3 rfl
theorem f158_1:TF Tryz.prog 158 1 1:=TF.of Tryz.underlying158 rfl s3 rfl
theorem f158_2:TF Tryz.prog 158 2 2:=TF.of Tryz.underlying158 rfl s99 rfl
theorem a160:TA Tryz.prog 160 true:=TA.of Tryz.underlying160 _ rfl
theorem s160:TS Tryz.prog 160 3:=TS.of Yg
theorem z160:TZ Tryz.prog 160 (.agg #[.int .i64 0,.int .i64 0,.int .i64 0]):=TZ.of Yg
theorem i160:(Tryz.prog.info? 160).map (fun i=>Nat.ble 1 i.bytes&&Nat.ble i.bytes 4096)=some true:=by kernel_rfl
theorem p160:TP Tryz.prog 160 [(0,1),(1,1),(2,1)]:=TP.of Tryz.underlying160 Yg Yg
theorem f160_0:TF Tryz.prog 160 0 0:=TF.of Tryz.underlying160 rfl s3 rfl
theorem f160_1:TF Tryz.prog 160 1 1:=TF.of Tryz.underlying160 rfl s3 rfl
theorem f160_2:TF Tryz.prog 160 2 2:=TF.of Tryz.underlying160 rfl s3 rfl
theorem a162:TA Tryz.prog 162 true:=TA.of Tryz.underlying162 _ rfl
theorem s162:TS Tryz.prog 162 3:=TS.of Yg
theorem z162:TZ Tryz.prog 162 (.agg #[.int .i64 0,.int .i64 0,.int .i64 0]):=TZ.of Yg
theorem i162:(Tryz.prog.info? 162).map (fun i=>Nat.ble 1 i.bytes&&Nat.ble i.bytes 4096)=some true:=by kernel_rfl
theorem p162:TP Tryz.prog 162 [(0,1),(1,2)]:=TP.of Tryz.underlying162 Yg Yg
theorem f162_0:TF Tryz.prog 162 0 0:=TF.of Tryz.underlying162 rfl s3 rfl
theorem f162_1:TF Tryz.prog 162 1 1:=TF.of Tryz.underlying162 rfl s65 rfl
theorem a169:TA Tryz.prog 169 false:=TA.of Tryz.underlying169 _ rfl
theorem s169:TS Tryz.prog 169 1:=TS.of Yg
theorem z169:TZ Tryz.prog 169 (.pointer none):=TZ.of Yg
theorem a174:TA Tryz.prog 174 false:=TA.of Tryz.underlying174 _ rfl
theorem s174:TS Tryz.prog 174 1:=TS.of Yg
theorem z176:TZ Tryz.prog 176 (.agg #[.slice none 0 0,.slice none 0 0,.int .i64 0,.int .i64 0,.slice none 0 0]):=TZ.of Yg
theorem p176:TP Tryz.prog 176 [(0,4),(4,1)]:=TP.of Tryz.underlying176 Yg Yg
theorem f176_1:TF Tryz.prog 176 1 4:=TF.of Tryz.underlying176 rfl s174 rfl
theorem a179:TA Tryz.prog 179 true:=TA.of Tryz.underlying179 _ rfl
theorem s179:TS Tryz.prog 179 9:=TS.of Yg
theorem z179:TZ Tryz.prog 179 (.agg #[.int .i64 0,.int .i64 0,.int .i64 0,.int .i64 0,.int .i64 0,.int .i64 0,.int .i64 0,.int .i64 0,.int .i64 0]):=TZ.of Yg
theorem i179:(Tryz.prog.info? 179).map (fun i=>Nat.ble 1 i.bytes&&Nat.ble i.bytes 4096)=some true:=by kernel_rfl
theorem a186:TA Tryz.prog 186 true:=TA.of Tryz.underlying186 _ rfl
theorem s186:TS Tryz.prog 186 10:=TS.of Yg
theorem z186:TZ Tryz.prog 186 (.agg #[.int .i64 0,.int .i64 0,.int .i64 0,.int .i64 0,.int .i64 0,.int .i64 0,.int .i64 0,.int .i64 0,.int .i64 0,.int .i64 0]):=TZ.of Yg
theorem a188:TA Tryz.prog 188 false:=TA.of Tryz.underlying188 _ rfl
theorem s188:TS Tryz.prog 188 1:=TS.of Yg
theorem z188:TZ Tryz.prog 188 (.pointer none):=TZ.of Yg
theorem a191:TA Tryz.prog 191 false:=TA.of Tryz.underlying191 _ rfl
theorem s191:TS Tryz.prog 191 1:=TS.of Yg
theorem z191:TZ Tryz.prog 191 (.nilFunc):=TZ.of Yg
theorem a192:TA Tryz.prog 192 false:=TA.of Tryz.underlying192 _ rfl
theorem s192:TS Tryz.prog 192 1:=TS.of Yg
theorem z195:TZ Tryz.prog 195 (.agg #[.nilFunc]):=TZ.of Yg
theorem p195:TP Tryz.prog 195 [(0,1)]:=TP.of Tryz.underlying195 Yg Yg
theorem f195_0:TF Tryz.prog 195 0 0:=TF.of Tryz.underlying195 rfl s192 rfl
theorem a198:TA Tryz.prog 198 false:=TA.of Tryz.underlying198 _ rfl
theorem s198:TS Tryz.prog 198 1:=TS.of Yg
theorem z198:TZ Tryz.prog 198 (.nilFunc):=TZ.of Yg
theorem a205:TA Tryz.prog 205 true:=TA.of Tryz.underlying205 _ rfl
theorem s205:TS Tryz.prog 205 4:=TS.of Yg
theorem z205:TZ Tryz.prog 205 (.agg #[.int .i64 0,.int .i64 0,.int .i64 0,.int .i64 0]):=TZ.of Yg
theorem a207:TA Tryz.prog 207 true:=TA.of Tryz.underlying207 _ rfl
theorem s207:TS Tryz.prog 207 10:=TS.of Yg
theorem z207:TZ Tryz.prog 207 (.agg #[.int .i64 0,.int .i64 0,.int .i64 0,.int .i64 0,.int .i64 0,.int .i64 0,.int .i64 0,.int .i64 0,.int .i64 0,.int .i64 0]):=TZ.of Yg
theorem i207:(Tryz.prog.info? 207).map (fun i=>Nat.ble 1 i.bytes&&Nat.ble i.bytes 4096)=some true:=by kernel_rfl
theorem p207:TP Tryz.prog 207 [(0,4),(4,4),(8,1),(9,1)]:=TP.of Tryz.underlying207 Yg Yg
theorem f207_0:TF Tryz.prog 207 0 0:=TF.of Tryz.underlying207 rfl s205 rfl
theorem f207_1:TF Tryz.prog 207 1 4:=TF.of Tryz.underlying207 rfl s205 rfl
theorem f207_2:TF Tryz.prog 207 2 8:=TF.of Tryz.underlying207 rfl s3 rfl
theorem f207_3:TF Tryz.prog 207 3 9:=TF.of Tryz.underlying207 rfl s3 rfl
theorem a208:TA Tryz.prog 208 false:=TA.of Tryz.underlying208 _ rfl
theorem a210:TA Tryz.prog 210 false:=TA.of Tryz.underlying210 _ rfl
theorem s210:TS Tryz.prog 210 1:=TS.of Yg
theorem z210:TZ Tryz.prog 210 (.slice none 0 0):=TZ.of Yg
theorem a212:TA Tryz.prog 212 false:=TA.of Tryz.underlying212 _ rfl
theorem a215:TA Tryz.prog 215 false:=TA.of Tryz.underlying215 _ rfl
theorem s215:TS Tryz.prog 215 1:=TS.of Yg
theorem s218:TS Tryz.prog 218 1:=TS.of Yg
theorem z218:TZ Tryz.prog 218 (.agg #[.nilFunc]):=TZ.of Yg
theorem p218:TP Tryz.prog 218 [(0,1)]:=TP.of Tryz.underlying218 Yg Yg
theorem f218_0:TF Tryz.prog 218 0 0:=TF.of Tryz.underlying218 rfl s215 rfl
theorem a219:TA Tryz.prog 219 false:=TA.of Tryz.underlying219 _ rfl
theorem s219:TS Tryz.prog 219 1:=TS.of Yg
theorem z219:TZ Tryz.prog 219 (.nilFunc):=TZ.of Yg
theorem a223:TA Tryz.prog 223 true:=TA.of Tryz.underlying223 _ rfl
theorem s223:TS Tryz.prog 223 2:=TS.of Yg
theorem z223:TZ Tryz.prog 223 (.agg #[.int .i64 0,.int .i64 0]):=TZ.of Yg
theorem i223:(Tryz.prog.info? 223).map (fun i=>Nat.ble 1 i.bytes&&Nat.ble i.bytes 4096)=some true:=by kernel_rfl
theorem p223:TP Tryz.prog 223 [(0,1),(1,1)]:=TP.of Tryz.underlying223 Yg Yg
theorem f223_0:TF Tryz.prog 223 0 0:=TF.of Tryz.underlying223 rfl s3 rfl
theorem f223_1:TF Tryz.prog 223 1 1:=TF.of Tryz.underlying223 rfl s3 rfl
theorem s240:TS Tryz.prog 240 1:=TS.of Yg
theorem z240:TZ Tryz.prog 240 (.agg #[.int .i64 0]):=TZ.of Yg
theorem p240:TP Tryz.prog 240 [(0,1)]:=TP.of Tryz.underlying240 Yg Yg
theorem f240_0:TF Tryz.prog 240 0 0:=TF.of Tryz.underlying240 rfl s44 rfl
theorem a242:TA Tryz.prog 242 false:=TA.of Tryz.underlying242 _ rfl
theorem s242:TS Tryz.prog 242 1:=TS.of Yg
theorem s244:TS Tryz.prog 244 2:=TS.of Yg
theorem z244:TZ Tryz.prog 244 (.agg #[.int .i64 0,.nilFunc]):=TZ.of Yg
theorem p244:TP Tryz.prog 244 [(0,1),(1,1)]:=TP.of Tryz.underlying244 Yg Yg
theorem f244_0:TF Tryz.prog 244 0 0:=TF.of Tryz.underlying244 rfl s3 rfl
theorem f244_1:TF Tryz.prog 244 1 1:=TF.of Tryz.underlying244 rfl s242 rfl
theorem z253:TZ Tryz.prog 253 (.agg #[.slice none 0 0,.slice none 0 0,.int .i64 0,.int .i64 0,.int .i64 0,.slice none 0 0,.int .i64 0,.slice none 0 0,.slice none 0 0,.int .i64 0,.int .i64 0,.int .i64 0,.slice none 0 0,.slice none 0 0,.slice none 0 0,.int .i64 0,.slice none 0 0]):=TZ.of Yg
theorem p253:TP Tryz.prog 253 [(0,17)]:=TP.of Tryz.underlying253 Yg Yg
theorem f253_0:TF Tryz.prog 253 0 0:=TF.of Tryz.underlying253 rfl s42 rfl
theorem s255:TS Tryz.prog 255 3:=TS.of Yg
theorem z255:TZ Tryz.prog 255 (.agg #[.int .u8 0,.int .u8 0,.int .u8 0]):=TZ.of Yg
theorem a257:TA Tryz.prog 257 true:=TA.of Tryz.underlying257 _ rfl
theorem s257:TS Tryz.prog 257 4:=TS.of Yg
theorem z257:TZ Tryz.prog 257 (.agg #[.int .u8 0,.int .u8 0,.int .u8 0,.int .u8 0]):=TZ.of Yg
theorem a259:TA Tryz.prog 259 true:=TA.of Tryz.underlying259 _ rfl
theorem s259:TS Tryz.prog 259 7:=TS.of Yg
theorem z259:TZ Tryz.prog 259 (.agg #[.int .u8 0,.int .u8 0,.int .u8 0,.int .u8 0,.int .u8 0,.int .u8 0,.int .u8 0]):=TZ.of Yg
theorem p259:TP Tryz.prog 259 [(0,3),(3,4)]:=TP.of Tryz.underlying259 Yg Yg
theorem f259_0:TF Tryz.prog 259 0 0:=TF.of Tryz.underlying259 rfl s255 rfl
theorem f259_1:TF Tryz.prog 259 1 3:=TF.of Tryz.underlying259 rfl s257 rfl
theorem a268:TA Tryz.prog 268 false:=TA.of Tryz.underlying268 _ rfl
theorem a271:TA Tryz.prog 271 false:=TA.of Tryz.underlying271 _ rfl
theorem a275:TA Tryz.prog 275 false:=TA.of Tryz.underlying275 _ rfl
theorem s275:TS Tryz.prog 275 1:=TS.of Yg
theorem a276:TA Tryz.prog 276 false:=TA.of Tryz.underlying276 _ rfl
theorem s276:TS Tryz.prog 276 1:=TS.of Yg
theorem z278:TZ Tryz.prog 278 (.agg #[.int .i64 0,.slice none 0 0,.int .i64 0,.slice none 0 0,.slice none 0 0,.slice none 0 0,.map none]):=TZ.of Yg
theorem p278:TP Tryz.prog 278 [(0,5),(5,1),(6,1)]:=TP.of Tryz.underlying278 Yg Yg
theorem f278_0:TF Tryz.prog 278 0 0:=TF.of Tryz.underlying278 rfl s32 rfl
theorem f278_1:TF Tryz.prog 278 1 5:=TF.of Tryz.underlying278 rfl s276 rfl
theorem f278_2:TF Tryz.prog 278 2 6:=TF.of Tryz.underlying278 rfl s275 rfl
theorem a282:TA Tryz.prog 282 true:=TA.of Tryz.underlying282 _ rfl
theorem s282:TS Tryz.prog 282 10:=TS.of Yg
theorem z282:TZ Tryz.prog 282 (.agg #[.int .i64 0,.int .i64 0,.int .i64 0,.int .i64 0,.int .i64 0,.int .i64 0,.int .i64 0,.int .i64 0,.int .i64 0,.int .i64 0]):=TZ.of Yg
theorem i282:(Tryz.prog.info? 282).map (fun i=>Nat.ble 1 i.bytes&&Nat.ble i.bytes 4096)=some true:=by kernel_rfl
theorem s285:TS Tryz.prog 285 2:=TS.of Yg
theorem z285:TZ Tryz.prog 285 (.agg #[.int .i64 0,.int .i64 0]):=TZ.of Yg
theorem p285:TP Tryz.prog 285 [(0,1),(1,1)]:=TP.of Tryz.underlying285 Yg Yg
theorem f285_0:TF Tryz.prog 285 0 0:=TF.of Tryz.underlying285 rfl s3 rfl
theorem f285_1:TF Tryz.prog 285 1 1:=TF.of Tryz.underlying285 rfl s3 rfl
theorem a288:TA Tryz.prog 288 false:=TA.of Tryz.underlying288 _ rfl
theorem a289:TA Tryz.prog 289 false:=TA.of Tryz.underlying289 _ rfl
theorem a295:TA Tryz.prog 295 false:=TA.of Tryz.underlying295 _ rfl
theorem s295:TS Tryz.prog 295 1:=TS.of Yg
theorem z297:TZ Tryz.prog 297 (.agg #[.int .i64 0,.int .i64 0,.int .i64 0,.slice none 0 0,.slice none 0 0,.map none]):=TZ.of Yg
theorem p297:TP Tryz.prog 297 [(0,5),(5,1)]:=TP.of Tryz.underlying297 Yg Yg
theorem f297_0:TF Tryz.prog 297 0 0:=TF.of Tryz.underlying297 rfl s36 rfl
theorem f297_1:TF Tryz.prog 297 1 5:=TF.of Tryz.underlying297 rfl s295 rfl
theorem a303:TA Tryz.prog 303 false:=TA.of Tryz.underlying303 _ rfl
theorem s303:TS Tryz.prog 303 1:=TS.of Yg
theorem z303:TZ Tryz.prog 303 (.slice none 0 0):=TZ.of Yg
theorem a305:TA Tryz.prog 305 false:=TA.of Tryz.underlying305 _ rfl
theorem a307:TA Tryz.prog 307 false:=TA.of Tryz.underlying307 _ rfl
theorem a309:TA Tryz.prog 309 false:=TA.of Tryz.underlying309 _ rfl
theorem s309:TS Tryz.prog 309 1:=TS.of Yg
theorem z311:TZ Tryz.prog 311 (.agg #[.slice none 0 0,.int .i64 0,.slice none 0 0,.map none]):=TZ.of Yg
theorem p311:TP Tryz.prog 311 [(0,3),(3,1)]:=TP.of Tryz.underlying311 Yg Yg
theorem f311_0:TF Tryz.prog 311 0 0:=TF.of Tryz.underlying311 rfl s40 rfl
theorem f311_1:TF Tryz.prog 311 1 3:=TF.of Tryz.underlying311 rfl s309 rfl
theorem a315:TA Tryz.prog 315 false:=TA.of Tryz.underlying315 _ rfl
theorem s315:TS Tryz.prog 315 1:=TS.of Yg
theorem z315:TZ Tryz.prog 315 (.slice none 0 0):=TZ.of Yg
theorem a317:TA Tryz.prog 317 true:=TA.of Tryz.underlying317 _ rfl
theorem s317:TS Tryz.prog 317 7:=TS.of Yg
theorem a319:TA Tryz.prog 319 true:=TA.of Tryz.underlying319 _ rfl
theorem s319:TS Tryz.prog 319 9:=TS.of Yg
theorem z319:TZ Tryz.prog 319 (.agg #[.int .i64 0,.int .i64 0,.int .i64 0,.int .i64 0,.int .i64 0,.int .i64 0,.int .i64 0,.int .i64 0,.int .i64 0]):=TZ.of Yg
theorem i319:(Tryz.prog.info? 319).map (fun i=>Nat.ble 1 i.bytes&&Nat.ble i.bytes 4096)=some true:=by kernel_rfl
theorem f319_0:TF Tryz.prog 319 0 0:=TF.of Tryz.underlying319 rfl s3 rfl
theorem f319_1:TF Tryz.prog 319 1 1:=TF.of Tryz.underlying319 rfl s3 rfl
theorem f319_2:TF Tryz.prog 319 2 2:=TF.of Tryz.underlying319 rfl s317 rfl
theorem a347:TA Tryz.prog 347 false:=TA.of Tryz.underlying347 _ rfl
theorem a349:TA Tryz.prog 349 false:=TA.of Tryz.underlying349 _ rfl
theorem a352:TA Tryz.prog 352 false:=TA.of Tryz.underlying352 _ rfl
theorem a358:TA Tryz.prog 358 true:=TA.of Tryz.underlying358 _ rfl
theorem s358:TS Tryz.prog 358 9:=TS.of Yg
theorem z358:TZ Tryz.prog 358 (.agg #[.int .i64 0,.int .i64 0,.int .i64 0,.int .i64 0,.int .i64 0,.int .i64 0,.int .i64 0,.int .i64 0,.int .i64 0]):=TZ.of Yg
theorem p358:TP Tryz.prog 358 [(0,1),(1,4),(5,4)]:=TP.of Tryz.underlying358 Yg Yg
theorem a362:TA Tryz.prog 362 false:=TA.of Tryz.underlying362 _ rfl
theorem a363:TA Tryz.prog 363 false:=TA.of Tryz.underlying363 _ rfl
theorem a367:TA Tryz.prog 367 true:=TA.of Tryz.underlying367 _ rfl
theorem s367:TS Tryz.prog 367 8:=TS.of Yg
theorem z367:TZ Tryz.prog 367 (.agg #[.int .i64 0,.int .i64 0,.int .i64 0,.int .i64 0,.int .i64 0,.int .i64 0,.int .i64 0,.int .i64 0]):=TZ.of Yg
theorem p367:TP Tryz.prog 367 [(0,1),(1,7)]:=TP.of Tryz.underlying367 Yg Yg
theorem f367_0:TF Tryz.prog 367 0 0:=TF.of Tryz.underlying367 rfl s3 rfl
theorem f367_1:TF Tryz.prog 367 1 1:=TF.of Tryz.underlying367 rfl s317 rfl
theorem a381:TA Tryz.prog 381 false:=TA.of Tryz.underlying381 _ rfl
theorem s381:TS Tryz.prog 381 1:=TS.of Yg
theorem z384:TZ Tryz.prog 384 (.agg #[.nilFunc]):=TZ.of Yg
theorem p384:TP Tryz.prog 384 [(0,1)]:=TP.of Tryz.underlying384 Yg Yg
theorem f384_0:TF Tryz.prog 384 0 0:=TF.of Tryz.underlying384 rfl s381 rfl
end Tf
end Go.Fs
namespace Go.Fs.C1
structure sQ where
 back:Bool
 many:Int
 num:Int
 deriving DecidableEq
structure dH where
 places:List Int
 counts:List sQ
 wrong:Int
 off:Int
 deriving DecidableEq
def fP(n lo hi:Int):Bool:=decide (lo≤n)&&decide (n≤hi)
def nU(n:Int):Bool:=fP n 0 2
def mM(len:Nat)(c:sQ):Bool:=fP c.many 0 len&&fP c.num 0 9
def aU(r:dH):Int:=
 if 9<r.places.length∨6<r.counts.length then 3
 else if r.places.length=0∨fP r.wrong 0 6=false∨fP r.off 0 9=false∨r.places.all nU=false∨r.counts.all (mM r.places.length)=false then 1
 else 0
def iZ(l:List Int):Nat:=(l.filter (· ==2)).length
def MA(t p:Int):Bool:=fP t 0 1&&(p==2||t==p)
def nM(r:dH)(t:List Int):Bool:=(t.length==r.places.length)&&(t.zip r.places).all fun x=>MA x.1 x.2
def dG(l:List Int)(i k:Nat):Int:=((l.drop i).take k).sum
def K4(t:List Int)(c:sQ):Int:=if c.back then dG t (t.length-c.many.toNat) c.many.toNat else dG t 0 c.many.toNat
def hZ(t:List Int)(c:sQ):Int:=max (K4 t c-c.num) (c.num-K4 t c)
def eC(r:dH)(t:List Int):Bool:=r.counts.all fun c=>decide (hZ t c≤r.off)
def oJ(r:dH)(t:List Int):Nat:=(r.counts.filter fun c=>decide (0<hZ t c)).length
def cX:List Int→List (List Int)
 | []=>[[]]
 |p::ps=>(if p=2∨p=0 then(cX ps).map (0:: ·)else [])++(if p=2∨p=1 then(cX ps).map (1:: ·)else [])
def fits(r:dH)(t:List Int):Bool:=eC r t&&decide ((oJ r t:Int)≤r.wrong)
def truths(r:dH):List (List Int):=(cX r.places).filter (fits r)
def lA(t:List Int)(i j:Nat):Int:=dG t i (j+1-i)
def pZ:List Int→Int
 | []=>0
 |x::xs=>xs.foldl min x
def oH:List Int→Int
 | []=>0
 |x::xs=>xs.foldl max x

theorem zC{l:List Int}{i k:Nat}{x:Int}(h:l[i+k]?= some x):dG l i (k+1)=dG l i k+x:=by
 unfold dG;rw[aMN,aOW,h];simp
theorem fF{l:List Int}(hb:∀x∈l,0≤x∧x≤1)(i k:Nat):0≤dG l i k∧dG l i k≤k:=by
 induction k with
 |zero=>simp[dG]
 |succ k ih=>
  cases h:l[i+k]? with
  |none=>
   have:dG l i (k+1)=dG l i k:=by
    unfold dG;rw[aMN,aOW,h];simp
   rw[this];omega
  |some x=>rw[zC h];have:=hb x (aLW h);omega
theorem wG(l:List Int)(i k m:Nat):dG l i (k+m)=dG l i k+dG l (i+k) m:=by
 unfold dG;rw[List.take_add,List.drop_drop];simp
def eF(t:List Int):List Int:=t++List.replicate (9-t.length) 0
theorem fI{t:List Int}(h:t.length≤9):(eF t).length=9:=by simp[eF];omega
theorem HS{t:List Int}(h:∀x∈t,0≤x∧x≤1):∀x∈eF t,0≤x∧x≤1:=by
 intro x hx;rcases aMO.1 hx with hx|hx
 ·exact h x hx
 ·rw[(List.mem_replicate.1 hx).2];omega
theorem wX(n:Nat):(List.replicate n (0:Int)).sum=0:=by
 induction n with
 |zero=>rfl
 |succ n ih=>rw[List.replicate_succ,List.sum_cons,ih];rfl
theorem CM(t:List Int)(k:Nat):dG (eF t) 0 k=dG t 0 k:=by
 unfold dG eF;simp only[aPZ,List.take_append,List.sum_append,List.take_replicate,wX];omega
def jW(c:List Int):List Int:=(List.range 10).map fun k=>dG c 0 k
def mD(c:List Int)(k:Nat):List Int:=(List.range 10).map fun j=>if j≤k then dG c 0 j else 0
theorem mC(c:List Int):(jW c).length=10:=by simp[jW]
theorem Q0(c:List Int)(k:Nat):(mD c k).length=10:=by simp[mD]
theorem n9(c:List Int):mD c 9=jW c:=by simp[mD,jW,List.range,List.range.loop]
theorem AS(c:List Int)(k:Nat)(h:k<10):(mD c k)[k]?= some (dG c 0 k):=by simp[mD,h]
theorem BM(c:List Int)(k:Nat):(mD c k).set (k+1) (dG c 0 (k+1))=mD c (k+1):=by
 apply aRB;intro j;rw[List.getElem?_set];simp only[mD,aNB];by_cases hj:k+1=j
 ·subst hj;by_cases hk:k+1<10
  ·simp[hk]
  ·simp[hk]
 ·rw[aMM hj];by_cases hk:j<10
  ·simp only[aQS hk,aNN];by_cases h1:j≤k
   ·rw[aMT h1,aMT Yd]
   ·rw[aMM h1,aMM Yd]
  ·simp[hk]
theorem oQ(c:List Int)(k:Nat)(h:k<10):(jW c)[k]?= some (dG c 0 k):=by simp[jW,h]
theorem GI(t:List Int):jW (eF t)=jW t:=by simp[jW,CM]

structure oO(r:dH):Prop where
 len0:0<r.places.length
 len9:r.places.length≤9
 cnt6:r.counts.length≤6
 wrong:0≤r.wrong∧r.wrong≤6
 off:0≤r.off∧r.off≤9
 place:∀p∈r.places,0≤p∧p≤2
 cnt:∀c∈r.counts,0≤c.many∧c.many≤r.places.length∧0≤c.num∧c.num≤9
theorem cD{n lo hi:Int}:fP n lo hi=true ↔ lo≤n∧n≤hi:=by simp[fP]
theorem zS{r:dH}:aU r=0 ↔ oO r:=by
 unfold aU;constructor
 ·intro h;split at h
  ·cases h
  ·split at h
   ·cases h
   ·rename_i h1 h2;simp only[not_or]at h1 h2;obtain⟨a,b,c,d,e⟩:=h2;simp only[Bool.not_eq_false,aMU,nU,mM,aMC,cD]at b c d e;exact⟨by omega,by omega,by omega,b,c,d,fun x hx=>⟨(e x hx).1.1,(e x hx).1.2,(e x hx).2.1,(e x hx).2.2⟩⟩
 ·intro h;rw[aMM (by have:=h.len9;have:=h.cnt6;omega),aMM]
  simp only[not_or,Bool.not_eq_false,aMU,nU,mM,aMC,cD];exact⟨by have:=h.len0;omega,h.wrong,h.off,h.place,fun x hx=>⟨⟨(h.cnt x hx).1,(h.cnt x hx).2.1⟩,(h.cnt x hx).2.2⟩⟩
def mF(r:dH)(t:List Int):Prop:=t.length=r.places.length∧∀x∈t,0≤x∧x≤1
def aLI(r:dH)(t:List Int):Bool:=(t.length==r.places.length)&&t.all (fun x=>fP x 0 1)&&(t.zip r.places).all fun x=>x.2==2||x.1==x.2
theorem yO{α β:Type}{p:α→Bool}:∀{l:List α} {m:List β},l.length=m.length→((l.zip m).all fun x=>p x.1)=l.all p
 | [],[],_=>rfl
 |a::l,b::m,h=>by simp only[aQW,List.all_cons];rw[yO Yam]
theorem aJA(r:dH)(t:List Int):aLI r t=nM r t:=by
 unfold aLI nM MA;by_cases h:t.length=r.places.length
 ·rw[←yO h];simp only[h,beq_self_eq_true,aPM];rw[aPR];simp only[aMC,aMU];constructor
  ·rintro⟨h1,h2⟩ x hx;exact⟨h1 x hx,h2 x hx⟩
  ·intro h;exact⟨fun x hx=>(h x hx).1,fun x hx=>(h x hx).2⟩
 ·have:(t.length==r.places.length)=false:=by simpa using h
  simp[this]
theorem aHJ{r:dH}{t:List Int}(h:nM r t=true):mF r t:=by
 rw[←aJA]at h;simp only[aLI,aMC,aQZ,aMU,cD]at h;exact⟨h.1.1,h.1.2⟩
theorem JV{r:dH}{t:List Int}{c:sQ}(ht:mF r t)(h0:0≤c.many)(h1:c.many≤r.places.length):
  K4 t c=if c.back then dG t 0 t.length-dG t 0 (t.length-c.many.toNat)else dG t 0 c.many.toNat:=by
 unfold K4;split
 ·have h:=wG t 0 (t.length-c.many.toNat) c.many.toNat;rw[show t.length-c.many.toNat+c.many.toNat=t.length by rw[ht.1];omega,aPC]at h
  omega
 ·rfl
theorem G3{r:dH}{t:List Int}{c:sQ}(ht:mF r t)(_h0:0≤c.many)(h1:c.many≤r.places.length)(h9:r.places.length≤9):0≤K4 t c∧K4 t c≤9:=by
 unfold K4;split
 ·have:=fF ht.2 (t.length-c.many.toNat) c.many.toNat;omega
 ·have:=fF ht.2 0 c.many.toNat;omega
theorem FF{r:dH}{t:List Int}{c:sQ}(hr:oO r)(ht:mF r t)(hc:c∈r.counts):0≤hZ t c∧hZ t c≤9:=by
 obtain⟨a,b,d,e⟩:=hr.cnt c hc;have:=G3 ht a b hr.len9;unfold hZ;omega

def EQ(p:Int)(ps pre:List Int)(k:Nat):List (List Int):=(List.range k).flatMap fun(m:Nat)=>if p=2∨p=(m:Int)then(cX ps).map (fun t=>eF (pre++(m:Int)::t))else []
theorem VE{p:Int}{ps pre:List Int}:EQ p ps pre 0=[]:=rfl
theorem aIO{p:Int}{ps pre:List Int}{k:Nat}(h:¬(p=2∨p=(k:Int))):EQ p ps pre (k+1)=EQ p ps pre k:=by
 unfold EQ;rw[aOF,aND];simp[h]
theorem NG{p:Int}{ps pre:List Int}{k:Nat}(h:p=2∨p=(k:Int)):EQ p ps pre (k+1)=EQ p ps pre k++(cX ps).map (fun t=>eF (pre++[(k:Int)]++t)):=by
 unfold EQ;rw[aOF,aND];simp[h]
theorem LG{p:Int}{ps pre:List Int}:EQ p ps pre 2=(cX (p::ps)).map (fun t=>eF (pre++t)):=by
 by_cases h2:p=2
 ·simp[EQ,cX,List.range,List.range.loop,Function.comp_def,h2]
 ·by_cases h0:p=0
  ·simp[EQ,cX,List.range,List.range.loop,Function.comp_def,h0]
  ·by_cases h1:p=1
   ·simp[EQ,cX,List.range,List.range.loop,Function.comp_def,h1]
   ·have:¬(1:Int)=p:=fun e=>h1 e.symm
    simp[EQ,cX,List.range,List.range.loop,h2,h0,h1]
theorem aAL{p:Int}{ps pre:List Int}{k:Nat}(hk:k<2):∃r,EQ p ps pre 2=EQ p ps pre (k+1)++r:=by
 rcases(by omega:k=0∨k=1)with rfl|rfl
 ·refine⟨if p=2∨p=1 then(cX ps).map (fun t=>eF (pre++1::t))else [],?_⟩;simp[EQ,List.range,List.range.loop]
 ·exact⟨[],by simp⟩
theorem BR{pre c:List Int}{n:Nat}(_h9:c.length=9)(hp:c.take n=pre)(hn:pre.length=n)(hz:c.drop n=List.replicate (9-n) 0):c=eF pre:=by
 rw[←aPU n c,hp,hz];unfold eF;rw[hn]
theorem JE{pre c:List Int}{i n:Nat}{k:Int}(h9:c.length=9)(hi:i<n)(hn:n≤9)(hp:c.take i=pre)(hz:c.drop n=List.replicate (9-n) 0):
  (c.set i k).length=9∧(c.set i k).take (i+1)=pre++[k]∧(c.set i k).drop n=List.replicate (9-n) 0:=by
 refine⟨by simpa using h9,?_,?_⟩
 ·rw[List.take_succ_eq_append_getElem Yah,List.take_set_of_le (aMS _),hp];simp
 ·rw[List.drop_set_of_lt hi,hz]
theorem uS(l:List Int):(cX l).length≤2^l.length:=by
 induction l with
 |nil=>simp[cX]
 |cons p ps ih=>
  simp only[cX,aLY,aMI,Nat.pow_succ];have:∀(c:Prop) [Decidable c] (f:List Int→List Int),(if c then(cX ps).map f else []).length≤(cX ps).length:=by intro c _ f;split<;>simp
  have h1:=this (p=2∨p=0) (0:: ·);have h2:=this (p=2∨p=1) (1:: ·);omega
theorem nS{l t:List Int}(h:t∈cX l):t.length=l.length∧∀x∈t,0≤x∧x≤1:=by
 induction l generalizing t with
 |nil=>simp[cX]at h;subst h;simp
 |cons p ps ih=>
  simp only[cX,aMO]at h;rcases h with h|h
  ·split at h
   ·obtain⟨t',ht',rfl⟩:=aMB.1 h;refine⟨by simp[(ih ht').1],fun x hx=>?_⟩;rcases aLX.1 hx with rfl|hx
    ·omega
    ·exact(ih ht').2 x hx
   ·simp at h
  ·split at h
   ·obtain⟨t',ht',rfl⟩:=aMB.1 h;refine⟨by simp[(ih ht').1],fun x hx=>?_⟩;rcases aLX.1 hx with rfl|hx
    ·omega
    ·exact(ih ht').2 x hx
   ·simp at h
theorem vJ{places x:List Int}{pre r:List (List Int)}(h:(cX places).map eF=pre++x::r):∃t,(cX places)[pre.length]?= some t∧x=eF t∧t∈cX places∧(cX places).take (pre++[x]).length=(cX places).take pre.length++[t]:=by
 have h1:((cX places).map eF)[pre.length]?= some x:=by rw[h];simp
 rw[aNB,aOZ]at h1;obtain⟨t,ht,hx⟩:=h1;refine⟨t,ht,hx.symm,aLW ht,?_⟩;rw[aLY,aPO,aMN,ht];rfl
def dE(r:dH)(fine:Bool):Int:=if aU r≠0 then aU r else if fine=false then 2 else if truths r=[]then 11 else 0
def oP(r:dH)(i j:Int):Bool:=fP i 0 (r.places.length-1)&&fP j i (r.places.length-1)

def TY(ts:List (List Int))(i j:Nat):Int:=pZ (ts.map fun t=>lA t i j)
def ZI(ts:List (List Int))(i j:Nat):Int:=oH (ts.map fun t=>lA t i j)
theorem R4(l:List Int)(a:Int)(h:l[0]?= some a):l.foldl min a=pZ l:=by
 cases l with
 |nil=>simp at h
 |cons x l=>simp at h;subst h;simp[pZ]
theorem S4(l:List Int)(a:Int)(h:l[0]?= some a):l.foldl max a=oH l:=by
 cases l with
 |nil=>simp at h
 |cons x l=>simp at h;subst h;simp[oH]
theorem y3{t:List Int}(hb:∀x∈t,0≤x∧x≤1)(i j:Nat)(hj:j<9):0≤lA t i j∧lA t i j≤9:=by
 unfold lA;have:=fF hb i (j+1-i);omega
def vd(ts:List (List Int))(q:List Int→Bool):Int:=
 match ts with
 | []=>1
 |t0::_=>if(ts.all fun t=>q t==q t0)=true then(if q t0=true then 1 else 2)else 3
theorem aAX{ts:List (List Int)}{q:List Int→Bool}{t0:List Int}(h0:ts[0]?= some t0){j:Nat}(hj:ts.length≤j)(h:(ts.take j).all (fun t=>q t==q t0)=true):vd ts q=if q t0=true then 1 else 2:=by
 rw[aNA hj]at h;cases ts with
 |nil=>simp at h0
 |cons x l=>simp at h0;subst h0;simp only[vd];rw[aMT h]
theorem aGF{ts:List (List Int)}{q:List Int→Bool}{t0 t:List Int}(h0:ts[0]?= some t0){j:Nat}(hj:ts[j]?= some t)(h:(!(q t==q t0))=true):vd ts q=3:=by
 cases ts with
 |nil=>simp at h0
 |cons x l=>
  simp only[List.getElem?_cons_zero,aRA]at h0;subst h0;simp only[vd]
  rw[aMM];intro ha;have:=aMU.1 ha t (aLW hj);simp[this]at h
def YS(i:Nat)(t:List Int):Bool:=decide (0<t.getD i 0)
def sP(r:dH)(i:Nat)(t:List Int):Bool:=match r.counts[i]? with|some c=>decide (hZ t c=0)|none=>false
theorem XW{t:List Int}{i:Nat}(h:i<9)(h9:t.length≤9):(eF t)[i]?= some (t.getD i 0):=by
 unfold eF;by_cases hi:i<t.length
 ·rw[aOV hi,aOB,LE hi];rfl
 ·rw[aQL Yd,List.getElem?_replicate,aMT Yd,aOB,aPH Yd];rfl
theorem vM{r:dH}{t:List Int}(h:t∈truths r):mF r t:=nS (List.mem_filter.1 h).1


def iO(r:dH)(o:Option Int)(t:List Int):Option Int:=if eC r t=true then some (match o with|none=>(oJ r t:Int)|some m=>min m (oJ r t))else o
def kN(r:dH)(us:List (List Int)):Option Int:=us.foldl (iO r) none
theorem sL(r:dH)(us:List (List Int))(t:List Int):kN r (us++[t])=iO r (kN r us) t:=by simp[kN,aOA]
theorem o9{r:dH}{o:Option Int}{t:List Int}{w:Int}(h:∃m,o=some m∧m≤w):∃m,iO r o t=some m∧m≤w:=by
 obtain⟨m,rfl,hm⟩:=h;unfold iO;split
 ·exact⟨_,rfl,by simp only;omega⟩
 ·exact⟨m,rfl,hm⟩
theorem yF{r:dH}{w:Int}:∀(us:List (List Int)) (o:Option Int),(∃m,o=some m∧m≤w)→∃m,us.foldl (iO r) o=some m∧m≤w
 | [],o,h=>h
 |t::us,o,h=>by rw[aOI];exact yF us _ (o9 h)
theorem vX{r:dH}{t:List Int}(he:eC r t=true):∀(us:List (List Int)) (o:Option Int),t∈us→∃m,us.foldl (iO r) o=some m∧m≤(oJ r t:Int)
 |u::us,o,h=>by
  rw[aOI];rcases aLX.1 h with rfl|h
  ·refine yF us _ ?_;unfold iO;rw[aMT he];refine⟨_,rfl,?_⟩;split<;>omega
  ·exact vX he us _ h
theorem V2{r:dH}{us:List (List Int)}{t:List Int}(h:t∈us):kN r (us++[t])=kN r us:=by
 rw[sL];unfold iO;split
 ·rename_i he;obtain⟨m,hm,hle⟩:=vX he us none h;have:kN r us=some m:=hm;rw[this];simp only;rw[Int.min_eq_left hle]
 ·rfl
theorem WB{t u:List Int}(hl:t.length=u.length)(h:eF t=eF u):t=u:=by
 have:=aMQ (List.take t.length) h;unfold eF at this;rw[aQM,hl,aQM]at this;exact this
def tK(r:dH)(pre:List (List Int))(g:Option Int×List Int):Prop:=g.1=kN r ((cX r.places).take pre.length)∧g.2.length=9∧∀u,((cX r.places).take pre.length).getLast?= some u→g.2=eF u
theorem IN{r:dH}{pre:List (List Int)}{o:Option Int}{last t:List Int}(h:tK r pre (o,last))(ht:t∈cX r.places)(htake:(cX r.places).take (pre++[eF t]).length=(cX r.places).take pre.length++[t])(hc:(o.isSome&&(eF t==last))=true):tK r (pre++[eF t]) (o,last):=by
 obtain⟨h1,h2,h3⟩:=h;simp only[aMC,aQZ]at hc;obtain⟨ho,hl⟩:=hc;cases hg:((cX r.places).take pre.length).getLast? with
 |none=>
  rw[List.getLast?_eq_none_iff]at hg;rw[hg]at h1;simp only at h1;rw[h1]at ho;cases ho
 |some u=>
  have hu:=List.mem_of_getLast? hg;have h4:=h3 u hg;simp only at h4;have hut:t=u:=WB (by rw[(nS ht).1,(nS (aRD hu)).1]) (by rw[hl,h4]);subst hut;refine⟨?_,h2,fun v hv=>?_⟩
  ·rw[htake,V2 hu];exact h1
  ·rw[htake,List.getLast?_concat]at hv;cases hv;exact h4
theorem QG{r:dH}{pre:List (List Int)}{o:Option Int}{last t:List Int}(h:tK r pre (o,last))(h9:(eF t).length=9)(htake:(cX r.places).take (pre++[eF t]).length=(cX r.places).take pre.length++[t])
  (hc:(eC r t&&(!o.isSome||decide ((if eC r t=true then(oJ r t:Int)else 0)<o.getD 0)))=true):tK r (pre++[eF t]) (some (if eC r t=true then(oJ r t:Int)else 0),eF t):=by
 obtain⟨h1,h2,h3⟩:=h;simp only[aMC]at hc;obtain⟨he,hc⟩:=hc;refine⟨?_,h9,fun v hv=>?_⟩
 ·simp only at h1;rw[htake,sL,←h1];simp only[iO,he,aOJ]at hc ⊢
  cases o with
  |none=>rfl
  |some m=>
   simp only[Option.isSome_some,Bool.not_true,Bool.false_or,aMV,aPG]at hc;simp only;rw[Int.min_eq_right Yd]
 ·rw[htake,List.getLast?_concat]at hv;cases hv;rfl
theorem WA{r:dH}{pre:List (List Int)}{o:Option Int}{last t:List Int}(h:tK r pre (o,last))(h9:(eF t).length=9)(htake:(cX r.places).take (pre++[eF t]).length=(cX r.places).take pre.length++[t])
  (hc:(eC r t&&(!o.isSome||decide ((if eC r t=true then(oJ r t:Int)else 0)<o.getD 0)))=false):tK r (pre++[eF t]) (o,eF t):=by
 obtain⟨h1,h2,h3⟩:=h;refine⟨?_,h9,fun v hv=>?_⟩
 ·simp only at h1;rw[htake,sL,←h1];unfold iO;split
  ·rename_i he;simp only[he,aPM,aOJ]at hc;cases o with
   |none=>simp at hc
   |some m=>
    simp only[Option.isSome_some,Bool.not_true,Bool.false_or,aNV,aPG]at hc;simp only;rw[Int.min_eq_left Yd]
  ·rfl
 ·rw[htake,List.getLast?_concat]at hv;cases hv;rfl
def pV(r:dH):Int:=if aU r≠0 then 0 else(kN r (cX r.places)).getD 0
def C8(r:dH):Int:=if aU r≠0 then aU r else if(kN r (cX r.places)).isSome=true then 0 else 10
theorem EM{r:dH}{o:Option Int}(ho:o=kN r (cX r.places))(hf:aU r=0)(h:(!o.isSome)=true):pV r=0∧C8 r=10:=by
 have hn:o=none:=by simpa using h
 rw[pV,C8,←ho,hn,hf];exact⟨rfl,rfl⟩
theorem AP{r:dH}{o:Option Int}(ho:o=kN r (cX r.places))(hf:aU r=0)(h:(!o.isSome)=false):pV r=o.getD 0∧C8 r=0:=by
 have hn:o.isSome=true:=by simpa using h
 rw[pV,C8,←ho,hf,hn];exact⟨rfl,rfl⟩

end Go.Fs.C1
namespace Go.Fs
open C1
def RC:Rd sQ:=fun _ c cs=>cs=[.bool c.back,.int .i64 c.many,.int .i64 c.num]
theorem RC.up:RC.Up:=fun _ _ _ h=>h
def iV(n:Int):Value:=.int .i64 n
def cV(c:sQ):Value:=.agg #[.bool c.back,.int .i64 c.many,.int .i64 c.num]
def lS(D:aA)(v:Value)(r:dH):Prop:=∃pv cv,v=.agg #[pv,cv,.int .i64 r.wrong,.int .i64 r.off]∧Sl D RI 1 pv r.places∧Sl D RC 3 cv r.counts
theorem lS.up{D D':aA}{v:Value}{r:dH}(h:lS D v r)(hl:Le D D'):lS D' v r:=by
 obtain⟨pv,cv,hv,hp,hc⟩:=h;exact⟨pv,cv,hv,hp.up RI.up hl,hc.up RC.up hl⟩
def idxOf{α:Type}(p:α→Bool)(xs:List α):Int:=if xs.any p then(xs.findIdx p:Int)else -1
def RT:Rd (List Int):=fun _ t cs=>cs=ints (eF t)
theorem RT.up:RT.Up:=fun _ _ _ h=>h
def aAW(D:aA)(v:Value)(r:dH):Prop:=∃b pv cv tv,v=.pointer (some ⟨b,0,none⟩)∧At D b 0 [pv,cv,.int .i64 r.wrong,.int .i64 r.off,tv]∧Sl D RI 1 pv r.places∧Sl D RC 3 cv r.counts∧Sl D RT 9 tv (truths r)
def xG(e:Nat)(r:dH)(pre:List (List Int))(g:Value×aC):Prop:=bM e 9 g.1 (((cX r.places).take pre.length).filter (fits r)).length ((((cX r.places).take pre.length).filter (fits r)).flatMap fun t=>ints (eF t)) g.2
theorem BT{l:List (List Int)}(h:∀t∈l,t.length≤9):(l.flatMap fun t=>ints (eF t)).length=l.length*9:=by
 induction l with
 |nil=>rfl
 |cons t l ih=>
  rw[aNQ,aLY,ih (fun t ht=>h t (aLZ _ ht)),aMI,Fs.aJ,fI (h t aMF),aOR];omega
theorem UO{l:List (List Int)}(h:∀t∈l,t.length≤9){i:Nat}{t:List Int}(hi:l[i]?= some t):((l.flatMap fun t=>ints (eF t)).drop (i*9)).take 9=ints (eF t):=by
 induction l generalizing i with
 |nil=>simp at hi
 |cons u l ih=>
  have hu:(ints (eF u)).length=9:=by rw[Fs.aJ,fI (h u aMF)]
  rw[aNQ];cases i with
  |zero=>
   obtain rfl:u=t:=by simpa using hi
   rw[aQF,aPZ,aNP Yd,aNA Yd]
  |succ i=>
   rw[aQE,aNM Yd,aNE,hu,show(i+1)*9-9=i*9 by omega];exact ih (fun t ht=>h t (aLZ _ ht)) Yaj
theorem jY.truths{D:aA}{v:Value}{n:Nat}{l:List (List Int)}(hF:jY D v n (l.flatMap fun t=>Fs.ints (eF t)))(hn:l.length=n)(hb:n≤9223372036854775807)(h:∀t∈l,t.length≤9):Sl D RT 9 v l:=
 hF.sl hn hb fun i t hi=>⟨Fs.ints (eF t),rfl,by rw[Fs.aJ,fI (h t (aLW hi))],UO h hi⟩
theorem aFN{e sz b:Nat}{cells:List Value}(h:cells.length=sz):bM e sz (.slice (some ⟨b,0,none⟩) 1 1) 1 cells [(b,.cells cells.toArray e (0,0))]:=
 aMD ⟨b,1,[],rfl,aMS _,by simp,by omega,by simp;omega⟩
theorem jY.at{D:aA}{b n cap:Nat}{cells:List Value}(h:jY D (.slice (some ⟨b,0,none⟩) n cap) n cells)(hn:0<n):At D b 0 cells:=by
 rcases h with⟨a,hv,h0,_⟩|⟨b',cap',hv,_,hA⟩
 ·omega
 ·cases hv;exact hA
end Go.Fs
namespace Go.Fs
variable{P:Program}{X:Cx}{γb:Type}[Membership Nat γb]{bad:γb}{all:Array Oper}{K:Act→World→Prop}{Q:Exit→Act→World→Prop}
variable{σ:bI}{μ:aC}{Ds:List aA}{os:List (Bool×Nat)}{fl:Bool}{ix:Nat}
variable{d:Nat}{x y z:Operand}{u v:Value}{ty:TypeId}{pos:String}{aft:Array Edge}{g:Option (Nat×Bool)}
theorem cO{e:TypeId}{q:IntKind}(hu:P.underlying e=some (.int q)){xs:Array Value}{off:Nat}{v:Value}(hx:xs[off]?= some v)(w:World):(part e xs off).run P w=.ok v w:=
 run_part_plain w (by simp[Program.plainKey,hu]) hx
theorem jS(dp:Nat){e:TypeId}(hu:P.underlying e=some (.int .i64))(l m:List Int)(w:World):∀(is:List Nat),(∀i∈is,i<l.length∧i<m.length)→
  (Op.eqItems (dp+1) e 1 (ints l).toArray (ints m).toArray is).run P w=.ok (is.all fun i=>l[i]? ==m[i]?) w
 | [],_=>by simp[Op.eqItems,Sem.run_pure]
 |i::is,h=>by
  obtain⟨h1,h2⟩:=h i aMF;have g1:(ints l).toArray[i*1]?= some (.int .i64 l[i]):=by rw[aPE];simpa using cA (LE h1)
  have g2:(ints m).toArray[i*1]?= some (.int .i64 m[i]):=by rw[aPE];simpa using cA (LE h2)
  simp only[Op.eqItems,Sem.run_bind,cO hu g1,cO hu g2,run_equalIn_int w dp e .i64 .i64 _ _ hu,Result.andThen_ok,List.all_cons,LE h1,LE h2];by_cases he:l[i]=m[i]
  ·simp[he,jS dp hu l m w is (fun j hj=>h j (aLZ _ hj))]
  ·simp[he,Sem.run_pure]
theorem rX{l m:List Int}{n:Nat}(hl:l.length=n)(hm:m.length=n):((List.range n).all fun i=>l[i]? ==m[i]?)=(l==m):=by
 rw[aPR];simp only[aMU,aPF,aQZ];constructor
 ·intro h;apply aRB;intro i;by_cases hi:i<n
  ·exact h i hi
  ·rw[aPH Yd,aPH Yd]
 ·rintro rfl i _;rfl
theorem GB{t e t':TypeId}{n:Nat}{l m:List Int}(ho:all[ix]?= some ⟨some d,.binOp .eql t x y t',ty,pos,aft,g⟩)(hgt:P.eqGuardType P.depth t=false)(ht:P.underlying t=some (.array n e))(he:P.underlying e=some (.int .i64))(hc:P.cellsOf e=1)
  (hl:l.length=n) (hm:m.length=n) (hx:ev σ x=some (.agg (ints l).toArray)) (hy:ev σ y=some (.agg (ints m).toArray)) (hN:Nat.blt d X.N=true) (hg:cY all σ g)
  (kk:WL P X bad all K Q os ((d,.bool (l==m))::σ) μ Ds):WL P X bad all K Q ((fl,ix)::os) σ μ Ds:=
 wQ ho (fun w=>by
  have hgd:(eqGuard .eql t x y (.agg (ints l).toArray) (.agg (ints m).toArray)).run P w=.ok () w:=by
   simp only[eqGuard,program];simp[Sem.run,hgt,go_sem]
  have heq:(Op.equal t (.agg (ints l).toArray) (.agg (ints m).toArray)).run P w=.ok (l==m) w:=by
   obtain⟨i,hi⟩:=info_of_underlying he;have h:=run_equalIn_array (P:=P) w 9999 (ints l).toArray (ints m).toArray ht hi;rw[hc,jS 9998 he l m w (List.range n) (fun j hj=>by have:=aPF.1 hj;omega),rX hl hm]at h
   exact h
  rw[Sem.run_bind,hgd];show((do Pure.pure (Value.bool (←Op.equal t (.agg (ints l).toArray) (.agg (ints m).toArray)))):Sem Value).run P w=_;rw[Sem.run_bind,heq];rfl) hx hy hN hg kk

def K2(P:Program)(k:TypeId):Prop:=P.underlying k=some (.struct (P.fieldsOf k))∧P.stoodInHeld k=false∧
 (P.fieldsOf k).toList.map (fun f=>(f.name== "_",f.offset,P.underlying f.type))=[(false,0,some (.int .i64)),(false,1,some (.int .i64))]
def jC(k:Int×Int):Value:=.agg #[.int .i64 k.1,.int .i64 k.2]
theorem K2.fields{k:TypeId}(h:K2 P k):∃f0 f1,P.underlying k=some (.struct #[f0,f1])∧P.fieldsOf k=#[f0,f1]∧f0.name≠ "_" ∧f1.name≠ "_" ∧f0.offset=0∧f1.offset=1∧P.underlying f0.type=some (.int .i64)∧P.underlying f1.type=some (.int .i64):=by
 obtain⟨h1,h2,h3⟩:=h;generalize hl:(P.fieldsOf k).toList=fs at h3;have h0:=aMQ List.length h3;simp only[aOL,aMI,aNX]at h0;rcases fs with _|⟨f0,_|⟨f1,_|⟨f2,fs⟩⟩⟩<;>simp only[aMI,aNX]at h0<;>try omega
 have he:P.fieldsOf k=#[f0,f1]:=by rw[←Array.toArray_toList (xs:=P.fieldsOf k),hl]
 simp only[aMZ,aQB,aOC,aPX,and_true,beq_eq_false_iff_ne]at h3;exact⟨f0,f1,by rw[h1,he],he,h3.1.1,h3.2.1,h3.1.2.1,h3.2.2.1,h3.1.2.2,h3.2.2.2⟩
theorem xX{k:TypeId}(h:K2 P k)(a b:Int×Int)(w:World):(Op.equal k (jC a) (jC b)).run P w=.ok (a==b) w:=by
 obtain⟨a1,a2⟩:=a;obtain⟨b1,b2⟩:=b;obtain⟨f0,f1,hu,hf,n0,n1,o0,o1,t0,t1⟩:=h.fields;have he:=run_equalIn_struct (P:=P) w 9999 k #[.int .i64 a1,.int .i64 a2] #[.int .i64 b1,.int .i64 b2] h.1 h.2.1;show(Op.equalIn (9999+1) k (.agg #[.int .i64 a1,.int .i64 a2]) (.agg #[.int .i64 b1,.int .i64 b2])).run P w=_;rw[he,hf];have p0:∀c1 c2:Int,(part f0.type #[.int .i64 c1,.int .i64 c2] f0.offset).run P w=.ok (.int .i64 c1) w:=fun c1 c2=>cO t0 (by rw[o0];rfl) w
 have p1:∀c1 c2:Int,(part f1.type #[.int .i64 c1,.int .i64 c2] f1.offset).run P w=.ok (.int .i64 c2) w:=fun c1 c2=>cO t1 (by rw[o1];rfl) w
 have e0:=run_equalIn_int w 9998 f0.type .i64 .i64 a1 b1 t0;have e1:=run_equalIn_int w 9998 f1.type .i64 .i64 a2 b2 t1;have s1:(Op.eqFields 9999 #[.int .i64 a1,.int .i64 a2] #[.int .i64 b1,.int .i64 b2] [f1]).run P w=.ok (a2==b2) w:=by
  simp only[Op.eqFields,n1,ne_eq,aQP,aOJ,Sem.run_bind,p1,Result.andThen_ok];rw[e1];simp only[Result.andThen_ok];cases a2==b2<;>rfl
 show(Op.eqFields 9999 #[.int .i64 a1,.int .i64 a2] #[.int .i64 b1,.int .i64 b2] (f0::[f1])).run P w=_;rw[Op.eqFields,aMT n0];simp only[Sem.run_bind,p0,Result.andThen_ok];rw[e0];simp only[Result.andThen_ok];by_cases hab:a1=b1
 ·subst hab;simp only[beq_self_eq_true,Bool.not_true,aNJ,aOP];rw[s1];have:(a2==b2)=((a1,a2)==(a1,b2)):=by rw[aPR];simp
  rw[this]
 ·have hb:(a1==b1)=false:=by simpa using hab
  simp only[hb,aRF,aOJ,Sem.run_pure];simp[hab]
theorem WU{t t':TypeId}{a b:Int×Int}(ho:all[ix]?= some ⟨some d,.binOp .eql t x y t',ty,pos,aft,g⟩)(hgt:P.eqGuardType P.depth t=false)(ht:K2 P t)(hx:ev σ x=some (jC a))(hy:ev σ y=some (jC b))(hN:Nat.blt d X.N=true)(hg:cY all σ g)
  (kk:WL P X bad all K Q os ((d,.bool (a==b))::σ) μ Ds):WL P X bad all K Q ((fl,ix)::os) σ μ Ds:=
 wQ ho (fun w=>by
  have hgd:(eqGuard .eql t x y (jC a) (jC b)).run P w=.ok () w:=by
   simp only[eqGuard,jC,program];simp[Sem.run,hgt,go_sem]
  rw[Sem.run_bind,hgd];show((do Pure.pure (Value.bool (←Op.equal t (jC a) (jC b)))):Sem Value).run P w=_;rw[Sem.run_bind,xX ht];rfl) hx hy hN hg kk
theorem vF{k k':IntKind}{s t:TypeId}{u':TypeDesc}{n:Int}(ho:all[ix]?= some ⟨some d,.convert s t x,ty,pos,aft,g⟩)(hs:P.underlying s=some u')(ht:P.underlying t=some (.int k'))(hx:ev σ x=some (.int k n))(hn:rM k' n)(hN:Nat.blt d X.N=true)(hg:cY all σ g)
  (kk:WL P X bad all K Q os ((d,.int k' n)::σ) μ Ds):WL P X bad all K Q ((fl,ix)::os) σ μ Ds:=
 TB ho (fun w=>by
  simp only[Go.convert,Sem.run_bind,TU.of hs w,TU.of ht w,Result.andThen_ok,Conv.intToInt,lH hn];rfl) hx hN hg kk
theorem bM.shape{e:TypeId}{sz n:Nat}{cells:List Value}{ν:aC}(h:bM e sz v n cells ν):∃a cap,v=.slice a n cap:=by
 rcases h with⟨a,hv,hn,_,_⟩|⟨b,cap,junk,hv,_⟩
 ·exact⟨a,0,by rw[hv,hn]⟩
 ·exact⟨_,cap,hv⟩
theorem Sl.shape{α:Type}{R:Rd α}{D:aA}{sz:Nat}{xs:List α}(h:Sl D R sz v xs):∃a cap,v=.slice a xs.length cap:=by
 obtain⟨a,cap,hv,_⟩:=h;exact⟨a,cap,hv⟩
theorem T9{t e:TypeId}{sz n:Nat}{parts:Array (Nat×Operand)}{us:List (Nat×Value)}{rs:List Value}{z0:Value}(ho:all[ix]?= some ⟨some d,.buildSlice t n parts,ty,pos,aft,g⟩)(ht:P.underlying t=some (.slice e))(hs:TS P e sz)(hz:TZ P e z0)(_hz1:Nat.beq z0.cells.size sz=true)
  (hu:S9 σ parts.toList=some us) (hn:us.length=n) (hnz:Nat.ble (n*sz) 4096=true) (hf:q9 sz 0 us rs) (hN:Nat.blt d X.N=true) (hg:cY all σ g)
  (kk:∀b,bM e sz (.slice (some ⟨b,0,none⟩) n n) n rs [(b,.cells rs.toArray e (0,0))]→WL P X bad all K Q os ((d,.slice (some ⟨b,0,none⟩) n n)::σ) ((b,.cells rs.toArray e (0,0))::μ) Ds):WL P X bad all K Q ((fl,ix)::os) σ μ Ds:=by
 refine dP ho rfl rfl hg fun a w hh=>?_
 obtain⟨h1,h2,h3,D,h4,h5,h6⟩:=id hh;have hnz':n*sz≤4096:=aOE hnz;have hlen:rs.length=n*sz:=by rw[hf.len,hn]
 have e1:(parts.map fun(i,x)=>(i,a.eval x)).toList=us:=by rw[←rJ (fun _ _ hx=>hh.eval hx) hu];simp
 have hrun:(execOp a.eval ⟨some d,.buildSlice t n parts,ty,pos,aft,g⟩).run P w=.ok (.value (.slice (some ⟨w.heap.size,0,none⟩) n n)) {w with heap:=w.heap.push (.cells rs.toArray e (0,0))}:=by
  simp only[execOp,Instr.buildSlice,Sem.run_bind,TU.of ht w,Result.andThen_ok,hs w];rw[aMM Yd];simp only[pure_bind];have key:∀zc:Array Value,Instr.fill (fun i=>some (i*sz,sz)) ((Array.range (n*sz)).map (zc[· %zc.size]!)) us=some rs.toArray:=by
   intro zc;have:=d6 hf [] ((Array.range (n*sz)).map (zc[· %zc.size]!)).toList Ye (by simp[hlen]);rw[aNE,aNE]at this;exact this
  split
  ·simp only[Sem.run_bind,Sem.run_pure,Result.andThen_ok,e1,key,gE]
  ·simp only[Sem.run_bind,Sem.run_pure,Result.andThen_ok,hz w,e1,key,gE]
 rw[hrun];have hs':=h4.push (.cells rs.toArray e (0,0)) rfl;refine⟨fun _=>kS _ _ _,kk w.heap.size (aMD ⟨_,n,[],rfl,aMS _,by simp,hlen,by simpa using hlen⟩) _ _ (Hl.put ⟨h1,h2,h3,D,hs',h5,h6.step (fun _ p hp=>?_) (fun _=>tI _ _) hs'.dom⟩ hN _)⟩;rcases aLX.1 hp with rfl|hp
 ·exact aMD (aMS _)
 ·exact aMR (aMB.2 ⟨p,hp,rfl⟩)
theorem H9{k:TypeId}(h:K2 P k)(em:Bool)(a:Int×Int)(w:World):(Instr.checkKey em 10000 k (jC a)).run P w=.ok () w:=by
 obtain⟨f0,f1,hu,hf,n0,n1,o0,o1,t0,t1⟩:=h.fields;have p0:(part f0.type #[.int .i64 a.1,.int .i64 a.2] f0.offset).run P w=.ok (.int .i64 a.1) w:=cO t0 (by rw[o0];rfl) w
 have p1:(part f1.type #[.int .i64 a.1,.int .i64 a.2] f1.offset).run P w=.ok (.int .i64 a.2) w:=cO t1 (by rw[o1];rfl) w;have c0:(Instr.checkKey em (9998+1) f0.type (.int .i64 a.1)).run P w=.ok () w:=by
  rw[Instr.checkKey,Sem.run_bind,TU.of t0 w];rfl
 have c1:(Instr.checkKey em (9998+1) f1.type (.int .i64 a.2)).run P w=.ok () w:=by
  rw[Instr.checkKey,Sem.run_bind,TU.of t1 w];rfl
 show(Instr.checkKey em (9999+1) k (.agg #[.int .i64 a.1,.int .i64 a.2])).run P w=_;rw[Instr.checkKey,Sem.run_bind,TU.of hu w];simp only[Result.andThen_ok];rw[←Array.forIn_toList];simp only[List.forIn_cons,List.forIn_nil,n0,n1,ne_eq,aQP,aOJ,Sem.run_bind,p0,Result.andThen_ok,Sem.run_pure];rw[c0];simp only[Result.andThen_ok,Sem.run_pure,Sem.run_bind,p1];rw[c1];simp[Sem.run_pure,Result.andThen_ok]
theorem qE{t:TypeId}(ho:all[ix]?= some ⟨some d,.makeMap t none,ty,pos,aft,g⟩)(hN:Nat.blt d X.N=true)(hg:cY all σ g)
  (kk:∀b,WL P X bad all K Q os ((d,.map (some b))::σ) ((b,.map #[] 0)::μ) Ds):WL P X bad all K Q ((fl,ix)::os) σ μ Ds:=by
 refine dP ho rfl rfl hg fun a w hh=>?_
 obtain⟨h1,h2,h3,D,h4,h5,h6⟩:=id hh;have:(execOp a.eval ⟨some d,.makeMap t none,ty,pos,aft,g⟩).run P w=.ok (.value (.map (some w.heap.size))) {w with heap:=w.heap.push (.map #[] 0)}:=rfl;rw[this];exact⟨fun _=>kS _ _ _,kk _ _ _ (Hl.put ⟨h1,h2,h3,D,h4.push _ (show cQ (.map #[] 0)from cW),h5,h6.step (fun _ p hp=>by rcases aLX.1 hp with rfl|hp;exact Or.inr (aMS _);exact Or.inl (aMB.2 ⟨p,hp,rfl⟩)) (fun _=>tI _ _) (h4.push _ (show cQ (.map #[] 0)from cW)).dom⟩ hN _)⟩
theorem gS{w:World}{r:Nat}{es:Array MapEntry}{clock:Nat}(h:w.heap[r]?= some (.map es clock)):(getObj r).run P w=.ok (.map es clock) w:=by
 simp[getObj,Sem.run,h]

theorem aKM{t t':TypeId}{m n:Int}{k:IntKind}(ho:all[ix]?= some ⟨some d,.binOp .shl t x y t',ty,pos,aft,g⟩)(hx:ev σ x=some (.int .i64 m))(hy:ev σ y=some (.int k n))(h0:0≤n)(h1:n<64)(hr:rM .i64 (m*2^n.toNat))(hN:Nat.blt d X.N=true)(hg:cY all σ g)
  (kk:WL P X bad all K Q os ((d,.int .i64 (m*2^n.toNat))::σ) μ Ds):WL P X bad all K Q ((fl,ix)::os) σ μ Ds:=
 bO ho rfl rfl hN hg (fun ρ hρ w'=>by
  have hn:min n.toNat IntKind.i64.bits=n.toNat:=by have:IntKind.i64.bits=64:=rfl;omega
  have h0':¬n<0:=by omega
  have hs:(binOp .shl t (.int .i64 m) (.int k n)).run P w'=.ok (.int .i64 (m*2^n.toNat)) w':=by
   show(Op.shift .shl .i64 m k n).run P w'=_;unfold Op.shift;rw[aMM h0'];simp only[hn,lH hr,Sem.run_pure]
  have hg:∀w,(eqGuard .shl t x y (.int .i64 m) (.int k n)).run P w=.ok () w:=fun w=>rfl
  simp only[execOp,hρ x _ hx,hρ y _ hy,Sem.run_bind,hg,Result.andThen_ok,hs,Sem.run_pure]) kk

def aGD(X:Cx)(b:Nat)(post:aA→Value→Obj→Prop):Ending→World→Prop:=fun e w'=>∃v D' o',e=.returned v∧fU X.h0 X.lo X.D0 X.mods [(b,o')] D' w'∧post D' v o'
theorem dT{fn:Func}{b:Nat}{o':Obj}{post:aA→Value→Obj→Prop}{e:Exit}(he:(match e with|.normal=>true|.ret=>true|_=>false)=true){rs:List ResultVar}{vs:List Value}(hds:X.ds=[])(hr:fn.results=rs.toArray)(h:tE P X σ μ rs vs)
  (hm:(b,o')∈μ) (hp:∀D,(∀D₁∈Ds,Le D₁ D)→post D (nE vs) o'):∀a w,Hl X σ μ Ds a w→bodyPost P fn (aGD X b post) e a w:=by
 intro a w hh;have hrun:=fX hh hr h;obtain⟨h1,h2,h3,D,h4,h5,h6⟩:=hh;have:a.defers=[]∧∃v,(results fn a.tmps).run P w=.ok v w∧aGD X b post (.returned v) w:=⟨h3.trans hds,_,hrun,_,D,o',rfl,h4.sub (fun p hp=>by rw[aML.1 hp];exact hm) Ye,hp D h5⟩
 cases e<;>first|exact this|cases he
theorem S2{t t':TypeId}{n:Nat}(ho:all[ix]?= some ⟨some d,.binOp .shl t x y t',ty,pos,aft,g⟩)(hx:ev σ x=some (.int .i64 1))(hy:ev σ y=some (.int .i64 (n:Int)))(h1:n<62)(hN:Nat.blt d X.N=true)(hg:cY all σ g)
  (kk:WL P X bad all K Q os ((d,.int .i64 ((2^n:Nat):Int))::σ) μ Ds):WL P X bad all K Q ((fl,ix)::os) σ μ Ds:=by
 have h2:(2:Nat)^n<2^62:=Nat.pow_lt_pow_right Yd h1;have e:(1:Int)*2^(n:Int).toNat=((2^n:Nat):Int):=by simp
 have hr:rM .i64 ((1:Int)*2^(n:Int).toNat):=by
  rw[e];generalize (2:Nat)^n=q at h2;simp only[rM];omega
 refine aKM ho hx hy Yd Yd hr hN hg ?_;rw[e];exact kk
end Go.Fs
namespace Go.Fs
variable{P:Program}{X:Cx}{γb:Type}[Membership Nat γb]{bad:γb}{all:Array Oper}{K:Act→World→Prop}{Q:Exit→Act→World→Prop}
variable{σ:bI}{μ:aC}{Ds:List aA}{os:List (Bool×Nat)}{fl:Bool}{ix:Nat}
variable{d:Nat}{x y z:Operand}{u v:Value}{ty:TypeId}{pos:String}{aft:Array Edge}{g:Option (Nat×Bool)}
def DH(P:Program)(f:FuncId)(args:Array Value)(D:aA)(post:aA→Value→aC→Prop):Prop:=
 EF P f∧∀w,dX D w→Calls P f args w fun e w'=>∃v D' ν,e=.returned v∧fU (hd w) w.heap.size D [] ν D' w'∧post D' v ν
theorem lZ{f:FuncId}{fn:Func}{c:Code}{args:List Value}{D:aA}{post:aA→Value→aC→Prop}(N:Nat)(hf:P.funcs[f]?= some fn)(hn:(fn.name== "runtime.NumGoroutine")=false)(hb:fn.body=some c)(hN:fn.ntmps=N)(hsz:Nat.ble args.length N=true)
  (h:∀h0:H0,WC P ⟨none,N,[],h0,h0.size,D,[],none⟩ (bodyPost P fn (mV ⟨none,N,[],h0,h0.size,D,[],none⟩ post)) c (gN 0 args) [] [D]):DH P f args.toArray D post:=by
 refine⟨EF.of hf hn hb,fun w hw=>?_⟩;subst hN;have hsz:=aOE hsz;refine(dA (r:=none) (n:=0)).1 ((callsIn_of_wp (R:=mV ⟨none,fn.ntmps,[],hd w,w.heap.size,D,[],none⟩ post) hf hb cW (h (hd w) _ w ⟨?_,fun s v hs=>?_,rfl,D,⟨aMS _,aMS _,fun _ _ _=>rfl,fun _ _=>rfl,hw,(fun p hp=>by cases hp),aOH,(fun p hp=>by cases hp),fun e he=>aMY he⟩,fun D₁ h1=>?_,cW⟩) rfl).mono ?_)
 ·simp;omega
 ·obtain⟨_,h2⟩:=eK args 0 s v hs;have hl:=(aMH.1 h2).1;simp only[aPY]at h2 hl;show(args.toArray++_)[s]?= some v;rw[aOT Yan];simpa using h2
 ·simp only[aML]at h1;subst h1;exact Le.refl _
 ·rintro e w' ⟨v,D',μ',rfl,hs,hp⟩;exact⟨v,D',μ',rfl,hs,hp⟩
theorem fU.afterO{h0:H0}{lo:Nat}{D0 D D':aA}{mods:List Nat}{μ ν:aC}{w w':World}(h:fU h0 lo D0 mods μ D w)(hs:fU (hd w) w.heap.size D [] ν D' w'):fU h0 lo D0 mods (ν++μ) D' w':=by
 have h1:=h.after (hs.sub (μ':=[]) (fun p hp=>by cases hp) aOH);have hge:∀p∈ν,w.heap.size≤p.1:=fun p hp=>(hs.box p hp).2.2.resolve_right Ye
 refine⟨h1.hlo,h1.size,h1.old,h1.dold,h1.agr,fun p hp=>?_,?_,(fun p hp=>by rcases aMO.1 hp with hp|hp;exact hs.fz p hp;exact h.fz p hp),h1.env⟩
 ·rcases aMO.1 hp with hp|hp
  ·obtain⟨a,b,_⟩:=hs.box p hp;exact⟨a,b,aMR (aOU h.size (hge p hp))⟩
  ·exact h1.box p hp
 ·rw[aMP,aMJ];refine⟨hs.nd,h.nd,fun a ha b hb=>?_⟩;obtain⟨p,hp,rfl⟩:=aMB.1 ha;obtain⟨q,hq,rfl⟩:=aMB.1 hb;have:=hge p hp;have:=bE (h.box q hq).1;omega
theorem eV{c:Operand}{xs:Array Operand}{ats:Array TypeId}{f:FuncId}{c1 c2:List Value}{vs:List Value}{post:aA→Value→aC→Prop}(ho:all[ix]?= some ⟨some d,.call {callee:=.value c,args:=xs,argTypes:=ats},ty,pos,aft,g⟩)(hc:ev σ c=some (.func (.func f) c1.toArray c2.toArray))(hxs:P1 σ xs.toList=some vs)
  (hf:∀D,(∀D₁∈Ds,Le D₁ D)→DH P f (c1++vs++c2).toArray D post) (hN:Nat.blt d X.N=true) (hg:cY all σ g)
  (kk:∀v D ν,(∀D₁∈Ds,Le D₁ D)→post D v ν→WL P X bad all K Q os ((d,v)::σ) (ν++μ) (D::Ds)):
  WL P X bad all K Q ((fl,ix)::os) σ μ Ds:=by
 refine dP ho rfl rfl hg fun a w hh=>?_
 obtain⟨h1,h2,h3,D,h4,h5,h6⟩:=id hh;have hF:=hf D h5;rw[rK hF.1 (hh.eval hc) (iM (fun _ _ hx=>hh.eval hx) hxs)];refine⟨fun h=>by simp[FW]at h,dA.2 ((hF.2 w h4.agr).mono ?_)⟩;rintro e w' ⟨v,D',ν,rfl,hs,hpost⟩;have hle:=eZ h4.agr hs;refine⟨fun _=>hs.keep bad,kk v D' ν (fun D₁ hD₁=>(h5 D₁ hD₁).trans hle) hpost _ _ ?_⟩;refine Hl.put ⟨h1,h2,h3,D',h4.afterO hs,fun D₁ hD₁=>?_,h6.step (fun _ p hp=>?_) (fun _=>hs.low _) (h4.afterO hs).dom⟩ hN v
 ·rcases aLX.1 hD₁ with rfl|hD₁
  ·exact Le.refl _
  ·exact(h5 D₁ hD₁).trans hle
 ·rcases aMO.1 hp with hp|hp
  ·exact aMD ((hs.box p hp).2.2.resolve_right Ye)
  ·exact aMR (aMB.2 ⟨p,hp,rfl⟩)
theorem eH{t e:TypeId}{sz b o n cap:Nat}{k:IntKind}{i:Int}(ho:all[ix]?= some ⟨some d,.indexAddr t x y,ty,pos,aft,g⟩)(ht:P.underlying t=some (.slice e))(hs:TS P e sz)(hx:ev σ x=some (.slice (some ⟨b,o,none⟩) n cap))
  (hy:ev σ y=some (.int k i)) (h0:0≤i) (hi:i<n) (hN:Nat.blt d X.N=true) (hg:cY all σ g)
  (kk:WL P X bad all K Q os ((d,.pointer (some ⟨b,o+i.toNat*sz,none⟩))::σ) μ Ds):WL P X bad all K Q ((fl,ix)::os) σ μ Ds:=
 bO ho rfl rfl hN hg (fun ρ hρ w'=>by
  simp only[execOp,hρ x _ hx,hρ y _ hy];unfold Instr.indexAt asIntOf;simp only[Sem.run_bind,TU.of ht w',Result.andThen_ok,hs w',Sem.run_pure,pure_bind,h0,hi,aQV,aOJ,eO]) kk
theorem bM.some{e:TypeId}{sz n:Nat}{cells:List Value}{ν:aC}(h:bM e sz v n cells ν)(hn:0<n):∃b cap junk,v=.slice (some ⟨b,0,none⟩) n cap∧n≤cap∧ν=[(b,.cells (cells++junk).toArray e (0,0))]∧cells.length=n*sz∧(cells++junk).length=cap*sz:=by
 rcases h with⟨_,_,h0,_⟩|h
 ·omega
 ·exact h
end Go.Fs
namespace Go.Fs
namespace C2
open C1 (fP cD pZ oH)
structure Mk where
 frm:Int
 to:Int
 lo:Int
 hi:Int
deriving DecidableEq
structure aY where
 last:Int
 heights:List (Int×Int)
 step:Int
 levels:List Int
 marks:List Mk
def dW(n:Int):Bool:=fP n 0 99
def fO(r:Int×Int):Bool:=decide (r.1≤r.2)&&dW r.1&&dW r.2
def fD(r:Int×Int):Int:=r.2-r.1+1
def f7(last n:Int):Bool:=fP n 0 last
def oI(last a b:Int):Bool:=f7 last a&&f7 last b&&decide (a≤b)
def qI(last:Int)(m:Mk):Bool:=oI last m.frm m.to&&fO (m.lo,m.hi)
def mQ(hs:List (Int×Int)):Int:=hs.foldl (fun(m:Int) r=>min (m*fD r) 2001) 1
def kA(step:Int)(p:Option Int)(n:Int):Bool:=match p with
 |none=>true
 |some q=>fP (n-q) (-step) step
def gK(step:Int):List (Int×Int)→Option Int→List (List Int)
 | [],_=>[[]]
 |r::rs,p=>(List.range (fD r).toNat).flatMap fun(k:Nat)=>if kA step p (r.1+k)=true then(gK step rs (some (r.1+k))).map (fun l=>(r.1+(k:Int))::l)else []
def fK(t:aY):List (List Int):=gK t.step t.heights none
def aCZ(t:aY):Bool:=decide (t.last>9)||decide ((t.levels.length:Int)>6)||decide ((t.marks.length:Int)>5)
def aJH(t:aY):Bool:=decide (0≤t.last)&&decide ((t.heights.length:Int)=t.last+1)&&t.heights.all fO&&dW t.step&&t.levels.all dW&&t.marks.all (qI t.last)
def aU(t:aY):Int:=if aCZ t=true then 3 else if aJH t=false then 1 else if 2000<mQ t.heights then 3 else if fK t=[]then 9 else 0
def jQ(s:List Int)(a b:Int):Int:=oH ((s.drop a.toNat).take (b+1-a).toNat)
def lE(t:aY)(s:List Int):Bool:=t.marks.all fun m=>fP (jQ s m.frm m.to) m.lo m.hi
def zY(t:aY)(acc:List (List Int))(s:List Int):List (List Int):=if lE t s=false∨acc.getLast?= some s then acc else acc++[s]
def bL(t:aY):List (List Int):=(fK t).foldl (zY t) []
def kI(t:aY)(fine:Bool):Int:=if aU t≠0 then aU t else if fine=false then 2 else if bL t=[]then 11 else 0
def aKV(s:List Int)(i:Nat):Int:=s.getD i 0
def sI(t:aY)(i:Nat):Int×Int:=(pZ ((bL t).map (aKV · i)),oH ((bL t).map (aKV · i)))
def sU(s:List Int)(level:Int):Int:=((s.takeWhile fun n=>decide (n≤level)).length:Int)
def YQ(t:aY)(level:Int):Int×Int:=(pZ ((bL t).map (sU · level)),oH ((bL t).map (sU · level)))
def aKA(t:aY)(a b:Int):Int:=oH ((bL t).map (jQ · a b))
def cS(l:List Int):List Int:=l++List.replicate (10-l.length) 0
theorem eM{l:List Int}(h:l.length≤10):(cS l).length=10:=by simp[cS];omega
theorem HM{c l:List Int}(h2:c.take l.length=l)(h3:c.drop l.length=List.replicate (10-l.length) 0):cS l=c:=by
 unfold cS;rw[←h3]
 conv=>rhs;rw[←aPU l.length c,h2]
def FP(step:Int)(rs:List (Int×Int))(pre:List Int)(r:Int×Int)(k:Nat):List (List Int):=(List.range k).flatMap fun(m:Nat)=>if kA step pre.getLast? (r.1+m)=true then(gK step rs (some (r.1+m))).map (fun t=>cS (pre++(r.1+(m:Int))::t))else []
theorem VA{step:Int}{rs:List (Int×Int)}{pre:List Int}{r:Int×Int}:FP step rs pre r 0=[]:=rfl
theorem aGU{step:Int}{rs:List (Int×Int)}{pre:List Int}{r:Int×Int}{k:Nat}(h:kA step pre.getLast? (r.1+k)=false):FP step rs pre r (k+1)=FP step rs pre r k:=by
 unfold FP;rw[aOF,aND,aNT,aMM (by simp[h]),aME]
theorem NC{step:Int}{rs:List (Int×Int)}{pre:List Int}{r:Int×Int}{k:Nat}(h:kA step pre.getLast? (r.1+k)=true):FP step rs pre r (k+1)=FP step rs pre r k++(gK step rs ((pre++[r.1+(k:Int)]).getLast?)).map (fun t=>cS ((pre++[r.1+(k:Int)])++t)):=by
 unfold FP;rw[aOF,aND,aNT,aMT h,List.getLast?_concat];simp
theorem aLT{step:Int}{rs:List (Int×Int)}{pre:List Int}{r:Int×Int}:FP step rs pre r (fD r).toNat=(gK step (r::rs) pre.getLast?).map (fun t=>cS (pre++t)):=by
 unfold FP;simp only[gK];rw[List.map_flatMap]
 congr 1;funext m
 split<;>simp
theorem UL{step:Int}{rs:List (Int×Int)}{pre:List Int}{r:Int×Int}{k n:Nat}(hk:k<n):∃rr,FP step rs pre r n=FP step rs pre r (k+1)++rr:=by
 refine⟨((List.range n).drop (k+1)).flatMap fun(m:Nat)=>if kA step pre.getLast? (r.1+m)=true then(gK step rs (some (r.1+m))).map (fun t=>cS (pre++(r.1+(m:Int))::t))else [],?_⟩;unfold FP;rw[←aND];congr 1;have h:=aPU (k+1) (List.range n);rw[List.take_range,aQI Yd]at h;exact h.symm
theorem O8{step:Int}:∀(rs:List (Int×Int)) (p:Option Int) (t:List Int),t∈gK step rs p→t.length=rs.length
 | [],p,t,h=>by simp[gK]at h;subst h;rfl
 |r::rs,p,t,h=>by
  simp only[gK,aRG,aPF]at h;obtain⟨m,hm,h⟩:=h;split at h
  ·obtain⟨u,hu,rfl⟩:=aMB.1 h;rw[aMI,O8 rs _ u hu,aMI]
  ·cases h
theorem z6{step:Int}:∀(rs:List (Int×Int)) (p:Option Int) (t:List Int),(∀r∈rs,fO r=true)→t∈gK step rs p→∀x∈t,0≤x∧x≤99
 | [],p,t,_,h=>by simp[gK]at h;subst h;intro x hx;cases hx
 |r::rs,p,t,hr,h=>by
  simp only[gK,aRG,aPF]at h;obtain⟨m,hm,h⟩:=h;split at h
  ·obtain⟨u,hu,rfl⟩:=aMB.1 h;intro x hx;rcases aLX.1 hx with rfl|hx
   ·have h1:=hr r aMF;unfold fO dW at h1;simp only[aMC,aMV,cD]at h1;unfold fD at hm;omega
   ·exact z6 rs _ u (fun q hq=>hr q (aLZ _ hq)) hu x hx
  ·cases h
structure z8(t:aY):Prop where
 last:0≤t.last∧t.last≤9
 len:(t.heights.length:Int)=t.last+1
 step:0≤t.step∧t.step≤99
 hts:∀r∈t.heights,fO r=true
 lev:t.levels.length≤6
 levs:∀n∈t.levels,0≤n∧n≤99
 mks:t.marks.length≤5
 mark:∀m∈t.marks,qI t.last m=true
theorem aLQ{t:aY}(h1:aCZ t=false)(h2:aJH t=true):z8 t:=by
 unfold aCZ at h1;unfold aJH dW at h2;simp only[aOM,aNV]at h1;simp only[aMC,aMV,aMU,cD]at h2;obtain⟨⟨⟨⟨⟨h3,h4⟩,h5⟩,h6⟩,h7⟩,h8⟩:=h2;exact⟨by omega,h4,h6,h5,by omega,h7,by omega,h8⟩
theorem A1{t:aY}(h:aU t=0):z8 t:=by
 unfold aU at h;split at h
 ·omega
 ·rename_i h1;split at h
  ·omega
  ·rename_i h2;exact aLQ (by simpa using h1) (by simpa using h2)
theorem z8.len10{t:aY}(h:z8 t):t.heights.length≤10:=by have:=h.len;have:=h.last;omega

theorem ZP{s:List Int}{a k:Nat}(h:a+k≤s.length):((cS s).drop a).take k=(s.drop a).take k:=by
 unfold cS;rw[List.drop_append_of_le_length Yd,aNP Yah]
theorem tH{s:List Int}{a b:Int}(h0:0≤a)(h1:a≤b)(h2:b<s.length):jQ (cS s) a b=jQ s a b:=by
 unfold jQ;rw[ZP Yd]
theorem OK{last:Int}{m:Mk}(h:qI last m=true):0≤m.frm∧m.frm≤m.to∧m.to≤last∧0≤m.lo∧m.lo≤m.hi∧m.hi≤99:=by
 unfold qI oI f7 fO dW at h;simp only[aMC,aMV,cD]at h;omega
theorem OJ{t:aY}(ht:z8 t){s:List Int}(hs:(s.length:Int)=t.last+1):lE t (cS s)=lE t s:=by
 unfold lE;rw[aPR,aMU,aMU];constructor<;>intro h m hm<;>have h1:=OK (ht.mark m hm)<;>have h2:=h m hm
 ·rwa [tH Yd Yd Yd]at h2
 ·rwa [tH Yd Yd Yd]
theorem GX{l:List (List Int)}{pre us:List (List Int)}{x:List Int}(h:l.map cS=pre++x::us):∃s,l[pre.length]?= some s∧x=cS s∧s∈l∧l.take (pre.length+1)=l.take pre.length++[s]:=by
 have h1:(l.map cS)[pre.length]?= some x:=by rw[h];simp
 rw[aNB]at h1;obtain⟨s,hs,hx⟩:=aOZ.1 h1;exact⟨s,hs,hx.symm,aLW hs,by rw[aMN,hs];rfl⟩
def iB(t:aY)(k:Nat):List (List Int):=((fK t).take k).foldl (zY t) []
theorem xT(t:aY){k:Nat}(h:(fK t).length≤k):iB t k=bL t:=by unfold iB bL;rw[aNA h]
theorem Y1{t:aY}{k:Nat}{s:List Int}(h:(fK t).take (k+1)=(fK t).take k++[s]):iB t (k+1)=zY t (iB t k) s:=by
 unfold iB;rw[h,aOA];rfl
theorem aAC{t:aY}{acc:List (List Int)}{s:List Int}:∀u∈zY t acc s,u∈acc∨u=s:=by
 intro u hu;unfold zY at hu
 split at hu
 ·exact aMR hu
 ·simpa using hu
theorem j1{t:aY}:∀(l acc:List (List Int)),∀u∈l.foldl (zY t) acc,u∈acc∨u∈l
 | [],acc,u,h=>aMR h
 |s::l,acc,u,h=>by
  rcases j1 l (zY t acc s) u h with h|h
  ·rcases aAC u h with h|rfl
   ·exact aMR h
   ·exact aMD aMF
  ·exact aMD (aLZ _ h)
theorem d9{t:aY}:∀(l acc:List (List Int)),(l.foldl (zY t) acc).length≤acc.length+l.length
 | [],acc=>by simp
 |s::l,acc=>by
  have h1:=d9 (t:=t) l (zY t acc s);have h2:(zY t acc s).length≤acc.length+1:=by
   unfold zY;split
   ·omega
   ·simp
  rw[aOI,aMI];omega
theorem yE{t:aY}{k:Nat}{u:List Int}(h:u∈iB t k):u∈fK t:=by
 rcases j1 _ _ u h with h|h
 ·cases h
 ·exact aRD h
theorem FO(t:aY)(k:Nat):(iB t k).length≤(fK t).length:=by
 have h1:=d9 (t:=t) ((fK t).take k) [];have h2:=aQR k (fK t);rw[aON]at h1;unfold iB;simp only[aNX]at h1;omega
def pG:List (Int×Int)→Int
 | []=>1
 |r::l=>fD r*pG l
theorem Y3:∀(l:List (Int×Int)) (m:Int),(∀r∈l,fO r=true)→0≤m→l.foldl (fun(m:Int) r=>min (m*fD r) 2001) m≤2000→m*pG l≤2000∧1≤pG l
 | [],m,_,_,h=>by simpa [pG]using h
 |r::l,m,hr,hm,h=>by
  have h1:1≤fD r:=by
   have h1:=hr r aMF;unfold fO dW at h1;simp only[aMC,aMV,cD]at h1;unfold fD;omega
  have h2:0≤m*fD r:=Int.mul_nonneg hm Yd;rw[aOI]at h;obtain⟨h3,h4⟩:=Y3 l (min (m*fD r) 2001) (fun q hq=>hr q (aLZ _ hq)) Yd h;have h5:1≤fD r*pG l:=by
   have:=Int.mul_le_mul h1 h4 Yd Yd;omega
  refine⟨?_,h5⟩;show m*(fD r*pG l)≤2000;rw[←Int.mul_assoc];by_cases hc:m*fD r≤2001
  ·rwa [Int.min_eq_left hc]at h3
  ·rw[Int.min_eq_right Yd]at h3;omega
theorem jI{α β:Type}{f:α→List β}{n:Nat}:∀(l:List α),(∀x∈l,(f x).length≤n)→(l.flatMap f).length≤l.length*n
 | [],_=>by simp
 |x::l,h=>by
  have h1:=jI l fun y hy=>h y (aLZ _ hy)
  have h2:=h x aMF;rw[aNQ,aLY,aMI,aOR];omega
theorem sJ{step:Int}:∀(rs:List (Int×Int)) (p:Option Int),(∀r∈rs,fO r=true)→1≤pG rs∧((gK step rs p).length:Int)≤pG rs
 | [],p,_=>by simp[gK,pG]
 |r::rs,p,hr=>by
  have h1:1≤fD r:=by
   have h1:=hr r aMF;unfold fO dW at h1;simp only[aMC,aMV,cD]at h1;unfold fD;omega
  have h2:=sJ (step:=step) rs none fun q hq=>hr q (aLZ _ hq)
  have h3:(gK step (r::rs) p).length≤(List.range (fD r).toNat).length*(pG rs).toNat:=by
   simp only[gK];refine jI _ fun k _=>?_
   split
   ·rw[aOL];have:=(sJ (step:=step) rs (some (r.1+(k:Int))) fun q hq=>hr q (aLZ _ hq)).2;omega
   ·exact Nat.zero_le _
  rw[List.length_range]at h3;have h4:(((fD r).toNat*(pG rs).toNat:Nat):Int)=fD r*pG rs:=by
   rw[Int.natCast_mul,Int.toNat_of_nonneg Yd,Int.toNat_of_nonneg Yd]
  have h5:=Int.mul_le_mul h1 h2.1 Yd Yd;refine⟨?_,?_⟩
  ·show 1≤fD r*pG rs;omega
  ·show _≤fD r*pG rs;rw[←h4];exact Int.ofNat_le.2 h3
theorem CH{t:aY}(h:aU t=0):mQ t.heights≤2000:=by
 unfold aU at h;split at h
 ·omega
 ·split at h
  ·omega
  ·split at h
   ·omega
   ·omega
theorem H6{t:aY}(h:aU t=0):(fK t).length≤2000:=by
 have h1:=A1 h;have h2:=(sJ (step:=t.step) t.heights none h1.hts).2;have h3:=(Y3 t.heights 1 h1.hts Yd (CH h)).1;show(gK t.step t.heights none).length≤2000;omega
theorem lY{t:aY}{s:List Int}(h:s∈fK t):s.length=t.heights.length:=O8 _ _ _ h
def vY(l:List (List Int))(last:Int)(S:List (Int×Int)):Prop:=∀p,p∈S ↔∃s∈l,∃j:Nat,(j:Int)≤last∧p=((j:Int),s.getD j 0)
theorem vY.nil{last:Int}:vY [] last []:=fun p=>by simp
end C2
open C1 C2
def EY:Rd Mk:=fun _ m cs=>cs=[.int .i64 m.frm,.int .i64 m.to,.int .i64 m.lo,.int .i64 m.hi]
theorem EY.up:EY.Up:=fun _ _ _ h=>h
def I2:Rd (Int×Int):=fun _ p cs=>cs=[.int .i64 p.1,.int .i64 p.2]
theorem I2.up:I2.Up:=fun _ _ _ h=>h
def aJL(m:Mk):Value:=.agg #[.int .i64 m.frm,.int .i64 m.to,.int .i64 m.lo,.int .i64 m.hi]
def gI(D:aA)(v:Value)(t:aY):Prop:=∃hv lv mv,v=.agg #[.int .i64 t.last,hv,.int .i64 t.step,lv,mv]∧Sl D I2 2 hv t.heights∧Sl D RI 1 lv t.levels∧Sl D EY 4 mv t.marks
def V9:Rd (List Int):=fun _ l cs=>cs=ints (cS l)
theorem V9.up:V9.Up:=fun _ _ _ h=>h
def wW(l:List (List Int)):List Value:=l.flatMap fun s=>ints (cS s)
theorem FG{l:List (List Int)}(h:∀s∈l,s.length≤10):(wW l).length=l.length*10:=by
 induction l with
 |nil=>rfl
 |cons c l ih=>
  have:=ih fun s hs=>h s (aLZ _ hs)
  unfold wW at this ⊢
  rw[aNQ,aLY,this,aJ,eM (h c aMF),aMI];omega
theorem EE{l:List (List Int)}(h:∀s∈l,s.length≤10){i:Nat}{s:List Int}(hi:l[i]?= some s)(junk:List Value):((wW l++junk).drop (i*10)).take 10=ints (cS s):=by
 induction l generalizing i with
 |nil=>simp at hi
 |cons d l ih=>
  have h9:(ints (cS d)).length=10:=by rw[aJ,eM (h d aMF)]
  have hc:wW (d::l)=ints (cS d)++wW l:=rfl;rw[hc,aMK];cases i with
  |zero=>
   obtain rfl:d=s:=by simpa using hi
   rw[aQF,aPZ,aNP Yd,aNA Yd]
  |succ i=>
   rw[show(i+1)*10=(ints (cS d)).length+i*10 by omega,aQJ];exact ih (fun s hs=>h s (aLZ _ hs)) Yaj
theorem jY.seas{D:aA}{v:Value}{n:Nat}{l:List (List Int)}(hF:jY D v n (wW l))(hn:l.length=n)(hb:n≤9223372036854775807)(h:∀t∈l,t.length≤10):Sl D V9 10 v l:=
 hF.sl hn hb fun i t hi=>⟨Fs.ints (cS t),rfl,by rw[Fs.aJ,eM (h t (aLW hi))],by have:=EE h hi [];rwa [aME]at this⟩
theorem gI.up{D D':aA}{v:Value}{t:aY}(h:gI D v t)(hl:Le D D'):gI D' v t:=by
 obtain⟨hv,lv,mv,e,h1,h2,h3⟩:=h;exact⟨hv,lv,mv,e,h1.up I2.up hl,h2.up RI.up hl,h3.up EY.up hl⟩
end Go.Fs
namespace Go.Fs
namespace C3
open C1 (fP cD)
structure fE where
 kind:Int
 chair:Int
 token:Int
deriving DecidableEq
structure Cn where
 after:Int
 lo:Int
 hi:Int
deriving DecidableEq
structure aZ where
 chairs:Int
 coin:Int
 box:Int
 lines:List fE
 counts:List Cn
def sD(n:Int)(l:fE):Bool:=fP l.kind 0 2&&fP l.chair (-1) (n-1)&&fP l.token (-1) (n-1)
def mM(len:Int)(c:Cn):Bool:=fP c.after 0 len&&decide (0≤c.lo)&&decide (c.lo≤c.hi)&&decide (c.hi≤2000)
def eA(sign none lo hi:Int):List Int:=if sign≠none then [sign]else(List.range (hi+1-lo).toNat).map fun i:Nat=>lo+(i:Int)
def bR(n:Int)(l:fE):List fE:=(eA l.kind 0 1 2).flatMap fun k=>(eA l.chair (-1) 0 (n-1)).flatMap fun c=>(eA l.token (-1) 0 (n-1)).map fun t=>⟨k,c,t⟩
def wA(n:Int)(ls:List fE):Int:=ls.foldl (fun m l=>min (m*(bR n l).length) 4097) 1
def pW(b:aZ):Bool:=fP b.chairs 1 4&&fP b.coin 1 99&&fP b.box 0 999&&b.lines.all (sD b.chairs)&&b.counts.all (mM b.lines.length)
def aU(b:aZ):Int:=if 8<b.lines.length∨4<b.counts.length then 3 else if pW b=false then 1 else if 4096<wA b.chairs b.lines then 3 else 0
structure Sc where
 ch:List Int
 tk:List Int
 money:Int
 mixed:Int
deriving DecidableEq
def iI(s:Sc):List Int:=s.ch++s.tk++[s.money,s.mixed]
def kF(l:List Int)(i:Int):Int:=l.getD i.toNat 0
def eI(s:Sc)(l:fE):Bool:=(decide (kF s.ch l.chair≠0)==decide (l.kind=2))&&(decide (kF s.tk l.token≠0)==decide (l.kind=2))
def bW(b:aZ)(s:Sc)(i:Int)(l:fE):Sc:=
 if l.kind=2 then⟨s.ch.set l.chair.toNat 0,s.tk.set l.token.toNat 0,s.money-b.coin,if kF s.ch l.chair≠kF s.tk l.token then s.mixed+1 else s.mixed⟩
 else⟨s.ch.set l.chair.toNat (i+1),s.tk.set l.token.toNat (i+1),s.money+b.coin,s.mixed⟩
def eY(b:aZ)(s:Sc)(after:Int):Bool:=b.counts.all fun c=>decide (c.after≠after)||fP s.money c.lo c.hi
def eG(b:aZ):Sc:=⟨[0,0,0,0],[0,0,0,0],b.box,0⟩
def uH(b:aZ):List fE→Nat→Sc→List (List fE×List Sc)
 | [],i,s=>if eY b s i=true then [([],[s])]else []
 |l::ls,i,s=>if eY b s i=true then(bR b.chairs l).flatMap fun r=>if eI s r=true then(uH b ls (i+1) (bW b s i r)).map fun x=>(r::x.1,s::x.2)else []else []
def truths(b:aZ):List (List fE×List Sc):=uH b b.lines 0 (eG b)
def uQ(b:aZ)(fine:Bool):Int:=if aU b≠0 then aU b else if fine=false then 2 else if truths b=[]then 11 else 0
def aGJ(ss:List Sc)(k:Nat):Sc:=ss.getD k ⟨[],[],0,0⟩
end C3
open C1 C3
def pB:Rd fE:=fun _ l cs=>cs=[.int .i64 l.kind,.int .i64 l.chair,.int .i64 l.token]
theorem pB.up:pB.Up:=fun _ _ _ h=>h
def qQ:Rd Cn:=fun _ c cs=>cs=[.int .i64 c.after,.int .i64 c.lo,.int .i64 c.hi]
theorem qQ.up:qQ.Up:=fun _ _ _ h=>h
def DY(l:fE):Value:=.agg #[.int .i64 l.kind,.int .i64 l.chair,.int .i64 l.token]
def aGT(c:Cn):Value:=.agg #[.int .i64 c.after,.int .i64 c.lo,.int .i64 c.hi]
def fJ(D:aA)(v:Value)(b:aZ):Prop:=∃lv cv,v=.agg #[.int .i64 b.chairs,.int .i64 b.coin,.int .i64 b.box,lv,cv]∧Sl D pB 3 lv b.lines∧Sl D qQ 3 cv b.counts
theorem fJ.up{D D':aA}{v:Value}{b:aZ}(h:fJ D v b)(hl:Le D D'):fJ D' v b:=by
 obtain⟨lv,cv,e,h1,h2⟩:=h;exact⟨lv,cv,e,h1.up pB.up hl,h2.up qQ.up hl⟩
def GO(s:Sc):Value:=.agg (ints (iI s)).toArray
def FQ:Rd Sc:=fun _ s cs=>cs=ints (iI s)
theorem FQ.up:FQ.Up:=fun _ _ _ h=>h
end Go.Fs
namespace Go.Fs.C3
open C1 (fP cD)

theorem QW{sign none lo hi x:Int}:x∈eA sign none lo hi ↔ (sign≠none∧x=sign)∨(sign=none∧lo≤x∧x≤hi):=by
 unfold eA;by_cases h:sign=none
 ·rw[aMM Yam,aMB];constructor
  ·rintro⟨i,hi',rfl⟩;have:=aPF.1 hi';exact aMD ⟨h,by omega,by omega⟩
  ·rintro(⟨h1,_⟩|⟨_,h1,h2⟩)
   ·exact absurd h h1
   ·exact⟨(x-lo).toNat,aPF.2 Yd,by omega⟩
 ·rw[aMT h];simp[h]
def KJ(l x:fE):Bool:=(decide (l.kind=0)||decide (l.kind=x.kind))&&(decide (l.chair<0)||decide (l.chair=x.chair))&&(decide (l.token<0)||decide (l.token=x.token))
def aGI(n:Int)(x:fE):Prop:=(x.kind=1∨x.kind=2)∧0≤x.chair∧x.chair<n∧0≤x.token∧x.token<n
theorem nR{n:Int}{l x:fE}(hl:sD n l=true):x∈bR n l ↔ aGI n x∧KJ l x=true:=by
 unfold sD at hl;simp only[aMC,cD]at hl;unfold bR aGI KJ;simp only[aRG,aMB,QW,aMC,aNR,aMV];constructor
 ·rintro⟨k,hk,c,hc,t,ht,rfl⟩;simp only;omega
 ·rintro⟨⟨h1,h2,h3,h4,h5⟩,⟨h6,h7⟩,h8⟩;refine⟨x.kind,by omega,x.chair,by omega,x.token,by omega,rfl⟩
structure BH(b:aZ)(s:Sc):Prop where
 lc:s.ch.length=4
 lt:s.tk.length=4
 pc:∀x∈s.ch,0≤x∧x≤8
 pt:∀x∈s.tk,0≤x∧x≤8
def AH(l:List Int):Int:=((l.filter fun x=>decide (x≠0)).length:Int)
end Go.Fs.C3
namespace Go.Fs.C3
open C1 (fP cD)
def eX(b:aZ):List fE→Nat→Sc→Bool
 | [],i,s=>eY b s i
 |l::ls,i,s=>eY b s i&&(bR b.chairs l).any fun r=>eI s r&&eX b ls (i+1) (bW b s i r)
theorem HL{α β:Type}{l:List α}{f:α→List β}:l.flatMap f≠[] ↔∃x∈l,f x≠[]:=by
 rw[Ne,List.flatMap_eq_nil_iff];simp
theorem BL(b:aZ):∀(ls:List fE) (i:Nat) (s:Sc),eX b ls i s=true ↔ uH b ls i s≠[]
 | [],i,s=>by
  unfold eX uH;cases eY b s i<;>simp
 |l::ls,i,s=>by
  unfold eX uH;cases eY b s i with
  |false=>simp
  |true=>
   rw[aPM,aPT,aMT rfl,HL];refine exists_congr fun r=>and_congr_right fun _=>?_
   rw[aMC,BL b ls];cases eI s r<;>simp
theorem tT(b:aZ):eX b b.lines 0 (eG b)=decide (truths b≠[]):=by
 rw[aPR,BL,aMV];rfl

def tD(l:List Int):List Int:=l.map fun x=>min x 1
theorem ES(l:List Int):(tD l).length=l.length:=aOL _
theorem yL(l:List Int)(k:Nat)(x:Int):tD (l.set k x)=(tD l).set k (min x 1):=List.map_set
theorem uV{l:List Int}(h:∀x∈l,0≤x)(c:Int):(kF l c≠0) ↔ kF (tD l) c≠0:=by
 unfold kF tD;rw[aOB,aOB,aNB];cases e:l[c.toNat]? with
 |none=>simp
 |some x=>
  have:=h x (aLW e);simp only[aNN,aPG];omega
structure aLA(s s':Sc):Prop where
 ch:tD s.ch=tD s'.ch
 tk:tD s.tk=tD s'.tk
 money:s.money=s'.money
structure TM(s:Sc):Prop where
 ch:∀x∈s.ch,0≤x
 tk:∀x∈s.tk,0≤x
theorem aCL{s s':Sc}(h:aLA s s')(hp:TM s)(hp':TM s')(l:fE):eI s l=eI s' l:=by
 unfold eI;have e1:decide (kF s.ch l.chair≠0)=decide (kF s'.ch l.chair≠0):=decide_eq_decide.2 (by rw[uV hp.ch,uV hp'.ch,h.ch]);have e2:decide (kF s.tk l.token≠0)=decide (kF s'.tk l.token≠0):=decide_eq_decide.2 (by rw[uV hp.tk,uV hp'.tk,h.tk]);rw[e1,e2]
theorem WM{b:aZ}{s s':Sc}(h:aLA s s')(i:Nat)(l:fE):aLA (bW b s i l) (bW b s' i l):=by
 unfold bW;split
 ·exact⟨by simp only[yL,h.ch],by simp only[yL,h.tk],by simp only[h.money]⟩
 ·exact⟨by simp only[yL,h.ch],by simp only[yL,h.tk],by simp only[h.money]⟩
theorem J6{l:List Int}(h:∀x∈l,0≤x)(k:Nat){y:Int}(hy:0≤y):∀x∈l.set k y,0≤x:=fun x hx=>by
 rcases aRE hx with hx|rfl
 ·exact h x hx
 ·exact hy
theorem mU{b:aZ}{s:Sc}(h:TM s)(i:Nat)(l:fE):TM (bW b s i l):=by
 unfold bW;split
 ·exact⟨J6 h.ch _ Yd,J6 h.tk _ Yd⟩
 ·exact⟨J6 h.ch _ Yd,J6 h.tk _ Yd⟩
theorem CX(b:aZ):∀(ls:List fE) (i:Nat) (s s':Sc),aLA s s'→TM s→TM s'→eX b ls i s=eX b ls i s'
 | [],i,s,s',h,_,_=>by unfold eX eY;rw[h.money]
 |l::ls,i,s,s',h,hp,hp'=>by
  unfold eX;have e:eY b s i=eY b s' i:=by unfold eY;rw[h.money]
  rw[e];congr 1;refine aMQ _ (funext fun r=>?_);rw[aCL h hp hp',CX b ls (i+1) _ _ (WM h i r) (mU hp i r) (mU hp' i r)]

theorem AX{l:List Int}{k:Nat}(hk:k<l.length)(y:Int):AH (l.set k y)=AH l-(if l.getD k 0≠0 then 1 else 0)+(if y≠0 then 1 else 0):=by
 induction l generalizing k with
 |nil=>simp at hk
 |cons x l ih=>
  cases k with
  |zero=>
   unfold AH;simp only[List.set_cons_zero,aPS,List.getD_cons_zero,aMV];split<;>split<;>simp<;>omega
  |succ k=>
   have:=ih (k:=k) (by simpa using hk);unfold AH at this ⊢
   simp only[List.set_cons_succ,aPS,List.getD_cons_succ];split
   ·simp only[aMI];push_cast;omega
   ·exact this
def Q8(b:aZ)(s:Sc):Prop:=s.money=b.box+b.coin*AH s.ch
theorem NJ{l m:List Int}(h:tD l=tD m)(hl:∀x∈l,0≤x)(hm:∀x∈m,0≤x):AH l=AH m:=by
 induction l generalizing m with
 |nil=>
  cases m with
  |nil=>rfl
  |cons y m=>simp[tD]at h
 |cons x l ih=>
  cases m with
  |nil=>simp[tD]at h
  |cons y m=>
   simp only[tD,aMZ,aOC]at h;have:=ih h.2 (fun x hx=>hl x (aLZ _ hx)) fun x hx=>hm x (aLZ _ hx)
   have h1:=hl x aMF;have h2:=hm y aMF;unfold AH at this ⊢
   simp only[aPS,aMV];have e:x≠0 ↔ y≠0:=by have:=h.1;omega
   by_cases hx:x≠0
   ·rw[aMT hx,aMT (e.1 hx)];simp only[aMI];push_cast;omega
   ·rw[aMM hx,aMM fun hy=>hx (e.2 hy)];exact this
theorem qS{b:aZ}{s:Sc}(h:Q8 b s)(h4:s.ch.length=4){i:Nat}{l:fE}(hc:eI s l=true)(h0:0≤l.chair)(h1:l.chair<4):Q8 b (bW b s i l):=by
 unfold eI at hc;simp only[aMC,aQZ,decide_eq_decide]at hc;have hk:l.chair.toNat<s.ch.length:=by omega
 unfold Q8 at h ⊢
 unfold bW;have hg:s.ch.getD l.chair.toNat 0=kF s.ch l.chair:=rfl;by_cases e:l.kind=2
 ·rw[aMT e];simp only;rw[AX hk,hg,aMT (hc.1.2 e),aMM Yd,h,Int.mul_add,Int.mul_sub];omega
 ·rw[aMM e];simp only;rw[AX hk,hg,aMM fun hh=>e (hc.1.1 hh),aMT Yd,h,Int.mul_add,Int.mul_sub];omega
theorem zZ(b:aZ):Q8 b (eG b):=by unfold Q8 eG AH;simp
def ZM(s:Sc)(i:Nat):List Int:=(i:Int)::(tD s.ch++tD s.tk)
theorem VR{b:aZ}{ls:List fE}{i i':Nat}{s s':Sc}(e:ZM s i=ZM s' i')(h:Q8 b s)(h':Q8 b s')(hp:TM s)(hp':TM s')(h4:s.ch.length=4)(h4':s'.ch.length=4):i=i'∧eX b ls i s=eX b ls i' s':=by
 unfold ZM at e;rw[aOC]at e;obtain⟨e1,e2⟩:=e;obtain⟨e3,e4⟩:=List.append_inj e2 (by rw[ES,ES];omega)
 have hi:i=i':=by omega
 subst hi;refine⟨rfl,CX b ls i s s' ⟨e3,e4,?_⟩ hp hp'⟩;unfold Q8 at h h';rw[h,h',NJ e3 hp.ch hp'.ch]
end Go.Fs.C3
namespace Go.Fs
variable{P:Program}{X:Cx}{γb:Type}[Membership Nat γb]{bad:γb}{all:Array Oper}{K:Act→World→Prop}{Q:Exit→Act→World→Prop}
variable{σ:bI}{μ:aC}{Ds:List aA}{os:List (Bool×Nat)}{fl:Bool}{ix:Nat}
variable{d:Nat}{x y z:Operand}{u v:Value}{ty:TypeId}{pos:String}{aft:Array Edge}{g:Option (Nat×Bool)}
variable{k':IntKind}{m n:Nat}{t t':TypeId}
def oX(m n:Nat):Nat:=m ^^^ (m&&&n)
theorem J9(m n i:Nat):(oX m n).testBit i=(m.testBit i&& !n.testBit i):=by
 unfold oX;rw[Nat.testBit_xor,Nat.testBit_and];cases m.testBit i<;>cases n.testBit i<;>rfl
theorem xD(m n:Nat):oX m n≤m:=by
 apply Nat.le_of_testBit;intro i hi;rw[J9]at hi;simp at hi;exact hi.1
theorem rO{m:Nat}(h:m<9223372036854775808):(BitVec.ofInt IntKind.i64.bits (m:Int)).toNat=m:=by
 rw[BitVec.ofInt_natCast,BitVec.toNat_ofNat];exact Nat.mod_eq_of_lt (by show m<2^64;omega)
theorem aHZ{m n:Nat}(h:m<9223372036854775808):m&&&n<9223372036854775808:=Nat.lt_of_le_of_lt Nat.and_le_left h
theorem aJQ{m n:Nat}(h:m<9223372036854775808)(h':n<9223372036854775808):m|||n<9223372036854775808:=Nat.or_lt_two_pow (n:=63) h h'
theorem aIM(ho:all[ix]?= some ⟨some d,.binOp .and t x y t',ty,pos,aft,g⟩)(hx:ev σ x=some (.int .i64 (m:Int)))(hy:ev σ y=some (.int .i64 (n:Int)))(hm:m<9223372036854775808)(hn:n<9223372036854775808)(hN:Nat.blt d X.N=true)(hg:cY all σ g)
  (kk:WL P X bad all K Q os ((d,.int .i64 ((m&&&n:Nat):Int))::σ) μ Ds):WL P X bad all K Q ((fl,ix)::os) σ μ Ds:=
 bO ho rfl rfl hN hg (fun ρ hρ w'=>iT Ye (by
  have e:(BitVec.ofInt IntKind.i64.bits (m:Int)&&&BitVec.ofInt IntKind.i64.bits (n:Int)).toNat=m&&&n:=by rw[BitVec.toNat_and,rO hm,rO hn]
  have h2:=aHZ (n:=n) hm;have h3:rM .i64 ((m&&&n:Nat):Int):=by simp only[rM];omega
  simp only[binOp,ne_eq,not_true_eq_false,aOP,Op.intBits,e,lH h3];rfl) (hρ x _ hx) (hρ y _ hy)) kk
theorem LH(ho:all[ix]?= some ⟨some d,.binOp .or t x y t',ty,pos,aft,g⟩)(hx:ev σ x=some (.int .i64 (m:Int)))(hy:ev σ y=some (.int .i64 (n:Int)))(hm:m<9223372036854775808)(hn:n<9223372036854775808)(hN:Nat.blt d X.N=true)(hg:cY all σ g)
  (kk:WL P X bad all K Q os ((d,.int .i64 ((m|||n:Nat):Int))::σ) μ Ds):WL P X bad all K Q ((fl,ix)::os) σ μ Ds:=
 bO ho rfl rfl hN hg (fun ρ hρ w'=>iT Ye (by
  have e:(BitVec.ofInt IntKind.i64.bits (m:Int)|||BitVec.ofInt IntKind.i64.bits (n:Int)).toNat=m|||n:=by rw[BitVec.toNat_or,rO hm,rO hn]
  have h2:=aJQ hm hn;have h3:rM .i64 ((m|||n:Nat):Int):=by simp only[rM];omega
  simp only[binOp,ne_eq,not_true_eq_false,aOP,Op.intBits,e,lH h3];rfl) (hρ x _ hx) (hρ y _ hy)) kk
theorem WQ(ho:all[ix]?= some ⟨some d,.binOp .andNot t x y t',ty,pos,aft,g⟩)(hx:ev σ x=some (.int .i64 (m:Int)))(hy:ev σ y=some (.int .i64 (n:Int)))(hm:m<9223372036854775808)(hn:n<9223372036854775808)(hN:Nat.blt d X.N=true)(hg:cY all σ g)
  (kk:WL P X bad all K Q os ((d,.int .i64 ((oX m n:Nat):Int))::σ) μ Ds):WL P X bad all K Q ((fl,ix)::os) σ μ Ds:=
 bO ho rfl rfl hN hg (fun ρ hρ w'=>iT Ye (by
  have e:(BitVec.ofInt IntKind.i64.bits (m:Int)&&& ~~~ BitVec.ofInt IntKind.i64.bits (n:Int)).toNat=oX m n:=by
   apply Nat.eq_of_testBit_eq;intro i;rw[J9,BitVec.testBit_toNat,BitVec.getLsbD_and,BitVec.getLsbD_not,←BitVec.testBit_toNat,←BitVec.testBit_toNat,rO hm,rO hn];by_cases hi:i<IntKind.i64.bits
   ·simp[hi]
   ·have:m.testBit i=false:=Nat.testBit_lt_two_pow (aOQ hm (aOU (show 9223372036854775808≤2^64 by decide) (aPQ Yu (show 64≤i from Nat.le_of_not_lt hi))));simp[this]
  have h2:=xD m n;have h3:rM .i64 ((oX m n:Nat):Int):=by simp only[rM];omega
  simp only[binOp,ne_eq,not_true_eq_false,aOP,Op.intBits,e,lH h3];rfl) (hρ x _ hx) (hρ y _ hy)) kk
theorem JK{a b:Int}(ho:all[ix]?= some ⟨some d,.binOp .or t x y t',ty,pos,aft,g⟩)(hx:ev σ x=some (.int .i64 a))(hy:ev σ y=some (.int .i64 b))(ha:0≤a∧a≤1)(hb:0≤b∧b≤1)(hN:Nat.blt d X.N=true)(hg:cY all σ g)
  (kk:WL P X bad all K Q os ((d,.int .i64 (max a b))::σ) μ Ds):WL P X bad all K Q ((fl,ix)::os) σ μ Ds:=by
 have h1:a=((a.toNat:Nat):Int):=by omega
 have h2:b=((b.toNat:Nat):Int):=by omega
 have h3:max a b=((a.toNat|||b.toNat:Nat):Int):=by
  have ha':a=0∨a=1:=by omega
  have hb':b=0∨b=1:=by omega
  rcases ha' with rfl|rfl<;>rcases hb' with rfl|rfl<;>decide
 rw[h3]at kk;rw[h1]at hx;rw[h2]at hy;exact LH ho hx hy Yd Yd hN hg kk
theorem aFW{k:IntKind}{a:Int}(ho:all[ix]?= some ⟨some d,.unOp .neg t x,ty,pos,aft,g⟩)(hx:ev σ x=some (.int k a))(hr:rM k (-a))(hN:Nat.blt d X.N=true)(hg:cY all σ g)
  (kk:WL P X bad all K Q os ((d,.int k (-a))::σ) μ Ds):WL P X bad all K Q ((fl,ix)::os) σ μ Ds:=
 bO ho rfl rfl hN hg (fun ρ hρ w'=>by
  have h2:(0:Int)-a= -a:=by omega
  simp only[execOp,hρ x _ hx,Op.unary,Op.intArith,h2,lH hr];rfl) kk
theorem O7{t e:TypeId}{n sz:Nat}{parts:Array (Nat×Operand)}{us:List (Nat×Value)}{zs cs:List Value}(ho:all[ix]?= some ⟨some d,.build t parts,ty,pos,aft,g⟩)(ht:P.underlying t=some (.array n e))(hs:TS P e sz)(hz:TZ P t (.agg zs.toArray))(hu:S9 σ parts.toList=some us)
  (hf:Instr.fill (fun i=>some (i*sz,sz)) zs.toArray us=some cs.toArray) (hN:Nat.blt d X.N=true) (hg:cY all σ g) (kk:WL P X bad all K Q os ((d,.agg cs.toArray)::σ) μ Ds):WL P X bad all K Q ((fl,ix)::os) σ μ Ds:=
 bO ho rfl rfl hN hg (fun ρ hρ w'=>by
  have e:(parts.map fun(i,x)=>(i,ρ x)).toList=us:=by rw[←rJ hρ hu];simp
  simp only[execOp,Instr.build,Sem.run_bind,hz w',Result.andThen_ok,TU.of ht w',hs w',Value.cells,e,hf,Sem.run_pure]) kk
theorem RO{op:BinOp}(he:op=.shl∨op=.shr){k:IntKind}{a b:Int}{w:World}{r:Value}(h:(Op.shift op k a k' b).run P w=.ok r w){ρ:Operand→Value}(hx:ρ x=.int k a)(hy:ρ y=.int k' b):
  (execOp ρ ⟨some d,.binOp op t x y t',ty,pos,aft,g⟩).run P w=.ok (.value r) w:=by
 rcases he with rfl|rfl<;>simp[execOp,hx,hy,binOp,h,go_sem]
theorem S6(ho:all[ix]?= some ⟨some d,.binOp .shr t x y t',ty,pos,aft,g⟩)(hx:ev σ x=some (.int .i64 (m:Int)))(hy:ev σ y=some (.int k' (n:Int)))(hn:n≤62)(hN:Nat.blt d X.N=true)(hg:cY all σ g)
  (kk:WL P X bad all K Q os ((d,.int .i64 ((m >>> n:Nat):Int))::σ) μ Ds):WL P X bad all K Q ((fl,ix)::os) σ μ Ds:=
 bO ho rfl rfl hN hg (fun ρ hρ w'=>RO (aMD rfl) (by
  have h1:¬((n:Int)<0):=by omega
  have h2:min (n:Int).toNat IntKind.i64.bits=n:=by rw[aNO];exact aQI (aOU hn Yu)
  have h3:(m:Int).fdiv (2^n)=((m >>> n:Nat):Int):=by
   rw[Nat.shiftRight_eq_div_pow,Int.fdiv_eq_ediv_of_nonneg _ (by exact_mod_cast Nat.zero_le (2^n))];simp
  simp only[Op.shift,h1,aOP,h2,h3];rfl) (hρ x _ hx) (hρ y _ hy)) kk
theorem kK(m n:Nat):((m >>> n:Nat):Int)%2=if m.testBit n then 1 else 0:=by
 rw[Nat.testBit,Nat.one_and_eq_mod_two];have:=Nat.mod_two_eq_zero_or_one (m >>> n);rcases this with h|h
 ·have:((m >>> n:Nat):Int)%2=0:=by omega
  rw[this];simp[h]
 ·have:((m >>> n:Nat):Int)%2=1:=by omega
  rw[this];simp[h]
end Go.Fs
namespace Go.Fs
namespace C7
structure Pt where
 a:Int
 b:Int
 c:Int
deriving DecidableEq
structure Ch where
 size:Int
 parts:Pt
structure bJ where
 chairs:List Ch
 fit:Int
 claims:List (Int×Int)
def Pt.l(p:Pt):List Int:=[p.a,p.b,p.c]
def fP(n lo hi:Int):Bool:=decide (lo≤n)&&decide (n≤hi)
theorem cD{n lo hi:Int}:fP n lo hi=true ↔ lo≤n∧n≤hi:=by simp[fP]
def LQ(p:Pt)(m:Int):Bool:=p.l.all fun n=>fP n 0 m
def iF(c:Ch):Bool:=fP c.size 0 9&&LQ c.parts 2
def lC(r:Int×Int):Bool:=(decide (0≤r.1)&&decide (r.1≤r.2))&&decide (r.2≤7)
def aIE(p:Pt):Nat:=(p.l.filter fun n=>decide (n=2)).length
def iZ(l:List Ch):Nat:=(l.map fun c=>aIE c.parts).sum
def wN(y:bJ):Bool:=(fP y.fit 0 9&&y.chairs.all iF)&&y.claims.all lC
def aU(y:bJ):Int:=if 7<y.chairs.length∨5<y.claims.length then 3 else if wN y=false then 1 else if 8<iZ y.chairs then 3 else 0
def B4(n t:Int):Bool:=fP t 0 1&&(decide (n=2)||decide (t=n))
def KY(p t:Pt):Bool:=(p.l.zip t.l).all fun x=>B4 x.1 x.2
def nM(y:bJ)(t:List Pt):Bool:=decide (t.length=y.chairs.length)&&(y.chairs.zip t).all fun x=>KY x.1.parts x.2
def iY(p:Pt):Bool:=decide (p=⟨1,1,1⟩)
def whole(t:List Pt):Nat:=(t.filter iY).length
end C7
open C7
def aKU(p:Pt):Value:=.agg #[.int .i64 p.a,.int .i64 p.b,.int .i64 p.c]
def aJN(c:Ch):Value:=.agg #[.int .i64 c.size,.int .i64 c.parts.a,.int .i64 c.parts.b,.int .i64 c.parts.c]
def RP:Rd Pt:=fun _ p cs=>cs=[.int .i64 p.a,.int .i64 p.b,.int .i64 p.c]
theorem RP.up:RP.Up:=fun _ _ _ h=>h
def sK:Rd Ch:=fun _ c cs=>cs=[.int .i64 c.size,.int .i64 c.parts.a,.int .i64 c.parts.b,.int .i64 c.parts.c]
theorem sK.up:sK.Up:=fun _ _ _ h=>h
def R2:Rd (Int×Int):=fun _ p cs=>cs=[.int .i64 p.1,.int .i64 p.2]
theorem R2.up:R2.Up:=fun _ _ _ h=>h
def kR(D:aA)(v:Value)(y:bJ):Prop:=∃cv rv,v=.agg #[cv,.int .i64 y.fit,rv]∧Sl D sK 4 cv y.chairs∧Sl D R2 2 rv y.claims
theorem kR.up{D D':aA}{v:Value}{y:bJ}(h:kR D v y)(hl:Le D D'):kR D' v y:=by
 obtain⟨cv,rv,hv,hc,hr⟩:=h;exact⟨cv,rv,hv,hc.up sK.up hl,hr.up R2.up hl⟩
end Go.Fs
namespace Go.Fs
variable{P:Program}{X:Cx}{γb:Type}[Membership Nat γb]{bad:γb}{all:Array Oper}{K:Act→World→Prop}{Q:Exit→Act→World→Prop}
variable{σ:bI}{μ:aC}{Ds:List aA}{os:List (Bool×Nat)}{fl:Bool}{ix:Nat}
variable{d:Nat}{x y z:Operand}{u v:Value}{ty:TypeId}{pos:String}{aft:Array Edge}{g:Option (Nat×Bool)}
abbrev aC.ks(μ:aC):List Nat:=μ.map fun p=>p.1
def T1(P:Program)(f:FuncId)(args:List Value)(D:aA)(ν:aC)(post:aA→Value→aC→Prop):Prop:=
 EF P f∧∀w,dX D w→(∀p∈ν,w.heap[p.1]?= some p.2∧D p.1=[]∧cQ p.2)→ν.ks.Nodup→Calls P f args.toArray w fun e w'=>∃v D' ν',e=.returned v∧ν'.ks=ν.ks∧fU (hd w) w.heap.size D ν.ks ν' D' w'∧post D' v ν'
theorem fU.afterM{h0:H0}{lo:Nat}{D0 D D':aA}{mods:List Nat}{A B ν ν':aC}{w w':World}(h:fU h0 lo D0 mods (A++ν++B) D w)(hk:ν'.ks=ν.ks)(hs:fU (hd w) w.heap.size D ν.ks ν' D' w'):fU h0 lo D0 mods (A++ν'++B) D' w':=by
 have hle:=aOU h.hlo h.size;have hin:∀c∈ν.ks,∃o,(c,o)∈ν:=fun c hc=>by
  obtain⟨p,hp,rfl⟩:=aMB.1 hc;exact⟨p.2,hp⟩
 have hbx:∀p∈ν,_:=fun p hp=>h.box p (aMG _ (aMA _ hp))
 have hnd:=h.nd;simp only[aMP]at hnd;have keys:(A++ν'++B).map (fun p=>p.1)=(A++ν++B).map (fun p=>p.1):=by
  simp only[aMP];rw[show ν'.map (fun p=>p.1)=ν.map (fun p=>p.1)from hk]
 refine⟨h.hlo,aOU h.size hs.size,fun c hc hm=>?_,fun c hc=>?_,hs.agr,fun p hp=>?_,by rw[keys];exact h.nd,fun p hp=>?_,fun e he=>(hs.env _ rfl).trans (h.env e he)⟩
 ·have hne:c∉ν.ks:=by
   intro hcm;obtain⟨o,ho⟩:=hin c hcm;rcases(hbx _ ho).2.2 with h'|h'
   ·have:=h.hlo;simp at h';omega
   ·exact hm h'
  rw[hs.old c (aOQ hc hle) hne];exact h.old c hc hm
 ·rw[hs.dold c (aOQ hc hle)];exact h.dold c hc
 ·rcases aMO.1 hp with hp|hp
  ·rcases aMO.1 hp with hp|hp
   ·obtain⟨h1,h2,h3⟩:=h.box p (aMG _ (aMG _ hp));have hl:=bE h1;have hne:p.1∉ν.ks:=fun hm=>(aMJ.1 (aMJ.1 hnd).1).2.2 p.1 (aMB.2 ⟨p,hp,rfl⟩) p.1 hm rfl
    exact⟨by rw[hs.old _ hl hne];exact h1,by rw[hs.dold _ hl];exact h2,h3⟩
   ·obtain⟨q1,q2,_⟩:=hs.box p hp;have hm:p.1∈ν.ks:=by rw[←hk];exact aMB.2 ⟨p,hp,rfl⟩
    obtain⟨o,ho⟩:=hin p.1 hm;exact⟨q1,q2,(hbx _ ho).2.2⟩
  ·obtain⟨h1,h2,h3⟩:=h.box p (aMA _ hp);have hl:=bE h1;have hne:p.1∉ν.ks:=fun hm=>(aMJ.1 hnd).2.2 p.1 (aMA _ hm) p.1 (aMB.2 ⟨p,hp,rfl⟩) rfl
   exact⟨by rw[hs.old _ hl hne];exact h1,by rw[hs.dold _ hl];exact h2,h3⟩
 ·rcases aMO.1 hp with hp|hp
  ·rcases aMO.1 hp with hp|hp
   ·exact h.fz p (aMG _ (aMG _ hp))
   ·exact hs.fz p hp
  ·exact h.fz p (aMA _ hp)
theorem dL{c:Operand}{xs:Array Operand}{ats:Array TypeId}{f:FuncId}{c1 c2:List Value}{vs:List Value}{A B ν:aC}{post:aA→Value→aC→Prop}(ho:all[ix]?= some ⟨some d,.call {callee:=.value c,args:=xs,argTypes:=ats},ty,pos,aft,g⟩)(hc:ev σ c=some (.func (.func f) c1.toArray c2.toArray))(hxs:P1 σ xs.toList=some vs)
  (hex:X.ex=none) (hfl:fl=false∨∀p∈ν,p.1∈bad) (hu:∀p∈ν,cQ p.2) (hf:∀D,(∀D₁∈Ds,Le D₁ D)→T1 P f (c1++vs++c2) D ν post) (hN:Nat.blt d X.N=true) (hg:cY all σ g)
  (kk:∀v D ν',(∀D₁∈Ds,Le D₁ D)→post D v ν'→WL P X bad all K Q os ((d,v)::σ) (A++ν'++B) (D::Ds)):
  WL P X bad all K Q ((fl,ix)::os) σ (A++ν++B) Ds:=by
 refine dP ho rfl rfl hg fun a w hh=>?_
 obtain⟨h1,h2,h3,D,h4,h5,h6⟩:=id hh;have hF:=hf D h5;have hbx:∀p∈ν,_:=fun p hp=>h4.box p (aMG _ (aMA _ hp))
 have hnd:=h4.nd;simp only[aMP]at hnd;rw[rK hF.1 (hh.eval hc) (iM (fun _ _ hx=>hh.eval hx) hxs)];refine⟨fun h=>by simp[FW]at h,dA.2 ((hF.2 w h4.agr (fun p hp=>⟨(hbx p hp).1,(hbx p hp).2.1,hu p hp⟩) (aMJ.1 (aMJ.1 hnd).1).2.1).mono ?_)⟩;rintro e w' ⟨v,D',ν',rfl,hk,hs,hpost⟩;have hle:=eZ h4.agr hs;refine⟨fun hflt=>⟨hs.size,fun c hc hcb=>hs.old c hc (fun hm=>?_)⟩,kk v D' ν' (fun D₁ hD₁=>(h5 D₁ hD₁).trans hle) hpost _ _ ?_⟩
 ·obtain⟨p,hp,rfl⟩:=aMB.1 hm;rcases hfl with h|h
  ·rw[hflt]at h;cases h
  ·exact hcb (h p hp)
 ·refine Hl.put ⟨h1,h2,h3,D',h4.afterM hk hs,fun D₁ hD₁=>?_,by unfold vU;rw[hex];trivial⟩ hN v;rcases aLX.1 hD₁ with rfl|hD₁
  ·exact Le.refl _
  ·exact(h5 D₁ hD₁).trans hle
theorem N9{c:Operand}{xs:Array Operand}{ats:Array TypeId}{f:FuncId}{c1 c2:List Value}{vs:List Value}{A ν:aC}{post:aA→Value→aC→Prop}(ho:all[ix]?= some ⟨some d,.call {callee:=.value c,args:=xs,argTypes:=ats},ty,pos,aft,g⟩)(hc:ev σ c=some (.func (.func f) c1.toArray c2.toArray))(hxs:P1 σ xs.toList=some vs)
  (hex:X.ex=none) (hfl:fl=false∨∀p∈ν,p.1∈bad) (hu:∀p∈ν,cQ p.2) (hf:∀D,(∀D₁∈Ds,Le D₁ D)→T1 P f (c1++vs++c2) D ν post) (hN:Nat.blt d X.N=true) (hg:cY all σ g)
  (kk:∀v D ν',(∀D₁∈Ds,Le D₁ D)→post D v ν'→WL P X bad all K Q os ((d,v)::σ) (A++ν') (D::Ds)):
  WL P X bad all K Q ((fl,ix)::os) σ (A++ν) Ds:=by
 have:=dL (A:=A) (B:=[]) ho hc hxs hex hfl hu hf hN hg (fun v D ν' h1 h2=>by rw[aME];exact kk v D ν' h1 h2)
 rwa [aME]at this
def jL(X:Cx)(ks:List Nat)(post:aA→Value→aC→Prop):Ending→World→Prop:=fun e w'=>∃v D' ν',e=.returned v∧ν'.ks=ks∧fU X.h0 X.lo X.D0 X.mods ν' D' w'∧post D' v ν'
theorem aW{fn:Func}{ks:List Nat}{post:aA→Value→aC→Prop}:NP (bodyPost P fn (jL X ks post)):=by
 rintro c a w ⟨_,v,D',μ',h,_⟩;cases h
def mJ(N:Nat)(h0:H0)(D:aA)(ks:List Nat):Cx:=⟨none,N,[],h0,h0.size,D,ks,none⟩
theorem fZ{f:FuncId}{fn:Func}{c:Code}{args:List Value}{D:aA}{ν:aC}{post:aA→Value→aC→Prop}(N:Nat)(hf:P.funcs[f]?= some fn)(hn:(fn.name== "runtime.NumGoroutine")=false)(hb:fn.body=some c)(hN:fn.ntmps=N)(hsz:Nat.ble args.length N=true)
  (h:∀h0:H0,(∀p∈ν,p.1<h0.size)→ν.ks.Nodup→WC P (mJ N h0 D ν.ks) (bodyPost P fn (jL (mJ N h0 D ν.ks) ν.ks post)) c (gN 0 args) ν [D]):T1 P f args D ν post:=by
 refine⟨EF.of hf hn hb,fun w hw hν hnd=>?_⟩;subst hN;have hsz:=aOE hsz;refine(dA (r:=none) (n:=0)).1 ((callsIn_of_wp (R:=jL (mJ fn.ntmps (hd w) D ν.ks) ν.ks post) hf hb cW (h (hd w) (fun p hp=>bE (hν p hp).1) hnd _ w ⟨?_,fun s v hs=>?_,rfl,D,⟨aMS _,aMS _,fun _ _ _=>rfl,fun _ _=>rfl,hw,(fun p hp=>?_),hnd,(fun p hp=>(hν p hp).2.2),fun e he=>aMY he⟩,fun D₁ h1=>?_,cW⟩) rfl).mono ?_)
 ·simp[mJ];omega
 ·obtain⟨_,h2⟩:=eK args 0 s v hs;have hl:=(aMH.1 h2).1;simp only[aPY]at h2 hl;show(args.toArray++_)[s]?= some v;rw[aOT Yan];simpa using h2
 ·exact⟨(hν p hp).1,(hν p hp).2.1,aMD (aMB.2 ⟨p,hp,rfl⟩)⟩
 ·simp only[aML]at h1;subst h1;exact Le.refl _
 ·rintro e w' ⟨v,D',ν',rfl,hk,hs,hp⟩;exact⟨v,D',ν',rfl,hk,hs,hp⟩
theorem PC{fn:Func}{ks:List Nat}{A B ν':aC}{post:aA→Value→aC→Prop}{e:Exit}(he:(match e with|.normal=>true|.ret=>true|_=>false)=true){rs:List ResultVar}{vs:List Value}(hds:X.ds=[])(hr:fn.results=rs.toArray)(h:tE P X σ (A++ν'++B) rs vs)
  (hk:ν'.ks=ks) (hp:∀D,(∀D₁∈Ds,Le D₁ D)→post D (nE vs) ν'):∀a w,Hl X σ (A++ν'++B) Ds a w→bodyPost P fn (jL X ks post) e a w:=by
 intro a w hh;have hrun:=fX hh hr h;obtain⟨h1,h2,h3,D,h4,h5,h6⟩:=hh;have hnd:=h4.nd;simp only[aMP]at hnd;have:a.defers=[]∧∃v,(results fn a.tmps).run P w=.ok v w∧jL X ks post (.returned v) w:=⟨h3.trans hds,_,hrun,_,D,ν',rfl,hk,h4.sub (fun p hp=>aMG _ (aMA _ hp)) (aMJ.1 (aMJ.1 hnd).1).2.1,hp D h5⟩
 cases e<;>first|exact this|cases he
theorem _root_.Go.Fs.Zx{fn:Func}{ks:List Nat}(A:aC)(B:aC)(ν':aC){post:aA→Value→aC→Prop}{e:Exit}{rs:List ResultVar}(vs:List Value)(e9:((match e with|.normal=>true|.ret=>true|_=>false),X.ds,fn.results)=(true,[],rs.toArray))(h:tE P X σ (A++ν'++B) rs vs)(hk:ν'.ks=ks)(hp:∀D,(∀D₁∈Ds,Le D₁ D)→post D (nE vs) ν'):∀a w,Hl X σ (A++ν'++B) Ds a w→bodyPost P fn (jL X ks post) e a w:=PC (A:=A) (B:=B) (ν':=ν') (vs:=vs) (aMQ (fun z=>z.1) e9) (aMQ (fun z=>z.2.1) e9) (aMQ (fun z=>z.2.2) e9) h hk hp
end Go.Fs
