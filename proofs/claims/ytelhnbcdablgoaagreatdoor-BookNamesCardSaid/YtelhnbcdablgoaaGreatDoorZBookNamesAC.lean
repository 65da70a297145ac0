/- Of the proof of BookNames: Rest, Types, Spec, Row, Keys, Own, Tide, Book, BookLaw, BookEnds, Bits, Yard, Many. -/
import Derived.Test.YtelhnbcdablgoaaGreatDoorZBookNamesAB
import Derived.Test.YtelhnbcdablgoaaGreatDoorProg
import Derived.Test.YtelhnbcdablgoaaGreatDoorZBookNamesAA
import Derived.ChangeKeysEq
namespace Go.Fs
variable{P:Program}{X:Cx}{γb:Type}[Membership Nat γb]{bad:γb}{all:Array Oper}{K:Act→World→Prop}{Q:Exit→Act→World→Prop}
variable{σ:cG}{μ:aD}{Ds:List aC}{os:List (Bool×Nat)}{fl:Bool}{ix:Nat}
variable{d:Nat}{x y z:Operand}{u v:Value}{ty:TypeId}{pos:String}{aft:Array Edge}{g:Option (Nat×Bool)}
theorem aFE{t e:TypeId}{n b:Nat}(ho:all[ix]?= some ⟨some d,.slice t x none none none,ty,pos,aft,g⟩)(ht:P.underlying t=some (.array n e))(hs:TS P e 1)(hx:ev σ x=some (qP b))
  (hN:Nat.blt d X.N=true) (hg:dE all σ g) (kk:WL P X bad all K Q os ((d,qS b n n)::σ) μ Ds):WL P X bad all K Q ((fl,ix)::os) σ μ Ds:=
 bX ho rfl rfl hN hg (fun ρ hρ w'=>by
  simp only[execOp,hρ x _ hx,aZX];unfold Instr.sliceAt Instr.sureAddr Instr.sliceBounds;simp only[Sem.run_bind,TU.of ht w',Result.andThen_ok,hs w',Sem.run_pure,pure_bind,bBS,bAX];split<;>simp[Addr.add]) kk
theorem XB{k k':IntKind}{s t:TypeId}{n:Int}(ho:all[ix]?= some ⟨some d,.convert s t x,ty,pos,aft,g⟩)(hr:∀w,(Go.convert s t (.int k n)).run P w=.ok (.int k' n) w)(hx:ev σ x=some (.int k n))(hN:Nat.blt d X.N=true)(hg:dE all σ g)
  (kk:WL P X bad all K Q os ((d,.int k' n)::σ) μ Ds):WL P X bad all K Q ((fl,ix)::os) σ μ Ds:=
 bX ho rfl rfl hN hg (fun ρ hρ w'=>by simp only[execOp,hρ x _ hx,Sem.run_bind,hr w',Result.andThen_ok,Sem.run_pure]) kk
theorem yK{t t':TypeId}{b:Bool}(ho:all[ix]?= some ⟨some d,.binOp .eql t x y t',ty,pos,aft,g⟩)(hr:∀w,((do eqGuard .eql t x y u v;binOp .eql t u v):Sem Value).run P w=.ok (.bool b) w)(hx:ev σ x=some u)(hy:ev σ y=some v)(hN:Nat.blt d X.N=true)(hg:dE all σ g)
  (kk:WL P X bad all K Q os ((d,.bool b)::σ) μ Ds):WL P X bad all K Q ((fl,ix)::os) σ μ Ds:=
 bX ho rfl rfl hN hg (fun ρ hρ w'=>by simp only[execOp,hρ x _ hx,hρ y _ hy];rw[Sem.run_bind,hr w'];rfl) kk
theorem t6{t t':TypeId}{b:Bool}(ho:all[ix]?= some ⟨some d,.binOp .neq t x y t',ty,pos,aft,g⟩)(hr:∀w,((do eqGuard .neq t x y u v;binOp .neq t u v):Sem Value).run P w=.ok (.bool b) w)(hx:ev σ x=some u)(hy:ev σ y=some v)(hN:Nat.blt d X.N=true)(hg:dE all σ g)
  (kk:WL P X bad all K Q os ((d,.bool b)::σ) μ Ds):WL P X bad all K Q ((fl,ix)::os) σ μ Ds:=
 bX ho rfl rfl hN hg (fun ρ hρ w'=>by simp only[execOp,hρ x _ hx,hρ y _ hy];rw[Sem.run_bind,hr w'];rfl) kk
theorem xX{t:TypeId}{a b:Bool}(ht:P.underlying t=some .bool)(w:World):(Op.equal t (.bool a) (.bool b)).run P w=.ok (a==b) w:=by
 have h:(Op.equalIn (9999+1) t (.bool a) (.bool b)).run P w=.ok (a==b) w:=by
  rw[Op.equalIn,Sem.run_bind,TU.of ht w];rfl
 exact h
theorem aUA{t t':TypeId}{a b:Bool}(ho:all[ix]?= some ⟨some d,.binOp .eql t x y t',ty,pos,aft,g⟩)(ht:P.underlying t=some .bool)(hx:ev σ x=some (.bool a))(hy:ev σ y=some (.bool b))(hN:Nat.blt d X.N=true)(hg:dE all σ g)
  (kk:WL P X bad all K Q os ((d,.bool (a==b))::σ) μ Ds):WL P X bad all K Q ((fl,ix)::os) σ μ Ds:=
 yK ho (fun w=>by
  have hg:(eqGuard .eql t x y (.bool a) (.bool b)).run P w=.ok () w:=rfl;rw[Sem.run_bind,hg];show((do Pure.pure (Value.bool (←Op.equal t (.bool a) (.bool b)))):Sem Value).run P w=_;rw[Sem.run_bind,xX ht];rfl) hx hy hN hg kk
theorem HQ{t t':TypeId}{a b:Bool}(ho:all[ix]?= some ⟨some d,.binOp .neq t x y t',ty,pos,aft,g⟩)(ht:P.underlying t=some .bool)(hx:ev σ x=some (.bool a))(hy:ev σ y=some (.bool b))(hN:Nat.blt d X.N=true)(hg:dE all σ g)
  (kk:WL P X bad all K Q os ((d,.bool (!(a==b)))::σ) μ Ds):WL P X bad all K Q ((fl,ix)::os) σ μ Ds:=
 t6 ho (fun w=>by
  have hg:(eqGuard .neq t x y (.bool a) (.bool b)).run P w=.ok () w:=rfl;rw[Sem.run_bind,hg];show((do Pure.pure (Value.bool (!(←Op.equal t (.bool a) (.bool b))))):Sem Value).run P w=_;rw[Sem.run_bind,xX ht];rfl) hx hy hN hg kk
theorem b8{n:Nat}(h:∀a w,Hl X σ μ Ds a w→Q .normal a w):WC P X Q (.label n) σ μ Ds:=fun a w hh=>wpIn_label (h a w hh)
theorem m3{t e:TypeId}{n:Nat}{l:List Int}{k:IntKind}{i m:Int}(ho:all[ix]?= some ⟨some d,.index t x y,ty,pos,aft,g⟩)(ht:P.underlying t=some (.array n e))(ha:TA P e false)(hs:TS P e 1)(hx:ev σ x=some (.agg (ints l).toArray))(hy:ev σ y=some (.int k i))(h0:0≤i)(h1:i<n)(hm:l[i.toNat]?= some m)
  (hN:Nat.blt d X.N=true) (hg:dE all σ g) (kk:WL P X bad all K Q os ((d,qI m)::σ) μ Ds):WL P X bad all K Q ((fl,ix)::os) σ μ Ds:=
 bX ho rfl rfl hN hg (fun ρ hρ w'=>by
  have hg:(ints l).toArray[i.toNat]?= some (qI m):=by simpa using cK hm
  simp only[execOp,hρ x _ hx,hρ y _ hy];unfold Instr.index asIntOf part;simp only[Sem.run_bind,TU.of ht w',Result.andThen_ok,hs w',ha w',Sem.run_pure,pure_bind,h0,h1,bCL,aZU,bAF,aYY,aZW,hg]) kk
theorem gS(l m:List Int):ints l++ints m=ints (l++m):=by simp[ints]
theorem aPB{t f k ft:Nat}{cs:List Value}{fs:Array Field}(ho:all[ix]?= some ⟨some d,.field t x f,ty,pos,aft,g⟩)(ht:P.underlying t=some (.struct fs))(hk:(fs[f]?).map (fun f=>(f.offset,f.type))=some (k,ft))(ha:TA P ft false)(hx:ev σ x=some (.agg cs.toArray))(hv:cs[k]?= some v)
  (hN:Nat.blt d X.N=true) (hg:dE all σ g) (kk:WL P X bad all K Q os ((d,v)::σ) μ Ds):WL P X bad all K Q ((fl,ix)::os) σ μ Ds:=
 bX ho rfl rfl hN hg (fun ρ hρ w'=>by
  cases hf:fs[f]? with
  |none=>simp[hf]at hk
  |some f0=>
   simp only[hf,aYX,bCM,bBG]at hk;obtain⟨rfl,rfl⟩:=hk;have hv':cs.toArray[f0.offset]?= some v:=by simpa using hv
   simp only[execOp,hρ x _ hx];unfold Instr.field asAgg part;simp only[Sem.run_bind,TU.of ht w',Result.andThen_ok,hf,ha w',Sem.run_pure,pure_bind,aYY,aZW,hv']) kk
theorem jH{t:TypeId}{D₁:aC}{b k:Nat}{cs:List Value}(ho:all[ix]?= some ⟨some d,.load t x,ty,pos,aft,g⟩)(ha:TA P t false)(hx:ev σ x=some (.pointer (some ⟨b,k,none⟩)))(hA:At D₁ b 0 cs)(hD:D₁∈Ds)(hv:cs[k]?= some v)(hb:b∉bad)
  (hN:Nat.blt d X.N=true) (hg:dE all σ g) (kk:WL P X bad all K Q os ((d,v)::σ) μ Ds):WL P X bad all K Q ((fl,ix)::os) σ μ Ds:=
 dT (o:=0) (k:=k) ho ha (by rw[bAL];exact hx) hA hD hv hb hN hg kk
theorem K9{γ:Type}{c:Code}{N lo:Nat}{J0:tF}(m:γ→Nat)(I:γ→Prop)(J:γ→tF)(ch:γ→cG)(rest:cG)(M:γ→aD)(E:γ→List aC)(g₀:γ)(h₀:I g₀)(hJ:J0=J g₀)(hch:HI σ (ch g₀))(hrest:HI σ rest)(hμ:(M g₀).Sublist μ)(hD:∀D∈E g₀,∃D'∈Ds,Le D D')
  (round:∀g,I g→WC P (Xj N lo (J g)) (Exit.then (fun a w=>∃g',I g'∧m g'<m g∧Hl (Xj N lo (J g')) (ch g'++rest) (M g') (E g') a w) Q) c (ch g++rest) (M g) (E g)):WC P (Xj N lo J0) Q (.loop c) σ μ Ds:=by
 subst hJ
 let p:Act→World→Nat→Prop:=fun a w n=>∃g,I g∧m g=n∧Hl (Xj N lo (J g)) (ch g++rest) (M g) (E g) a w
 have ex:∀a w,(∃n,p a w n)→∃n,p a w n∧∀k,p a w k→n≤k:=by
  intro a w ⟨n,hn⟩;induction n using Nat.strongRecOn with
  |_ n ih=>
   by_cases h:∃k,k<n∧p a w k
   ·obtain⟨k,hk,hp⟩:=h;exact ih k hk hp
   ·exact⟨n,hn,fun k hk=>Nat.le_of_not_lt fun hl=>h ⟨k,hl,hk⟩⟩
 intro a w hh;refine wpIn_loop (fun a w=>∃n,p a w n) (fun a w=>open Classical in if h:∃n,p a w n then(ex a w h).choose else 0) ⟨_,g₀,h₀,rfl,hh.weak (HI.app hch hrest) hμ hD⟩ ?_;intro a w hI;obtain⟨⟨g,hg,hm,hst⟩,hmin⟩:=(ex a w hI).choose_spec;refine wpIn_mono (round g hg a w hst) fun e a' w' hq=>?_
 cases e with
 |normal=>
  obtain⟨g',hg',hlt,hst'⟩:=hq;have hI':∃n,p a' w' n:=⟨_,g',hg',rfl,hst'⟩
  refine⟨hI',?_⟩;simp only[dif_pos hI',dif_pos hI];have:=(ex a' w' hI').choose_spec.2 _ ⟨g',hg',rfl,hst'⟩;omega
 |_=>exact hq
theorem pX{γ:Type}{N lo:Nat}{J1:tF}{m:γ→Nat}{I:γ→Prop}{J:γ→tF}{ch:γ→cG}{rest:cG}{M:γ→aD}{E:γ→List aC}{g:γ}(n:Nat)(g':γ)(h1:I g')(h2:m g'<m g)(hJ:J1=J g')(hch:HI σ (ch g'))(hn:G5 n σ=true)(hr:σ.drop n=rest)(hμ:(M g').Sublist μ)(hD:∀D∈E g',∃D'∈Ds,Le D D'):
  ∀a w,Hl (Xj N lo J1) σ μ Ds a w→Exit.then (fun a w=>∃g',I g'∧m g'<m g∧Hl (Xj N lo (J g')) (ch g'++rest) (M g') (E g') a w) Q .normal a w:=by
 subst hJ;intro a w hh;refine⟨g',h1,h2,?_⟩;have h3:=hh.weak (σ':=ch g') hch hμ hD;refine⟨h3.1,fun s v hs=>?_,h3.2.2⟩;rcases Y8 hs with hs|hs
 ·exact h3.2.1 s v hs
 ·subst hr;exact hh.2.1 s v (zR n σ hn s v hs)
theorem y0{J J1 J0:tF}{l N lo:Nat}{c:Operand}{xs:Array Operand}{ats:Array TypeId}{vs:List Value}(ho:all[ix]?= some ⟨some d,.call {callee:=.value c,args:=xs,argTypes:=ats},ty,pos,aft,g⟩)
  (hc:ev σ c=some (.func (.yield l) #[] #[])) (hxs:Q8 σ xs.toList=some vs) (hfl:fl=false) (G:G8 lo J1) (I:G8 lo J0)
  (hY:∀D w,xZ lo D w→J (μ.map (·.1)) D w→(∀p∈μ,p.1<w.heap.size)→(∀D₁∈Ds,Le D₁ D)→iS P l vs w fun b D' w'=>xZ lo D' w'∧yJ (μ.map (·.1)) D w D' w'∧(if b then J1 (μ.map (·.1)) D' w' else J0 (μ.map (·.1)) D' w'))
  (hN:Nat.blt d N=true) (hg:dE all σ g)
  (kk:∀b J',J'=(if b=true then J1 else J0)→WL P (Xj N lo J') bad all K Q os ((d,.bool b)::σ) μ Ds):WL P (Xj N lo J) bad all K Q ((fl,ix)::os) σ μ Ds:=
 aMU (X:=Xj N lo J) ho hc hxs rfl hfl rfl rfl G I hY hN hg (kk true J1 rfl) (kk false J0 rfl)
theorem xP{c:Code}(k:(μ.map (·.1)).Nodup→WC P X Q c σ μ Ds):WC P X Q c σ μ Ds:=fun a w hh=>k (by obtain⟨_,_,_,D,h4,_⟩:=hh;exact h4.nd) a w hh
theorem aV{t:TypeId}{b n:Nat}{vs us:List Value}{e:TypeId}{μ':aD}(ho:all[ix]?= some ⟨none,.store t x y,ty,pos,aft,g⟩)(hx:ev σ x=some (qP b))(hy:ev σ y=some v)(hv:v.cells=us.toArray)(hs:TS P t n)
  (hn:us.length=n) (hl:vs.length=n) (hm:bO μ b (.cells vs.toArray e (0,0)) (.cells us.toArray e (0,0)) μ') (hc1:∀u∈us,cell1 u=true) (hg:dE all σ g)
  (kk:WL P X bad all K Q os σ μ' Ds):WL P X bad all K Q ((false,ix)::os) σ μ Ds:=
 bJ ho hx hy hv (by rw[hn];exact hs) hm Yd (by rw[List.take_zero,bAL,aYV Yd];simp) hc1 hg kk
theorem _root_.Go.Fs.Zu{t:TypeId}{b:Nat}{n:Nat}{vs:List Value}{us:List Value}{e:TypeId}{μ':aD}(e9:(all[ix]?,ev σ x,ev σ y,v.cells)=(some ⟨none,.store t x y,ty,pos,aft,g⟩,some (qP b),some v,us.toArray))(hs:TS P t n)(hm:bO μ b (.cells vs.toArray e (0,0)) (.cells us.toArray e (0,0)) μ')(kk:WL P X bad all K Q os σ μ' Ds)(hn:us.length=n:=by exact Ya)(hl:vs.length=n:=by exact Ya)(hc1:∀u∈us,cell1 u=true:=by exact Yh)(hg:dE all σ g:=by exact bCV):WL P X bad all K Q ((false,ix)::os) σ μ Ds:=aV (aXV (fun z=>z.1) e9) (aXV (fun z=>z.2.1) e9) (aXV (fun z=>z.2.2.1) e9) (aXV (fun z=>z.2.2.2) e9) hs hn hl hm hc1 hg kk
theorem fC{t e tr e':TypeId}{n sz:Nat}{cells:List Value}{ν:aD}{ats:Array TypeId}(ho:all[ix]?= some ⟨some d,.call {callee:=.builtin .len,args:=#[x],argTypes:=ats},tr,pos,aft,g⟩)(ht:P.underlying t=some (.slice e))(hx:ev σ x=some v)(hS:bZ e' sz v n cells ν)(hat:ats[0]?= some t)
  (hN:Nat.blt d X.N=true) (hg:dE all σ g) (kk:WL P X bad all K Q os ((d,qI (n:Int))::σ) μ Ds):
  WL P X bad all K Q ((fl,ix)::os) σ μ Ds:=
 bX ho rfl rfl hN hg (fun ρ hρ w'=>by
  have hx':=hρ x _ hx;rcases hS with⟨a,rfl,rfl,_⟩|⟨b,cap,junk,rfl,_⟩
  ·simp[Builtin.len_,hat,hx',Sem.run_bind,TU.of ht w',goInt,Sem.run_pure,go_sem]
  ·simp[Builtin.len_,hat,hx',Sem.run_bind,TU.of ht w',goInt,Sem.run_pure,go_sem]) kk
theorem Hl.dropBoxes{a:Act}{w:World}(n:Nat)(h:Hl X σ μ Ds a w):Hl X σ (μ.drop n) Ds a w:=by
 obtain⟨h1,h2,h3,D,h4,h5,G⟩:=h;have hμ:(μ.drop n).Sublist μ:=List.drop_sublist n μ;exact⟨h1,h2,h3,D,h4.sub (fun p hp=>hμ.mem hp) ((hμ.map (·.1)).nodup h4.nd),h5,G.step (fun _ p hp=>aYF (n4.2 ⟨p,hμ.mem hp,rfl⟩)) (fun _=>aHE.refl _ _ _) h4.dom⟩
theorem bZ.cells1{e:TypeId}{sz n:Nat}{cells:List Value}{ν:aD}(h:bZ e sz v n cells ν):v.cells=[v].toArray:=by
 rcases h with⟨a,rfl,_⟩|⟨b,cap,junk,rfl,_⟩<;>rfl
theorem bZ.cell1{e:TypeId}{sz n:Nat}{cells:List Value}{ν:aD}(h:bZ e sz v n cells ν):∀u∈[v],Fs.cell1 u=true:=by
 rcases h with⟨a,rfl,_⟩|⟨b,cap,junk,rfl,_⟩<;>simp[Fs.cell1]

theorem mB{b:Frame}{a:Act}{k:List Item}{cs:List Frame}{w:World}{c:Code}:step P (lone (b.atR a (.code (.scope c)::k)) cs w)=.next (lone (b.atR a (.code c::.inScope c::k)) cs w):=
 step_lone_go (by simp[stepG,stepG.exec,Frame.atR])
theorem n7{b:Frame}{a:Act}{k:List Item}{cs:List Frame}{w:World}{c:Code}:step P (lone (b.atR a (.inScope c::k)) cs w)=.next (lone (b.atR a k) cs w):=
 step_lone_go (by simp[stepG,stepG.exec,Frame.atR])
def Q9(Q:Exit→Act→World→Prop):Exit→Act→World→Prop
 |.goto _,_,_=>False
 |e,a,w=>Q e a w
theorem NP.ngt{Q:Exit→Act→World→Prop}(h:NP Q):NP (Q9 Q):=fun c a w q=>h c a w q
theorem PI.ngt{Q:Exit→Act→World→Prop}(h:PI Q):PI (Q9 Q):=fun c a b w d q=>h c a b w d q
theorem LH{F:Fence}{n:Nat}{c:Code}{a:Act}{w:World}(h:c.wpIn F n P (Q9 Q) a w):(Code.scope c).wpIn F n P Q a w:=by
 intro b k cs hro hb hr;have h0:(lone (b.atR a (.code (.scope c)::k)) cs w).fenced P F:=fenced_calm hb hr rfl;obtain⟨e,a₁,w₁,hq,harr⟩:=h b (.inScope c::k) cs hro hb hr;cases e with
 |normal=>exact⟨.normal,a₁,w₁,hq,.head h0 mB (StepsIn.trans harr (.one (fenced_calm hb hr rfl) n7))⟩
 |exit id'=>
  have hx:exitTo id' (.inScope c::k)=exitTo id' k:=by simp[exitTo]
  exact⟨.exit id',a₁,w₁,hq,fun k' hk=>.head h0 mB (harr.1 k' (by rw[hx];exact hk)),
   fun hr' hk=>let ⟨k₁,h1,h2⟩:=harr.2 hr' (by rw[hx];exact hk);⟨k₁,h1,.head h0 mB h2⟩⟩
 |goto l=>exact hq.elim
 |ret=>exact⟨_,a₁,w₁,hq,.of_steps (.one h0 mB) harr⟩
 |panic ch=>exact⟨_,a₁,w₁,hq,.of_steps (.one h0 mB) harr⟩
 |outgrown=>exact⟨_,a₁,w₁,hq,.of_steps (.one h0 mB) harr⟩
theorem HP{c:Code}(h:WC P X (Q9 Q) c σ μ Ds):WC P X Q (.scope c) σ μ Ds:=fun a w hh=>LH (h a w hh)
theorem oW(h:∀a w,Hl X σ μ Ds a w→Q .normal a w):∀a w,Hl X σ μ Ds a w→Q9 Q .normal a w:=h
theorem wV(h:∀a w,Hl X σ μ Ds a w→Q .ret a w):∀a w,Hl X σ μ Ds a w→Q9 Q .ret a w:=h
theorem aJ(μ':aD)(h:μ=μ')(k:WL P X bad all K Q os σ μ' Ds):WL P X bad all K Q os σ μ Ds:=h▸k
theorem YE{c:Code}(μ':aD)(h:μ=μ')(k:WC P X Q c σ μ' Ds):WC P X Q c σ μ Ds:=h▸k
theorem Sl.cell1{α:Type}{R:Rd α}{D:aC}{sz:Nat}{v:Value}{xs:List α}(h:Sl D R sz v xs):∀u∈[v],Fs.cell1 u=true:=by
 obtain⟨a,cap,rfl,_⟩:=h;simp[Fs.cell1]
open Go.Proofs Tryz

theorem bI:prog.follows .mixedOrders=true:=by kernel_rfl
theorem _root_.Go.Fs.U3:type_of% underlying3:=underlying3
theorem _root_.Go.Fs.U4:type_of% underlying4:=underlying4
theorem _root_.Go.Fs.U5:type_of% underlying5:=underlying5
theorem _root_.Go.Fs.U9:type_of% underlying9:=underlying9
theorem _root_.Go.Fs.U20:type_of% underlying20:=underlying20
theorem _root_.Go.Fs.U22:type_of% underlying22:=underlying22
theorem _root_.Go.Fs.U25:type_of% underlying25:=underlying25
theorem _root_.Go.Fs.U26:type_of% underlying26:=underlying26
theorem _root_.Go.Fs.U29:type_of% underlying29:=underlying29
theorem _root_.Go.Fs.U30:type_of% underlying30:=underlying30
theorem _root_.Go.Fs.U33:type_of% underlying33:=underlying33
theorem _root_.Go.Fs.U34:type_of% underlying34:=underlying34
theorem _root_.Go.Fs.U37:type_of% underlying37:=underlying37
theorem _root_.Go.Fs.U38:type_of% underlying38:=underlying38
theorem _root_.Go.Fs.U43:type_of% underlying43:=underlying43
theorem _root_.Go.Fs.U51:type_of% underlying51:=underlying51
theorem _root_.Go.Fs.U70:type_of% underlying70:=underlying70
theorem _root_.Go.Fs.U73:type_of% underlying73:=underlying73
theorem _root_.Go.Fs.U74:type_of% underlying74:=underlying74
theorem _root_.Go.Fs.U77:type_of% underlying77:=underlying77
theorem _root_.Go.Fs.U78:type_of% underlying78:=underlying78
theorem _root_.Go.Fs.U81:type_of% underlying81:=underlying81
theorem _root_.Go.Fs.U82:type_of% underlying82:=underlying82
theorem _root_.Go.Fs.U99:type_of% underlying99:=underlying99
theorem _root_.Go.Fs.U101:type_of% underlying101:=underlying101
theorem _root_.Go.Fs.U113:type_of% underlying113:=underlying113
theorem _root_.Go.Fs.U117:type_of% underlying117:=underlying117
theorem _root_.Go.Fs.U136:type_of% underlying136:=underlying136
theorem _root_.Go.Fs.U174:type_of% underlying174:=underlying174
theorem _root_.Go.Fs.U179:type_of% underlying179:=underlying179
theorem _root_.Go.Fs.U186:type_of% underlying186:=underlying186
theorem _root_.Go.Fs.U205:type_of% underlying205:=underlying205
theorem _root_.Go.Fs.U210:type_of% underlying210:=underlying210
theorem _root_.Go.Fs.U240:type_of% underlying240:=underlying240
theorem _root_.Go.Fs.U246:type_of% underlying246:=underlying246
theorem _root_.Go.Fs.U255:type_of% underlying255:=underlying255
theorem _root_.Go.Fs.U257:type_of% underlying257:=underlying257
theorem _root_.Go.Fs.U263:type_of% underlying263:=underlying263
theorem _root_.Go.Fs.U275:type_of% underlying275:=underlying275
theorem _root_.Go.Fs.U276:type_of% underlying276:=underlying276
theorem _root_.Go.Fs.U282:type_of% underlying282:=underlying282
theorem _root_.Go.Fs.U295:type_of% underlying295:=underlying295
theorem _root_.Go.Fs.U303:type_of% underlying303:=underlying303
theorem _root_.Go.Fs.U309:type_of% underlying309:=underlying309
theorem _root_.Go.Fs.U315:type_of% underlying315:=underlying315
theorem _root_.Go.Fs.U317:type_of% underlying317:=underlying317
theorem _root_.Go.Fs.U327:type_of% underlying327:=underlying327
theorem aI:TA prog 3 false:=TA.of underlying3 _ rfl
theorem aL:TS prog 3 1:=TS.of Yf
theorem dR:TZ prog 3 (qI 0):=TZ.of Yf
theorem nV:(prog.info? 3).map (fun i=>Nat.ble 1 i.bytes&&Nat.ble i.bytes 4096)=some true:=by kernel_rfl
theorem CK:TA prog 4 false:=TA.of underlying4 _ rfl
theorem lU:TS prog 4 1:=TS.of Yf
theorem nT:TZ prog 4 (.bool false):=TZ.of Yf
theorem p6:TA prog 5 false:=TA.of underlying5 _ rfl
theorem gN:TS prog 5 1:=TS.of Yf
theorem CB:TZ prog 5 (.int .u8 0):=TZ.of Yf
theorem aGU:(prog.info? 5).map (fun i=>Nat.ble 1 i.bytes&&Nat.ble i.bytes 4096)=some true:=by kernel_rfl
theorem I9:TA prog 9 false:=TA.of underlying9 _ rfl
theorem jC:TS prog 9 1:=TS.of Yf
theorem KJ:(prog.info? 9).map (fun i=>Nat.ble 1 i.bytes&&Nat.ble i.bytes 4096)=some true:=by kernel_rfl
theorem QH:TA prog 22 false:=TA.of underlying22 _ rfl
theorem aEH:TS prog 22 1:=TS.of Yf
theorem aRZ:TZ prog 22 (qN):=TZ.of Yf
theorem dS:TA prog 25 false:=TA.of underlying25 _ rfl
theorem oQ:TS prog 25 1:=TS.of Yf
theorem aDP:TZ prog 25 (qN):=TZ.of Yf
theorem pH:TA prog 26 false:=TA.of underlying26 _ rfl
theorem GU:TS prog 26 1:=TS.of Yf
theorem iW:TA prog 28 true:=TA.of underlying28 _ rfl
theorem fX:TS prog 28 4:=TS.of Yf
theorem j0:TZ prog 28 (.agg #[qN,qN,qI 0,qI 0]):=TZ.of Yf
theorem aIW:TP prog 28 [(0,1),(1,1),(2,1),(3,1)]:=TP.of underlying28 Yf Yf
theorem eF:TF prog 28 0 0:=TF.of underlying28 rfl oQ rfl
theorem iE:TF prog 28 1 1:=TF.of underlying28 rfl GU rfl
theorem zC:TF prog 28 2 2:=TF.of underlying28 rfl aL rfl
theorem vU:TF prog 28 3 3:=TF.of underlying28 rfl aL rfl
theorem lX:TA prog 29 false:=TA.of underlying29 _ rfl
theorem l7:TS prog 29 1:=TS.of Yf
theorem oY:TA prog 30 false:=TA.of underlying30 _ rfl
theorem IJ:TS prog 30 1:=TS.of Yf
theorem gY:TA prog 32 true:=TA.of underlying32 _ rfl
theorem eW:TS prog 32 5:=TS.of Yf
theorem AM:TZ prog 32 (.agg #[qI 0,qN,qI 0,qN,qN]):=TZ.of Yf
theorem aFN:TP prog 32 [(0,1),(1,1),(2,1),(3,1),(4,1)]:=TP.of underlying32 Yf Yf
theorem jU:TF prog 32 0 0:=TF.of underlying32 rfl aL rfl
theorem fA:TF prog 32 1 1:=TF.of underlying32 rfl l7 rfl
theorem sY:TF prog 32 2 2:=TF.of underlying32 rfl aL rfl
theorem jJ:TF prog 32 3 3:=TF.of underlying32 rfl oQ rfl
theorem iF:TF prog 32 4 4:=TF.of underlying32 rfl IJ rfl
theorem eX:TA prog 33 false:=TA.of underlying33 _ rfl
theorem eH:TS prog 33 1:=TS.of Yf
theorem mN:TZ prog 33 (qN):=TZ.of Yf
theorem uL:TA prog 34 false:=TA.of underlying34 _ rfl
theorem PT:TS prog 34 1:=TS.of Yf
theorem eL:TA prog 36 true:=TA.of underlying36 _ rfl
theorem dO:TS prog 36 5:=TS.of Yf
theorem H4:TZ prog 36 (.agg #[qI 0,qI 0,qI 0,qN,qN]):=TZ.of Yf
theorem aFQ:TP prog 36 [(0,1),(1,1),(2,1),(3,1),(4,1)]:=TP.of underlying36 Yf Yf
theorem oF:TF prog 36 0 0:=TF.of underlying36 rfl aL rfl
theorem tC:TF prog 36 1 1:=TF.of underlying36 rfl aL rfl
theorem yE:TF prog 36 2 2:=TF.of underlying36 rfl aL rfl
theorem cQ:TF prog 36 3 3:=TF.of underlying36 rfl eH rfl
theorem kV:TF prog 36 4 4:=TF.of underlying36 rfl PT rfl
theorem kC:TA prog 37 false:=TA.of underlying37 _ rfl
theorem RH:TS prog 37 1:=TS.of Yf
theorem oZ:TA prog 38 false:=TA.of underlying38 _ rfl
theorem FP:TS prog 38 1:=TS.of Yf
theorem jP:TA prog 40 true:=TA.of underlying40 _ rfl
theorem iD:TS prog 40 3:=TS.of Yf
theorem NZ:TZ prog 40 (.agg #[qN,qI 0,qN]):=TZ.of Yf
theorem aUU:TP prog 40 [(0,1),(1,1),(2,1)]:=TP.of underlying40 Yf Yf
theorem eR:TF prog 40 0 0:=TF.of underlying40 rfl RH rfl
theorem sL:TF prog 40 1 1:=TF.of underlying40 rfl aL rfl
theorem iL:TF prog 40 2 2:=TF.of underlying40 rfl FP rfl
theorem iU:TA prog 42 true:=TA.of underlying42 _ rfl
theorem dK:TS prog 42 17:=TS.of Yf
theorem lB:TZ prog 42 (.agg #[qN,qN,qI 0,qI 0,qI 0,qN,qI 0,qN,qN,qI 0,qI 0,qI 0,qN,qN,qN,qI 0,qN]):=TZ.of Yf
theorem aDV:TP prog 42 [(0,4),(4,5),(9,5),(14,3)]:=TP.of underlying42 Yf Yf
theorem dJ:TF prog 42 0 0:=TF.of underlying42 rfl fX rfl
theorem cT:TF prog 42 1 4:=TF.of underlying42 rfl eW rfl
theorem eK:TF prog 42 2 9:=TF.of underlying42 rfl dO rfl
theorem dZ:TF prog 42 3 14:=TF.of underlying42 rfl iD rfl
theorem qK:TA prog 44 false:=TA.of underlying44 _ rfl
theorem pG:TS prog 44 1:=TS.of Yf
theorem GA:TZ prog 44 (qI 0):=TZ.of Yf
theorem aTQ:(prog.info? 44).map (fun i=>Nat.ble 1 i.bytes&&Nat.ble i.bytes 4096)=some true:=by kernel_rfl
theorem aDU:TA prog 51 false:=TA.of underlying51 _ rfl
theorem aHA:TS prog 51 1:=TS.of Yf
theorem mP:TA prog 65 true:=TA.of underlying65 _ rfl
theorem eA:TS prog 65 2:=TS.of Yf
theorem mO:TZ prog 65 (.agg #[qI 0,qI 0]):=TZ.of Yf
theorem T5:TP prog 65 [(0,1),(1,1)]:=TP.of underlying65 Yf Yf
theorem uW:TF prog 65 0 0:=TF.of underlying65 rfl aL rfl
theorem vF:TF prog 65 1 1:=TF.of underlying65 rfl aL rfl
theorem aBX:TA prog 70 false:=TA.of underlying70 _ rfl
theorem aRC:TS prog 70 1:=TS.of Yf
theorem aTJ:TA prog 72 true:=TA.of underlying72 _ rfl
theorem PW:TS prog 72 4:=TS.of Yf
theorem aRX:TZ prog 72 (.agg #[qN,qN,qI 0,qI 0]):=TZ.of Yf
theorem aUQ:TP prog 72 [(0,1),(1,1),(2,1),(3,1)]:=TP.of underlying72 Yf Yf
theorem aGV:TF prog 72 0 0:=TF.of underlying72 rfl oQ rfl
theorem MA:TF prog 72 1 1:=TF.of underlying72 rfl aRC rfl
theorem aJQ:TF prog 72 2 2:=TF.of underlying72 rfl aL rfl
theorem aIM:TF prog 72 3 3:=TF.of underlying72 rfl aL rfl
theorem GH:TA prog 73 false:=TA.of underlying73 _ rfl
theorem aSX:TS prog 73 1:=TS.of Yf
theorem aCW:TA prog 74 false:=TA.of underlying74 _ rfl
theorem aSK:TS prog 74 1:=TS.of Yf
theorem aTV:TA prog 76 true:=TA.of underlying76 _ rfl
theorem QO:TS prog 76 5:=TS.of Yf
theorem aTX:TZ prog 76 (.agg #[qI 0,qN,qI 0,qN,qN]):=TZ.of Yf
theorem aVA:TP prog 76 [(0,1),(1,1),(2,1),(3,1),(4,1)]:=TP.of underlying76 Yf Yf
theorem aCB:TF prog 76 0 0:=TF.of underlying76 rfl aL rfl
theorem Q4:TF prog 76 1 1:=TF.of underlying76 rfl aSX rfl
theorem aGH:TF prog 76 2 2:=TF.of underlying76 rfl aL rfl
theorem aFS:TF prog 76 3 3:=TF.of underlying76 rfl oQ rfl
theorem JH:TF prog 76 4 4:=TF.of underlying76 rfl aSK rfl
theorem aTZ:TA prog 77 false:=TA.of underlying77 _ rfl
theorem aSB:TS prog 77 1:=TS.of Yf
theorem aIH:TA prog 78 false:=TA.of underlying78 _ rfl
theorem aRP:TS prog 78 1:=TS.of Yf
theorem aSE:TA prog 80 true:=TA.of underlying80 _ rfl
theorem QI:TS prog 80 5:=TS.of Yf
theorem aTI:TZ prog 80 (.agg #[qI 0,qI 0,qI 0,qN,qN]):=TZ.of Yf
theorem aTA:TP prog 80 [(0,1),(1,1),(2,1),(3,1),(4,1)]:=TP.of underlying80 Yf Yf
theorem aBS:TF prog 80 0 0:=TF.of underlying80 rfl aL rfl
theorem aEM:TF prog 80 1 1:=TF.of underlying80 rfl aL rfl
theorem aCC:TF prog 80 2 2:=TF.of underlying80 rfl aL rfl
theorem aFW:TF prog 80 3 3:=TF.of underlying80 rfl aSB rfl
theorem IV:TF prog 80 4 4:=TF.of underlying80 rfl aRP rfl
theorem aSA:TA prog 81 false:=TA.of underlying81 _ rfl
theorem aTF:TS prog 81 1:=TS.of Yf
theorem aSD:TA prog 82 false:=TA.of underlying82 _ rfl
theorem aUL:TS prog 82 1:=TS.of Yf
theorem aTB:TA prog 84 true:=TA.of underlying84 _ rfl
theorem QJ:TS prog 84 3:=TS.of Yf
theorem aTP:TZ prog 84 (.agg #[qN,qI 0,qN]):=TZ.of Yf
theorem aSS:TP prog 84 [(0,1),(1,1),(2,1)]:=TP.of underlying84 Yf Yf
theorem aGO:TF prog 84 0 0:=TF.of underlying84 rfl aTF rfl
theorem aCE:TF prog 84 1 1:=TF.of underlying84 rfl aL rfl
theorem aCT:TF prog 84 2 2:=TF.of underlying84 rfl aUL rfl
theorem aFL:TA prog 86 true:=TA.of underlying86 _ rfl
theorem RG:TS prog 86 17:=TS.of Yf
theorem aCN:TZ prog 86 (.agg #[qN,qN,qI 0,qI 0,qI 0,qN,qI 0,qN,qN,qI 0,qI 0,qI 0,qN,qN,qN,qI 0,qN]):=TZ.of Yf
theorem JD:TF prog 86 0 0:=TF.of underlying86 rfl PW rfl
theorem KL:TF prog 86 1 4:=TF.of underlying86 rfl QO rfl
theorem LA:TF prog 86 2 9:=TF.of underlying86 rfl QI rfl
theorem KU:TF prog 86 3 14:=TF.of underlying86 rfl QJ rfl
theorem wQ:TA prog 88 true:=TA.of underlying88 _ rfl
theorem iT:TS prog 88 2:=TS.of Yf
theorem qE:TZ prog 88 (.agg #[qI 0,qI 0]):=TZ.of Yf
theorem r0:TP prog 88 [(0,1),(1,1)]:=TP.of underlying88 Yf Yf
theorem LL:TF prog 88 0 0:=TF.of underlying88 rfl aL rfl
theorem LD:TF prog 88 1 1:=TF.of underlying88 rfl aL rfl
theorem kB:TA prog 99 true:=TA.of underlying99 _ rfl
theorem cE:TS prog 99 2:=TS.of Yf
theorem gJ:TZ prog 99 (.agg #[qI 0,qI 0]):=TZ.of Yf
theorem AK:(prog.info? 99).map (fun i=>Nat.ble 1 i.bytes&&Nat.ble i.bytes 4096)=some true:=by kernel_rfl
theorem yT:TP prog 99 [(0,1),(1,1)]:=TP.of underlying99 Yf Yf
theorem sO:TF prog 99 0 0:=TF.of underlying99 rfl aL rfl
theorem uV:TF prog 99 1 1:=TF.of underlying99 rfl aL rfl
theorem nD:TA prog 101 true:=TA.of underlying101 _ rfl
theorem mJ:TS prog 101 3:=TS.of Yf
theorem M6:TZ prog 101 (.agg #[qI 0,qI 0,qI 0]):=TZ.of Yf
theorem aPL:(prog.info? 101).map (fun i=>Nat.ble 1 i.bytes&&Nat.ble i.bytes 4096)=some true:=by kernel_rfl
theorem I7:TA prog 103 true:=TA.of underlying103 _ rfl
theorem jA:TS prog 103 4:=TS.of Yf
theorem zY:TZ prog 103 (.agg #[qI 0,qI 0,qI 0,qI 0]):=TZ.of Yf
theorem VQ:(prog.info? 103).map (fun i=>Nat.ble 1 i.bytes&&Nat.ble i.bytes 4096)=some true:=by kernel_rfl
theorem aNM:TP prog 103 [(0,1),(1,3)]:=TP.of underlying103 Yf Yf
theorem R1:TF prog 103 0 0:=TF.of underlying103 rfl aL rfl
theorem zQ:TF prog 103 1 1:=TF.of underlying103 rfl mJ rfl
theorem VI:TA prog 113 false:=TA.of underlying113 _ rfl
theorem TN:TS prog 113 1:=TS.of Yf
theorem aKN:TS prog 115 2:=TS.of Yf
theorem aLX:TZ prog 115 (.agg #[.pointer none,qN]):=TZ.of Yf
theorem T2:TF prog 115 0 0:=TF.of underlying115 rfl TN rfl
theorem CA:TF prog 115 1 1:=TF.of underlying115 rfl aHA rfl
theorem kL:TA prog 133 true:=TA.of underlying133 _ rfl
theorem cD:TS prog 133 2:=TS.of Yf
theorem jL:TZ prog 133 (.agg #[qI 0,qI 0]):=TZ.of Yf
theorem UY:(prog.info? 133).map (fun i=>Nat.ble 1 i.bytes&&Nat.ble i.bytes 4096)=some true:=by kernel_rfl
theorem P9:TP prog 133 [(0,1),(1,1)]:=TP.of underlying133 Yf Yf
theorem rR:TF prog 133 0 0:=TF.of underlying133 rfl aL rfl
theorem rT:TF prog 133 1 1:=TF.of underlying133 rfl aL rfl
theorem b7:TA prog 136 false:=TA.of underlying136 _ rfl
theorem b9:TS prog 136 1:=TS.of Yf
theorem aKH:TZ prog 136 (qN):=TZ.of Yf
theorem VG:TA prog 144 true:=TA.of underlying144 _ rfl
theorem L9:TS prog 144 2:=TS.of Yf
theorem N3:TZ prog 144 (.agg #[qI 0,qI 0]):=TZ.of Yf
theorem d4:TP prog 144 [(0,1),(1,1)]:=TP.of underlying144 Yf Yf
theorem aBH:TF prog 144 0 0:=TF.of underlying144 rfl aL rfl
theorem WY:TF prog 144 1 1:=TF.of underlying144 rfl aL rfl
theorem aLL:TA prog 150 false:=TA.of underlying150 _ rfl
theorem A4:TA prog 156 true:=TA.of underlying156 _ rfl
theorem hZ:TS prog 156 3:=TS.of Yf
theorem xA:TZ prog 156 (.agg #[.bool false,qI 0,qI 0]):=TZ.of Yf
theorem TD:(prog.info? 156).map (fun i=>Nat.ble 1 i.bytes&&Nat.ble i.bytes 4096)=some true:=by kernel_rfl
theorem aNK:TP prog 156 [(0,1),(1,1),(2,1)]:=TP.of underlying156 Yf Yf
theorem YZ:TF prog 156 0 0:=TF.of underlying156 rfl lU rfl
theorem R9:TF prog 156 1 1:=TF.of underlying156 rfl aL rfl
theorem vQ:TF prog 156 2 2:=TF.of underlying156 rfl aL rfl
theorem J5:TA prog 158 true:=TA.of underlying158 _ rfl
theorem iN:TS prog 158 4:=TS.of Yf
theorem wE:TZ prog 158 (.agg #[qI 0,qI 0,qI 0,qI 0]):=TZ.of Yf
theorem VV:(prog.info? 158).map (fun i=>Nat.ble 1 i.bytes&&Nat.ble i.bytes 4096)=some true:=by kernel_rfl
theorem aPW:TP prog 158 [(0,1),(1,1),(2,2)]:=TP.of underlying158 Yf Yf
theorem DD:TF prog 158 0 0:=TF.of underlying158 rfl aL rfl
theorem DW:TF prog 158 1 1:=TF.of underlying158 rfl aL rfl
theorem CQ:TF prog 158 2 2:=TF.of underlying158 rfl cE rfl
theorem kN:TA prog 160 true:=TA.of underlying160 _ rfl
theorem bH:TS prog 160 3:=TS.of Yf
theorem dU:TZ prog 160 (.agg #[qI 0,qI 0,qI 0]):=TZ.of Yf
theorem iB:(prog.info? 160).map (fun i=>Nat.ble 1 i.bytes&&Nat.ble i.bytes 4096)=some true:=by kernel_rfl
theorem RV:TP prog 160 [(0,1),(1,1),(2,1)]:=TP.of underlying160 Yf Yf
theorem V9:TF prog 160 0 0:=TF.of underlying160 rfl aL rfl
theorem pD:TF prog 160 1 1:=TF.of underlying160 rfl aL rfl
theorem mI:TF prog 160 2 2:=TF.of underlying160 rfl aL rfl
theorem O8:TA prog 162 true:=TA.of underlying162 _ rfl
theorem nF:TS prog 162 3:=TS.of Yf
theorem d9:TZ prog 162 (.agg #[qI 0,qI 0,qI 0]):=TZ.of Yf
theorem aON:(prog.info? 162).map (fun i=>Nat.ble 1 i.bytes&&Nat.ble i.bytes 4096)=some true:=by kernel_rfl
theorem aKB:TP prog 162 [(0,1),(1,2)]:=TP.of underlying162 Yf Yf
theorem zU:TF prog 162 0 0:=TF.of underlying162 rfl aL rfl
theorem U7:TF prog 162 1 1:=TF.of underlying162 rfl eA rfl
theorem Z7:TA prog 169 false:=TA.of underlying169 _ rfl
theorem aKO:TS prog 169 1:=TS.of Yf
theorem aKT:TZ prog 169 (.pointer none):=TZ.of Yf
theorem zM:TA prog 174 false:=TA.of underlying174 _ rfl
theorem SK:TS prog 174 1:=TS.of Yf
theorem aOZ:TZ prog 176 (.agg #[qN,qN,qI 0,qI 0,qN]):=TZ.of Yf
theorem aQM:TP prog 176 [(0,4),(4,1)]:=TP.of underlying176 Yf Yf
theorem pE:TF prog 176 1 4:=TF.of underlying176 rfl SK rfl
theorem jS:TA prog 179 true:=TA.of underlying179 _ rfl
theorem dW:TS prog 179 9:=TS.of Yf
theorem qW:TZ prog 179 (.agg #[qI 0,qI 0,qI 0,qI 0,qI 0,qI 0,qI 0,qI 0,qI 0]):=TZ.of Yf
theorem aNT:(prog.info? 179).map (fun i=>Nat.ble 1 i.bytes&&Nat.ble i.bytes 4096)=some true:=by kernel_rfl
theorem e8:TA prog 186 true:=TA.of underlying186 _ rfl
theorem rK:TS prog 186 10:=TS.of Yf
theorem aNG:TZ prog 186 (.agg #[qI 0,qI 0,qI 0,qI 0,qI 0,qI 0,qI 0,qI 0,qI 0,qI 0]):=TZ.of Yf
theorem tJ:TA prog 188 false:=TA.of underlying188 _ rfl
theorem aMV:TS prog 188 1:=TS.of Yf
theorem aPD:TZ prog 188 (.pointer none):=TZ.of Yf
theorem oH:TA prog 191 false:=TA.of underlying191 _ rfl
theorem a8:TS prog 191 1:=TS.of Yf
theorem d7:TZ prog 191 (.nilFunc):=TZ.of Yf
theorem UZ:TA prog 192 false:=TA.of underlying192 _ rfl
theorem aLE:TS prog 192 1:=TS.of Yf
theorem VL:TZ prog 195 (.agg #[.nilFunc]):=TZ.of Yf
theorem UL:TP prog 195 [(0,1)]:=TP.of underlying195 Yf Yf
theorem ER:TF prog 195 0 0:=TF.of underlying195 rfl aLE rfl
theorem VJ:TA prog 198 false:=TA.of underlying198 _ rfl
theorem aKM:TS prog 198 1:=TS.of Yf
theorem aPV:TZ prog 198 (.nilFunc):=TZ.of Yf
theorem rG:TA prog 205 true:=TA.of underlying205 _ rfl
theorem nG:TS prog 205 4:=TS.of Yf
theorem aPN:TZ prog 205 (.agg #[qI 0,qI 0,qI 0,qI 0]):=TZ.of Yf
theorem jT:TA prog 207 true:=TA.of underlying207 _ rfl
theorem bN:TS prog 207 10:=TS.of Yf
theorem eD:TZ prog 207 (.agg #[qI 0,qI 0,qI 0,qI 0,qI 0,qI 0,qI 0,qI 0,qI 0,qI 0]):=TZ.of Yf
theorem gE:(prog.info? 207).map (fun i=>Nat.ble 1 i.bytes&&Nat.ble i.bytes 4096)=some true:=by kernel_rfl
theorem aLR:TP prog 207 [(0,4),(4,4),(8,1),(9,1)]:=TP.of underlying207 Yf Yf
theorem rP:TF prog 207 0 0:=TF.of underlying207 rfl nG rfl
theorem rU:TF prog 207 1 4:=TF.of underlying207 rfl nG rfl
theorem nY:TF prog 207 2 8:=TF.of underlying207 rfl aL rfl
theorem R4:TF prog 207 3 9:=TF.of underlying207 rfl aL rfl
theorem aNL:TA prog 208 false:=TA.of underlying208 _ rfl
theorem tW:TA prog 210 false:=TA.of underlying210 _ rfl
theorem P8:TS prog 210 1:=TS.of Yf
theorem TO:TZ prog 210 (qN):=TZ.of Yf
theorem e7:TA prog 212 false:=TA.of underlying212 _ rfl
theorem VZ:TA prog 215 false:=TA.of underlying215 _ rfl
theorem aMK:TS prog 215 1:=TS.of Yf
theorem TV:TS prog 218 1:=TS.of Yf
theorem FO:TZ prog 218 (.agg #[.nilFunc]):=TZ.of Yf
theorem aQJ:TP prog 218 [(0,1)]:=TP.of underlying218 Yf Yf
theorem CI:TF prog 218 0 0:=TF.of underlying218 rfl aMK rfl
theorem GB:TA prog 219 false:=TA.of underlying219 _ rfl
theorem aOR:TS prog 219 1:=TS.of Yf
theorem aOA:TZ prog 219 (.nilFunc):=TZ.of Yf
theorem aMN:TA prog 223 true:=TA.of underlying223 _ rfl
theorem rD:TS prog 223 2:=TS.of Yf
theorem tG:TZ prog 223 (.agg #[qI 0,qI 0]):=TZ.of Yf
theorem HS:(prog.info? 223).map (fun i=>Nat.ble 1 i.bytes&&Nat.ble i.bytes 4096)=some true:=by kernel_rfl
theorem aOT:TP prog 223 [(0,1),(1,1)]:=TP.of underlying223 Yf Yf
theorem YN:TF prog 223 0 0:=TF.of underlying223 rfl aL rfl
theorem aAL:TF prog 223 1 1:=TF.of underlying223 rfl aL rfl
theorem aMI:TS prog 240 1:=TS.of Yf
theorem UV:TZ prog 240 (.agg #[qI 0]):=TZ.of Yf
theorem aMR:TP prog 240 [(0,1)]:=TP.of underlying240 Yf Yf
theorem aBI:TF prog 240 0 0:=TF.of underlying240 rfl pG rfl
theorem aMC:TA prog 242 false:=TA.of underlying242 _ rfl
theorem aQL:TS prog 242 1:=TS.of Yf
theorem aMF:TS prog 244 2:=TS.of Yf
theorem eU:TZ prog 244 (.agg #[qI 0,.nilFunc]):=TZ.of Yf
theorem gF:TP prog 244 [(0,1),(1,1)]:=TP.of underlying244 Yf Yf
theorem ZE:TF prog 244 0 0:=TF.of underlying244 rfl aL rfl
theorem YD:TF prog 244 1 1:=TF.of underlying244 rfl aQL rfl
theorem aKR:TZ prog 253 (.agg #[qN,qN,qI 0,qI 0,qI 0,qN,qI 0,qN,qN,qI 0,qI 0,qI 0,qN,qN,qN,qI 0,qN]):=TZ.of Yf
theorem aOQ:TP prog 253 [(0,17)]:=TP.of underlying253 Yf Yf
theorem aY:TF prog 253 0 0:=TF.of underlying253 rfl dK rfl
theorem aQF:TA prog 255 true:=TA.of underlying255 _ rfl
theorem VH:TS prog 255 3:=TS.of Yf
theorem VS:TZ prog 255 (.agg #[.int .u8 0,.int .u8 0,.int .u8 0]):=TZ.of Yf
theorem J6:TA prog 257 true:=TA.of underlying257 _ rfl
theorem pK:TS prog 257 4:=TS.of Yf
theorem SX:TZ prog 257 (.agg #[.int .u8 0,.int .u8 0,.int .u8 0,.int .u8 0]):=TZ.of Yf
theorem HJ:TA prog 259 true:=TA.of underlying259 _ rfl
theorem tU:TS prog 259 7:=TS.of Yf
theorem wN:TZ prog 259 (.agg #[.int .u8 0,.int .u8 0,.int .u8 0,.int .u8 0,.int .u8 0,.int .u8 0,.int .u8 0]):=TZ.of Yf
theorem EZ:TP prog 259 [(0,3),(3,4)]:=TP.of underlying259 Yf Yf
theorem S8:TF prog 259 0 0:=TF.of underlying259 rfl VH rfl
theorem aBF:TF prog 259 1 3:=TF.of underlying259 rfl pK rfl
theorem aPZ:TA prog 268 false:=TA.of underlying268 _ rfl
theorem aQI:TA prog 271 false:=TA.of underlying271 _ rfl
theorem SF:TA prog 275 false:=TA.of underlying275 _ rfl
theorem aMG:TS prog 275 1:=TS.of Yf
theorem rE:TA prog 276 false:=TA.of underlying276 _ rfl
theorem TW:TS prog 276 1:=TS.of Yf
theorem aMJ:TZ prog 278 (.agg #[qI 0,qN,qI 0,qN,qN,qN,.map none]):=TZ.of Yf
theorem aQG:TP prog 278 [(0,5),(5,1),(6,1)]:=TP.of underlying278 Yf Yf
theorem CN:TF prog 278 0 0:=TF.of underlying278 rfl eW rfl
theorem kX:TF prog 278 1 5:=TF.of underlying278 rfl TW rfl
theorem ES:TF prog 278 2 6:=TF.of underlying278 rfl aMG rfl
theorem nL:TA prog 282 true:=TA.of underlying282 _ rfl
theorem iZ:TS prog 282 10:=TS.of Yf
theorem K7:TZ prog 282 (.agg #[qI 0,qI 0,qI 0,qI 0,qI 0,qI 0,qI 0,qI 0,qI 0,qI 0]):=TZ.of Yf
theorem aMS:(prog.info? 282).map (fun i=>Nat.ble 1 i.bytes&&Nat.ble i.bytes 4096)=some true:=by kernel_rfl
theorem aOK:TS prog 285 2:=TS.of Yf
theorem SS:TZ prog 285 (.agg #[qI 0,qI 0]):=TZ.of Yf
theorem aLI:TP prog 285 [(0,1),(1,1)]:=TP.of underlying285 Yf Yf
theorem YY:TF prog 285 0 0:=TF.of underlying285 rfl aL rfl
theorem aAR:TF prog 285 1 1:=TF.of underlying285 rfl aL rfl
theorem aNN:TA prog 288 false:=TA.of underlying288 _ rfl
theorem aPJ:TA prog 289 false:=TA.of underlying289 _ rfl
theorem GZ:TA prog 295 false:=TA.of underlying295 _ rfl
theorem aLB:TS prog 295 1:=TS.of Yf
theorem VO:TZ prog 297 (.agg #[qI 0,qI 0,qI 0,qN,qN,.map none]):=TZ.of Yf
theorem SR:TP prog 297 [(0,5),(5,1)]:=TP.of underlying297 Yf Yf
theorem vZ:TF prog 297 0 0:=TF.of underlying297 rfl dO rfl
theorem S7:TF prog 297 1 5:=TF.of underlying297 rfl aLB rfl
theorem L6:TA prog 303 false:=TA.of underlying303 _ rfl
theorem aNQ:TS prog 303 1:=TS.of Yf
theorem jR:TZ prog 303 (qN):=TZ.of Yf
theorem aLQ:TA prog 305 false:=TA.of underlying305 _ rfl
theorem aOD:TA prog 307 false:=TA.of underlying307 _ rfl
theorem TE:TA prog 309 false:=TA.of underlying309 _ rfl
theorem aPF:TS prog 309 1:=TS.of Yf
theorem aKA:TZ prog 311 (.agg #[qN,qI 0,qN,.map none]):=TZ.of Yf
theorem aKL:TP prog 311 [(0,3),(3,1)]:=TP.of underlying311 Yf Yf
theorem zP:TF prog 311 0 0:=TF.of underlying311 rfl iD rfl
theorem EG:TF prog 311 1 3:=TF.of underlying311 rfl aPF rfl
theorem IG:TA prog 315 false:=TA.of underlying315 _ rfl
theorem aKD:TS prog 315 1:=TS.of Yf
theorem aLU:TZ prog 315 (qN):=TZ.of Yf
theorem Q2:TA prog 317 true:=TA.of underlying317 _ rfl
theorem xB:TS prog 317 7:=TS.of Yf
theorem qY:TA prog 319 true:=TA.of underlying319 _ rfl
theorem gO:TS prog 319 9:=TS.of Yf
theorem tO:TZ prog 319 (.agg #[qI 0,qI 0,qI 0,qI 0,qI 0,qI 0,qI 0,qI 0,qI 0]):=TZ.of Yf
theorem FL:(prog.info? 319).map (fun i=>Nat.ble 1 i.bytes&&Nat.ble i.bytes 4096)=some true:=by kernel_rfl
theorem A6:TF prog 319 0 0:=TF.of underlying319 rfl aL rfl
theorem S1:TF prog 319 1 1:=TF.of underlying319 rfl aL rfl
theorem zT:TF prog 319 2 2:=TF.of underlying319 rfl xB rfl
theorem aPQ:TA prog 347 false:=TA.of underlying347 _ rfl
theorem aNJ:TA prog 349 false:=TA.of underlying349 _ rfl
theorem aOI:TA prog 352 false:=TA.of underlying352 _ rfl
theorem HN:TA prog 358 true:=TA.of underlying358 _ rfl
theorem c7:TS prog 358 9:=TS.of Yf
theorem zI:TZ prog 358 (.agg #[qI 0,qI 0,qI 0,qI 0,qI 0,qI 0,qI 0,qI 0,qI 0]):=TZ.of Yf
theorem HH:TP prog 358 [(0,1),(1,4),(5,4)]:=TP.of underlying358 Yf Yf
theorem aLF:TA prog 362 false:=TA.of underlying362 _ rfl
theorem aNU:TA prog 363 false:=TA.of underlying363 _ rfl
theorem VC:TA prog 367 true:=TA.of underlying367 _ rfl
theorem SL:TS prog 367 8:=TS.of Yf
theorem FT:TZ prog 367 (.agg #[qI 0,qI 0,qI 0,qI 0,qI 0,qI 0,qI 0,qI 0]):=TZ.of Yf
theorem HU:TP prog 367 [(0,1),(1,7)]:=TP.of underlying367 Yf Yf
theorem S4:TF prog 367 0 0:=TF.of underlying367 rfl aL rfl
theorem T6:TF prog 367 1 1:=TF.of underlying367 rfl xB rfl
theorem HR:TA prog 381 false:=TA.of underlying381 _ rfl
theorem aLO:TS prog 381 1:=TS.of Yf
theorem aNY:TZ prog 384 (.agg #[.nilFunc]):=TZ.of Yf
theorem aQD:TP prog 384 [(0,1)]:=TP.of underlying384 Yf Yf
theorem S5:TF prog 384 0 0:=TF.of underlying384 rfl aLO rfl

end Go.Fs
namespace Go.Fs.C1
structure wI where
 back:Bool
 many:Int
 num:Int
 deriving DecidableEq
structure eC where
 places:List Int
 counts:List wI
 wrong:Int
 off:Int
 deriving DecidableEq
def iK(n lo hi:Int):Bool:=decide (lo≤n)&&decide (n≤hi)
def qX(n:Int):Bool:=iK n 0 2
def pU(len:Nat)(c:wI):Bool:=iK c.many 0 len&&iK c.num 0 9
def bB(r:eC):Int:=
 if 9<r.places.length∨6<r.counts.length then 3
 else if r.places.length=0∨iK r.wrong 0 6=false∨iK r.off 0 9=false∨r.places.all qX=false∨r.counts.all (pU r.places.length)=false then 1
 else 0
def lI(l:List Int):Nat:=(l.filter (· ==2)).length
def SC(t p:Int):Bool:=iK t 0 1&&(p==2||t==p)
def rF(r:eC)(t:List Int):Bool:=(t.length==r.places.length)&&(t.zip r.places).all fun x=>SC x.1 x.2
def eB(l:List Int)(i k:Nat):Int:=((l.drop i).take k).sum
def i7(t:List Int)(c:wI):Int:=if c.back then eB t (t.length-c.many.toNat) c.many.toNat else eB t 0 c.many.toNat
def jX(t:List Int)(c:wI):Int:=max (i7 t c-c.num) (c.num-i7 t c)
def fH(r:eC)(t:List Int):Bool:=r.counts.all fun c=>decide (jX t c≤r.off)
def sE(r:eC)(t:List Int):Nat:=(r.counts.filter fun c=>decide (0<jX t c)).length
def dQ:List Int→List (List Int)
 | []=>[[]]
 |p::ps=>(if p=2∨p=0 then(dQ ps).map (0:: ·)else [])++(if p=2∨p=1 then(dQ ps).map (1:: ·)else [])
def fits(r:eC)(t:List Int):Bool:=fH r t&&decide ((sE r t:Int)≤r.wrong)
def truths(r:eC):List (List Int):=(dQ r.places).filter (fits r)
def oR(t:List Int)(i j:Nat):Int:=eB t i (j+1-i)
def uC:List Int→Int
 | []=>0
 |x::xs=>xs.foldl min x
def sP:List Int→Int
 | []=>0
 |x::xs=>xs.foldl max x

theorem P5{l:List Int}{i k:Nat}{x:Int}(h:l[i+k]?= some x):eB l i (k+1)=eB l i k+x:=by
 unfold eB;rw[aYG,bAD,h];simp
theorem gP{l:List Int}(hb:∀x∈l,0≤x∧x≤1)(i k:Nat):0≤eB l i k∧eB l i k≤k:=by
 induction k with
 |zero=>simp[eB]
 |succ k ih=>
  cases h:l[i+k]? with
  |none=>
   have:eB l i (k+1)=eB l i k:=by
    unfold eB;rw[aYG,bAD,h];simp
   rw[this];omega
  |some x=>rw[P5 h];have:=hb x (LT h);omega
theorem B8(l:List Int)(i k m:Nat):eB l i (k+m)=eB l i k+eB l (i+k) m:=by
 unfold eB;rw[List.take_add,bBX];simp
def fL(t:List Int):List Int:=t++List.replicate (9-t.length) 0
theorem gX{t:List Int}(h:t.length≤9):(fL t).length=9:=by simp[fL];omega
theorem RM{t:List Int}(h:∀x∈t,0≤x∧x≤1):∀x∈fL t,0≤x∧x≤1:=by
 intro x hx;rcases aYD.1 hx with hx|hx
 ·exact h x hx
 ·rw[(List.mem_replicate.1 hx).2];omega
theorem I6(n:Nat):(List.replicate n (0:Int)).sum=0:=by
 induction n with
 |zero=>rfl
 |succ n ih=>rw[List.replicate_succ,List.sum_cons,ih];rfl
theorem JK(t:List Int)(k:Nat):eB (fL t) 0 k=eB t 0 k:=by
 unfold eB fL;simp only[bBF,List.take_append,List.sum_append,List.take_replicate,I6];omega
def mM(c:List Int):List Int:=(List.range 10).map fun k=>eB c 0 k
def pM(c:List Int)(k:Nat):List Int:=(List.range 10).map fun j=>if j≤k then eB c 0 j else 0
theorem pJ(c:List Int):(mM c).length=10:=by simp[mM]
theorem y5(c:List Int)(k:Nat):(pM c k).length=10:=by simp[pM]
theorem HY(c:List Int):pM c 9=mM c:=by simp[pM,mM,List.range,List.range.loop]
theorem JW(c:List Int)(k:Nat)(h:k<10):(pM c k)[k]?= some (eB c 0 k):=by simp[pM,h]
theorem NE(c:List Int)(k:Nat):(pM c k).set (k+1) (eB c 0 (k+1))=pM c (k+1):=by
 apply bCN;intro j;rw[List.getElem?_set];simp only[pM,aYQ];by_cases hj:k+1=j
 ·subst hj;by_cases hk:k+1<10
  ·simp[hk]
  ·simp[hk]
 ·rw[aYC hj];by_cases hk:j<10
  ·simp only[bCG hk,aYX];by_cases h1:j≤k
   ·rw[aYJ h1,aYJ Yd]
   ·rw[aYC h1,aYC Yd]
  ·simp[hk]
theorem sR(c:List Int)(k:Nat)(h:k<10):(mM c)[k]?= some (eB c 0 k):=by simp[mM,h]
theorem NJ(t:List Int):mM (fL t)=mM t:=by simp[mM,JK]

structure tN(r:eC):Prop where
 len0:0<r.places.length
 len9:r.places.length≤9
 cnt6:r.counts.length≤6
 wrong:0≤r.wrong∧r.wrong≤6
 off:0≤r.off∧r.off≤9
 place:∀p∈r.places,0≤p∧p≤2
 cnt:∀c∈r.counts,0≤c.many∧c.many≤r.places.length∧0≤c.num∧c.num≤9
theorem dA{n lo hi:Int}:iK n lo hi=true ↔ lo≤n∧n≤hi:=by simp[iK]
theorem EB{r:eC}:bB r=0 ↔ tN r:=by
 unfold bB;constructor
 ·intro h;split at h
  ·cases h
  ·split at h
   ·cases h
   ·rename_i h1 h2;simp only[not_or]at h1 h2;obtain⟨a,b,c,d,e⟩:=h2;simp only[Bool.not_eq_false,aYL,qX,pU,aYB,dA]at b c d e;exact⟨by omega,by omega,by omega,b,c,d,fun x hx=>⟨(e x hx).1.1,(e x hx).1.2,(e x hx).2.1,(e x hx).2.2⟩⟩
 ·intro h;rw[aYC (by have:=h.len9;have:=h.cnt6;omega),aYC]
  simp only[not_or,Bool.not_eq_false,aYL,qX,pU,aYB,dA];exact⟨by have:=h.len0;omega,h.wrong,h.off,h.place,fun x hx=>⟨⟨(h.cnt x hx).1,(h.cnt x hx).2.1⟩,(h.cnt x hx).2.2⟩⟩
def pP(r:eC)(t:List Int):Prop:=t.length=r.places.length∧∀x∈t,0≤x∧x≤1
def aXL(r:eC)(t:List Int):Bool:=(t.length==r.places.length)&&t.all (fun x=>iK x 0 1)&&(t.zip r.places).all fun x=>x.2==2||x.1==x.2
theorem K0{α β:Type}{p:α→Bool}:∀{l:List α} {m:List β},l.length=m.length→((l.zip m).all fun x=>p x.1)=l.all p
 | [],[],_=>rfl
 |a::l,b::m,h=>by simp only[bCJ,List.all_cons];rw[K0 Yar]
theorem aTO(r:eC)(t:List Int):aXL r t=rF r t:=by
 unfold aXL rF SC;by_cases h:t.length=r.places.length
 ·rw[←K0 h];simp only[h,beq_self_eq_true,bBL];rw[bAY];simp only[aYB,aYL];constructor
  ·rintro⟨h1,h2⟩ x hx;exact⟨h1 x hx,h2 x hx⟩
  ·intro h;exact⟨fun x hx=>(h x hx).1,fun x hx=>(h x hx).2⟩
 ·have:(t.length==r.places.length)=false:=by simpa using h
  simp[this]
theorem aSH{r:eC}{t:List Int}(h:rF r t=true):pP r t:=by
 rw[←aTO]at h;simp only[aXL,aYB,bCC,aYL,dA]at h;exact⟨h.1.1,h.1.2⟩
theorem OX{r:eC}{t:List Int}{c:wI}(ht:pP r t)(h0:0≤c.many)(h1:c.many≤r.places.length):
  i7 t c=if c.back then eB t 0 t.length-eB t 0 (t.length-c.many.toNat)else eB t 0 c.many.toNat:=by
 unfold i7;split
 ·have h:=B8 t 0 (t.length-c.many.toNat) c.many.toNat;rw[show t.length-c.many.toNat+c.many.toNat=t.length by rw[ht.1];omega,bAL]at h
  omega
 ·rfl
theorem X3{r:eC}{t:List Int}{c:wI}(ht:pP r t)(_h0:0≤c.many)(h1:c.many≤r.places.length)(h9:r.places.length≤9):0≤i7 t c∧i7 t c≤9:=by
 unfold i7;split
 ·have:=gP ht.2 (t.length-c.many.toNat) c.many.toNat;omega
 ·have:=gP ht.2 0 c.many.toNat;omega
theorem MH{r:eC}{t:List Int}{c:wI}(hr:tN r)(ht:pP r t)(hc:c∈r.counts):0≤jX t c∧jX t c≤9:=by
 obtain⟨a,b,d,e⟩:=hr.cnt c hc;have:=X3 ht a b hr.len9;unfold jX;omega

def MB(p:Int)(ps pre:List Int)(k:Nat):List (List Int):=(List.range k).flatMap fun(m:Nat)=>if p=2∨p=(m:Int)then(dQ ps).map (fun t=>fL (pre++(m:Int)::t))else []
theorem aFK{p:Int}{ps pre:List Int}:MB p ps pre 0=[]:=rfl
theorem aRT{p:Int}{ps pre:List Int}{k:Nat}(h:¬(p=2∨p=(k:Int))):MB p ps pre (k+1)=MB p ps pre k:=by
 unfold MB;rw[aZR,aYP];simp[h]
theorem TK{p:Int}{ps pre:List Int}{k:Nat}(h:p=2∨p=(k:Int)):MB p ps pre (k+1)=MB p ps pre k++(dQ ps).map (fun t=>fL (pre++[(k:Int)]++t)):=by
 unfold MB;rw[aZR,aYP];simp[h]
theorem VT{p:Int}{ps pre:List Int}:MB p ps pre 2=(dQ (p::ps)).map (fun t=>fL (pre++t)):=by
 by_cases h2:p=2
 ·simp[MB,dQ,List.range,List.range.loop,Function.comp_def,h2]
 ·by_cases h0:p=0
  ·simp[MB,dQ,List.range,List.range.loop,Function.comp_def,h0]
  ·by_cases h1:p=1
   ·simp[MB,dQ,List.range,List.range.loop,Function.comp_def,h1]
   ·have:¬(1:Int)=p:=fun e=>h1 e.symm
    simp[MB,dQ,List.range,List.range.loop,h2,h0,h1]
theorem aHM{p:Int}{ps pre:List Int}{k:Nat}(hk:k<2):∃r,MB p ps pre 2=MB p ps pre (k+1)++r:=by
 rcases(by omega:k=0∨k=1)with rfl|rfl
 ·refine⟨if p=2∨p=1 then(dQ ps).map (fun t=>fL (pre++1::t))else [],?_⟩;simp[MB,List.range,List.range.loop]
 ·exact⟨[],by simp⟩
theorem MT{pre c:List Int}{n:Nat}(_h9:c.length=9)(hp:c.take n=pre)(hn:pre.length=n)(hz:c.drop n=List.replicate (9-n) 0):c=fL pre:=by
 rw[←bAJ n c,hp,hz];unfold fL;rw[hn]
theorem OD{pre c:List Int}{i n:Nat}{k:Int}(h9:c.length=9)(hi:i<n)(hn:n≤9)(hp:c.take i=pre)(hz:c.drop n=List.replicate (9-n) 0):
  (c.set i k).length=9∧(c.set i k).take (i+1)=pre++[k]∧(c.set i k).drop n=List.replicate (9-n) 0:=by
 refine⟨by simpa using h9,?_,?_⟩
 ·rw[List.take_succ_eq_append_getElem Yam,List.take_set_of_le (aYI _),hp];simp
 ·rw[List.drop_set_of_lt hi,hz]
theorem yX(l:List Int):(dQ l).length≤2^l.length:=by
 induction l with
 |nil=>simp[dQ]
 |cons p ps ih=>
  simp only[dQ,GT,aXY,Nat.pow_succ];have:∀(c:Prop) [Decidable c] (f:List Int→List Int),(if c then(dQ ps).map f else []).length≤(dQ ps).length:=by intro c _ f;split<;>simp
  have h1:=this (p=2∨p=0) (0:: ·);have h2:=this (p=2∨p=1) (1:: ·);omega
theorem rC{l t:List Int}(h:t∈dQ l):t.length=l.length∧∀x∈t,0≤x∧x≤1:=by
 induction l generalizing t with
 |nil=>simp[dQ]at h;subst h;simp
 |cons p ps ih=>
  simp only[dQ,aYD]at h;rcases h with h|h
  ·split at h
   ·obtain⟨t',ht',rfl⟩:=n4.1 h;refine⟨by simp[(ih ht').1],fun x hx=>?_⟩;rcases GE.1 hx with rfl|hx
    ·omega
    ·exact(ih ht').2 x hx
   ·simp at h
  ·split at h
   ·obtain⟨t',ht',rfl⟩:=n4.1 h;refine⟨by simp[(ih ht').1],fun x hx=>?_⟩;rcases GE.1 hx with rfl|hx
    ·omega
    ·exact(ih ht').2 x hx
   ·simp at h
theorem zF{places x:List Int}{pre r:List (List Int)}(h:(dQ places).map fL=pre++x::r):∃t,(dQ places)[pre.length]?= some t∧x=fL t∧t∈dQ places∧(dQ places).take (pre++[x]).length=(dQ places).take pre.length++[t]:=by
 have h1:((dQ places).map fL)[pre.length]?= some x:=by rw[h];simp
 rw[aYQ,bAE]at h1;obtain⟨t,ht,hx⟩:=h1;refine⟨t,ht,hx.symm,LT ht,?_⟩;rw[GT,bBE,aYG,ht];rfl
def eG(r:eC)(fine:Bool):Int:=if bB r≠0 then bB r else if fine=false then 2 else if truths r=[]then 11 else 0
def sJ(r:eC)(i j:Int):Bool:=iK i 0 (r.places.length-1)&&iK j i (r.places.length-1)

def aJG(ts:List (List Int))(i j:Nat):Int:=uC (ts.map fun t=>oR t i j)
def aDL(ts:List (List Int))(i j:Nat):Int:=sP (ts.map fun t=>oR t i j)
theorem AQ(l:List Int)(a:Int)(h:l[0]?= some a):l.foldl min a=uC l:=by
 cases l with
 |nil=>simp at h
 |cons x l=>simp at h;subst h;simp[uC]
theorem AG(l:List Int)(a:Int)(h:l[0]?= some a):l.foldl max a=sP l:=by
 cases l with
 |nil=>simp at h
 |cons x l=>simp at h;subst h;simp[sP]
theorem HT{t:List Int}(hb:∀x∈t,0≤x∧x≤1)(i j:Nat)(hj:j<9):0≤oR t i j∧oR t i j≤9:=by
 unfold oR;have:=gP hb i (j+1-i);omega
def vd(ts:List (List Int))(q:List Int→Bool):Int:=
 match ts with
 | []=>1
 |t0::_=>if(ts.all fun t=>q t==q t0)=true then(if q t0=true then 1 else 2)else 3
theorem aEE{ts:List (List Int)}{q:List Int→Bool}{t0:List Int}(h0:ts[0]?= some t0){j:Nat}(hj:ts.length≤j)(h:(ts.take j).all (fun t=>q t==q t0)=true):vd ts q=if q t0=true then 1 else 2:=by
 rw[aYO hj]at h;cases ts with
 |nil=>simp at h0
 |cons x l=>simp at h0;subst h0;simp only[vd];rw[aYJ h]
theorem aQR{ts:List (List Int)}{q:List Int→Bool}{t0 t:List Int}(h0:ts[0]?= some t0){j:Nat}(hj:ts[j]?= some t)(h:(!(q t==q t0))=true):vd ts q=3:=by
 cases ts with
 |nil=>simp at h0
 |cons x l=>
  simp only[List.getElem?_cons_zero,bCM]at h0;subst h0;simp only[vd]
  rw[aYC];intro ha;have:=aYL.1 ha t (LT hj);simp[this]at h
def aIY(i:Nat)(t:List Int):Bool:=decide (0<t.getD i 0)
def wJ(r:eC)(i:Nat)(t:List Int):Bool:=match r.counts[i]? with|some c=>decide (jX t c=0)|none=>false
theorem aFZ{t:List Int}{i:Nat}(h:i<9)(h9:t.length≤9):(fL t)[i]?= some (t.getD i 0):=by
 unfold fL;by_cases hi:i<t.length
 ·rw[bAK hi,aZQ,aXT hi];rfl
 ·rw[bCQ Yd,List.getElem?_replicate,aYJ Yd,aZQ,bAT Yd];rfl
theorem A7{r:eC}{t:List Int}(h:t∈truths r):pP r t:=rC (List.mem_filter.1 h).1


def kY(r:eC)(o:Option Int)(t:List Int):Option Int:=if fH r t=true then some (match o with|none=>(sE r t:Int)|some m=>min m (sE r t))else o
def nE(r:eC)(us:List (List Int)):Option Int:=us.foldl (kY r) none
theorem xC(r:eC)(us:List (List Int))(t:List Int):nE r (us++[t])=kY r (nE r us) t:=by simp[nE,aZM]
theorem GF{r:eC}{o:Option Int}{t:List Int}{w:Int}(h:∃m,o=some m∧m≤w):∃m,kY r o t=some m∧m≤w:=by
 obtain⟨m,rfl,hm⟩:=h;unfold kY;split
 ·exact⟨_,rfl,by simp only;omega⟩
 ·exact⟨m,rfl,hm⟩
theorem L4{r:eC}{w:Int}:∀(us:List (List Int)) (o:Option Int),(∃m,o=some m∧m≤w)→∃m,us.foldl (kY r) o=some m∧m≤w
 | [],o,h=>h
 |t::us,o,h=>by rw[aZY];exact L4 us _ (GF h)
theorem C6{r:eC}{t:List Int}(he:fH r t=true):∀(us:List (List Int)) (o:Option Int),t∈us→∃m,us.foldl (kY r) o=some m∧m≤(sE r t:Int)
 |u::us,o,h=>by
  rw[aZY];rcases GE.1 h with rfl|h
  ·refine L4 us _ ?_;unfold kY;rw[aYJ he];refine⟨_,rfl,?_⟩;split<;>omega
  ·exact C6 he us _ h
theorem BJ{r:eC}{us:List (List Int)}{t:List Int}(h:t∈us):nE r (us++[t])=nE r us:=by
 rw[xC];unfold kY;split
 ·rename_i he;obtain⟨m,hm,hle⟩:=C6 he us none h;have:nE r us=some m:=hm;rw[this];simp only;rw[Int.min_eq_left hle]
 ·rfl
theorem aJI{t u:List Int}(hl:t.length=u.length)(h:fL t=fL u):t=u:=by
 have:=aXV (List.take t.length) h;unfold fL at this;rw[bBW,hl,bBW]at this;exact this
def zB(r:eC)(pre:List (List Int))(g:Option Int×List Int):Prop:=g.1=nE r ((dQ r.places).take pre.length)∧g.2.length=9∧∀u,((dQ r.places).take pre.length).getLast?= some u→g.2=fL u
theorem NR{r:eC}{pre:List (List Int)}{o:Option Int}{last t:List Int}(h:zB r pre (o,last))(ht:t∈dQ r.places)(htake:(dQ r.places).take (pre++[fL t]).length=(dQ r.places).take pre.length++[t])(hc:(o.isSome&&(fL t==last))=true):zB r (pre++[fL t]) (o,last):=by
 obtain⟨h1,h2,h3⟩:=h;simp only[aYB,bCC]at hc;obtain⟨ho,hl⟩:=hc;cases hg:((dQ r.places).take pre.length).getLast? with
 |none=>
  rw[List.getLast?_eq_none_iff]at hg;rw[hg]at h1;simp only at h1;rw[h1]at ho;cases ho
 |some u=>
  have hu:=List.mem_of_getLast? hg;have h4:=h3 u hg;simp only at h4;have hut:t=u:=aJI (by rw[(rC ht).1,(rC (bBZ hu)).1]) (by rw[hl,h4]);subst hut;refine⟨?_,h2,fun v hv=>?_⟩
  ·rw[htake,BJ hu];exact h1
  ·rw[htake,List.getLast?_concat]at hv;cases hv;exact h4
theorem YV{r:eC}{pre:List (List Int)}{o:Option Int}{last t:List Int}(h:zB r pre (o,last))(h9:(fL t).length=9)(htake:(dQ r.places).take (pre++[fL t]).length=(dQ r.places).take pre.length++[t])
  (hc:(fH r t&&(!o.isSome||decide ((if fH r t=true then(sE r t:Int)else 0)<o.getD 0)))=true):zB r (pre++[fL t]) (some (if fH r t=true then(sE r t:Int)else 0),fL t):=by
 obtain⟨h1,h2,h3⟩:=h;simp only[aYB]at hc;obtain⟨he,hc⟩:=hc;refine⟨?_,h9,fun v hv=>?_⟩
 ·simp only at h1;rw[htake,xC,←h1];simp only[kY,he,aZU]at hc ⊢
  cases o with
  |none=>rfl
  |some m=>
   simp only[Option.isSome_some,bCO,Bool.false_or,aYM,bAZ]at hc;simp only;rw[Int.min_eq_right Yd]
 ·rw[htake,List.getLast?_concat]at hv;cases hv;rfl
theorem aIR{r:eC}{pre:List (List Int)}{o:Option Int}{last t:List Int}(h:zB r pre (o,last))(h9:(fL t).length=9)(htake:(dQ r.places).take (pre++[fL t]).length=(dQ r.places).take pre.length++[t])
  (hc:(fH r t&&(!o.isSome||decide ((if fH r t=true then(sE r t:Int)else 0)<o.getD 0)))=false):zB r (pre++[fL t]) (o,fL t):=by
 obtain⟨h1,h2,h3⟩:=h;refine⟨?_,h9,fun v hv=>?_⟩
 ·simp only at h1;rw[htake,xC,←h1];unfold kY;split
  ·rename_i he;simp only[he,bBL,aZU]at hc;cases o with
   |none=>simp at hc
   |some m=>
    simp only[Option.isSome_some,bCO,Bool.false_or,aZK,bAZ]at hc;simp only;rw[Int.min_eq_left Yd]
  ·rfl
 ·rw[htake,List.getLast?_concat]at hv;cases hv;rfl
def uE(r:eC):Int:=if bB r≠0 then 0 else(nE r (dQ r.places)).getD 0
def R0(r:eC):Int:=if bB r≠0 then bB r else if(nE r (dQ r.places)).isSome=true then 0 else 10
theorem LK{r:eC}{o:Option Int}(ho:o=nE r (dQ r.places))(hf:bB r=0)(h:(!o.isSome)=true):uE r=0∧R0 r=10:=by
 have hn:o=none:=by simpa using h
 rw[uE,R0,←ho,hn,hf];exact⟨rfl,rfl⟩
theorem MW{r:eC}{o:Option Int}(ho:o=nE r (dQ r.places))(hf:bB r=0)(h:(!o.isSome)=false):uE r=o.getD 0∧R0 r=0:=by
 have hn:o.isSome=true:=by simpa using h
 rw[uE,R0,←ho,hf,hn];exact⟨rfl,rfl⟩

end Go.Fs.C1
namespace Go.Fs
open C1
def RC:Rd wI:=fun _ c cs=>cs=[.bool c.back,qI c.many,qI c.num]
theorem RC.up:RC.Up:=fun _ _ _ h=>h
def iV(n:Int):Value:=qI n
def cV(c:wI):Value:=.agg #[.bool c.back,qI c.many,qI c.num]
def nX(D:aC)(v:Value)(r:eC):Prop:=∃pv cv,v=.agg #[pv,cv,qI r.wrong,qI r.off]∧Sl D RI 1 pv r.places∧Sl D RC 3 cv r.counts
theorem nX.up{D D':aC}{v:Value}{r:eC}(h:nX D v r)(hl:Le D D'):nX D' v r:=by
 obtain⟨pv,cv,hv,hp,hc⟩:=h;exact⟨pv,cv,hv,hp.up RI.up hl,hc.up RC.up hl⟩
def idxOf{α:Type}(p:α→Bool)(xs:List α):Int:=if xs.any p then(xs.findIdx p:Int)else -1
def RT:Rd (List Int):=fun _ t cs=>cs=ints (fL t)
theorem RT.up:RT.Up:=fun _ _ _ h=>h
def aGW(D:aC)(v:Value)(r:eC):Prop:=∃b pv cv tv,v=qP b∧At D b 0 [pv,cv,qI r.wrong,qI r.off,tv]∧Sl D RI 1 pv r.places∧Sl D RC 3 cv r.counts∧Sl D RT 9 tv (truths r)
def G7(e:Nat)(r:eC)(pre:List (List Int))(g:Value×aD):Prop:=bZ e 9 g.1 (((dQ r.places).take pre.length).filter (fits r)).length ((((dQ r.places).take pre.length).filter (fits r)).flatMap fun t=>ints (fL t)) g.2
theorem MN{l:List (List Int)}(h:∀t∈l,t.length≤9):(l.flatMap fun t=>ints (fL t)).length=l.length*9:=by
 induction l with
 |nil=>rfl
 |cons t l ih=>
  rw[aZD,GT,ih (fun t ht=>h t (LE _ ht)),aXY,Fs.aN,gX (h t aXW),bAG];omega
theorem aEP{l:List (List Int)}(h:∀t∈l,t.length≤9){i:Nat}{t:List Int}(hi:l[i]?= some t):((l.flatMap fun t=>ints (fL t)).drop (i*9)).take 9=ints (fL t):=by
 induction l generalizing i with
 |nil=>simp at hi
 |cons u l ih=>
  have hu:(ints (fL u)).length=9:=by rw[Fs.aN,gX (h u aXW)]
  rw[aZD];cases i with
  |zero=>
   obtain rfl:u=t:=by simpa using hi
   rw[bBS,bBF,aZA Yd,aYO Yd]
  |succ i=>
   rw[bBO,aYV Yd,aYT,hu,show(i+1)*9-9=i*9 by omega];exact ih (fun t ht=>h t (LE _ ht)) Yap
theorem mH.truths{D:aC}{v:Value}{n:Nat}{l:List (List Int)}(hF:mH D v n (l.flatMap fun t=>Fs.ints (fL t)))(hn:l.length=n)(hb:n≤9223372036854775807)(h:∀t∈l,t.length≤9):Sl D RT 9 v l:=
 hF.sl hn hb fun i t hi=>⟨Fs.ints (fL t),rfl,by rw[Fs.aN,gX (h t (LT hi))],aEP h hi⟩
theorem aPG{e sz b:Nat}{cells:List Value}(h:cells.length=sz):bZ e sz (qS b 1 1) 1 cells [(b,.cells cells.toArray e (0,0))]:=
 aXR ⟨b,1,[],rfl,aYI _,by simp,by omega,by simp;omega⟩
theorem mH.at{D:aC}{b n cap:Nat}{cells:List Value}(h:mH D (qS b n cap) n cells)(hn:0<n):At D b 0 cells:=by
 rcases h with⟨a,hv,h0,_⟩|⟨b',cap',hv,_,hA⟩
 ·omega
 ·cases hv;exact hA
variable{P:Program}{X:Cx}{γb:Type}[Membership Nat γb]{bad:γb}{all:Array Oper}{K:Act→World→Prop}{Q:Exit→Act→World→Prop}
variable{σ:cG}{μ:aD}{Ds:List aC}{os:List (Bool×Nat)}{fl:Bool}{ix:Nat}
variable{d:Nat}{x y z:Operand}{u v:Value}{ty:TypeId}{pos:String}{aft:Array Edge}{g:Option (Nat×Bool)}
theorem cO{e:TypeId}{q:IntKind}(hu:P.underlying e=some (.int q)){xs:Array Value}{off:Nat}{v:Value}(hx:xs[off]?= some v)(w:World):(part e xs off).run P w=.ok v w:=
 run_part_plain w (by simp[Program.plainKey,hu]) hx
theorem mD(dp:Nat){e:TypeId}(hu:P.underlying e=some (.int .i64))(l m:List Int)(w:World):∀(is:List Nat),(∀i∈is,i<l.length∧i<m.length)→
  (Op.eqItems (dp+1) e 1 (ints l).toArray (ints m).toArray is).run P w=.ok (is.all fun i=>l[i]? ==m[i]?) w
 | [],_=>by simp[Op.eqItems,Sem.run_pure]
 |i::is,h=>by
  obtain⟨h1,h2⟩:=h i aXW;have g1:(ints l).toArray[i*1]?= some (qI l[i]):=by rw[bAF];simpa using cK (aXT h1)
  have g2:(ints m).toArray[i*1]?= some (qI m[i]):=by rw[bAF];simpa using cK (aXT h2)
  simp only[Op.eqItems,Sem.run_bind,cO hu g1,cO hu g2,run_equalIn_int w dp e .i64 .i64 _ _ hu,Result.andThen_ok,List.all_cons,aXT h1,aXT h2];by_cases he:l[i]=m[i]
  ·simp[he,mD dp hu l m w is (fun j hj=>h j (LE _ hj))]
  ·simp[he,Sem.run_pure]
theorem rL{l m:List Int}{n:Nat}(hl:l.length=n)(hm:m.length=n):((List.range n).all fun i=>l[i]? ==m[i]?)=(l==m):=by
 rw[bAY];simp only[aYL,bAR,bCC];constructor
 ·intro h;apply bCN;intro i;by_cases hi:i<n
  ·exact h i hi
  ·rw[bAT Yd,bAT Yd]
 ·rintro rfl i _;rfl
theorem OS{t e t':TypeId}{n:Nat}{l m:List Int}(ho:all[ix]?= some ⟨some d,.binOp .eql t x y t',ty,pos,aft,g⟩)(hgt:P.eqGuardType P.depth t=false)(ht:P.underlying t=some (.array n e))(he:P.underlying e=some (.int .i64))(hc:P.cellsOf e=1)
  (hl:l.length=n) (hm:m.length=n) (hx:ev σ x=some (.agg (ints l).toArray)) (hy:ev σ y=some (.agg (ints m).toArray)) (hN:Nat.blt d X.N=true) (hg:dE all σ g)
  (kk:WL P X bad all K Q os ((d,.bool (l==m))::σ) μ Ds):WL P X bad all K Q ((fl,ix)::os) σ μ Ds:=
 yK ho (fun w=>by
  have hgd:(eqGuard .eql t x y (.agg (ints l).toArray) (.agg (ints m).toArray)).run P w=.ok () w:=by
   simp only[eqGuard,program];simp[Sem.run,hgt,go_sem]
  have heq:(Op.equal t (.agg (ints l).toArray) (.agg (ints m).toArray)).run P w=.ok (l==m) w:=by
   obtain⟨i,hi⟩:=info_of_underlying he;have h:=run_equalIn_array (P:=P) w 9999 (ints l).toArray (ints m).toArray ht hi;rw[hc,mD 9998 he l m w (List.range n) (fun j hj=>by have:=bAR.1 hj;omega),rL hl hm]at h
   exact h
  rw[Sem.run_bind,hgd];show((do Pure.pure (Value.bool (←Op.equal t (.agg (ints l).toArray) (.agg (ints m).toArray)))):Sem Value).run P w=_;rw[Sem.run_bind,heq];rfl) hx hy hN hg kk

def K2(P:Program)(k:TypeId):Prop:=P.underlying k=some (.struct (P.fieldsOf k))∧P.stoodInHeld k=false∧
 (P.fieldsOf k).toList.map (fun f=>(f.name== "_",f.offset,P.underlying f.type))=[(false,0,some (.int .i64)),(false,1,some (.int .i64))]
def lJ(k:Int×Int):Value:=.agg #[qI k.1,qI k.2]
theorem K2.fields{k:TypeId}(h:K2 P k):∃f0 f1,P.underlying k=some (.struct #[f0,f1])∧P.fieldsOf k=#[f0,f1]∧f0.name≠ "_" ∧f1.name≠ "_" ∧f0.offset=0∧f1.offset=1∧P.underlying f0.type=some (.int .i64)∧P.underlying f1.type=some (.int .i64):=by
 obtain⟨h1,h2,h3⟩:=h;generalize hl:(P.fieldsOf k).toList=fs at h3;have h0:=aXV List.length h3;simp only[aZL,aXY,aYW]at h0;rcases fs with _|⟨f0,_|⟨f1,_|⟨f2,fs⟩⟩⟩<;>simp only[aXY,aYW]at h0<;>try omega
 have he:P.fieldsOf k=#[f0,f1]:=by rw[←Array.toArray_toList (xs:=P.fieldsOf k),hl]
 simp only[aYN,bBM,aZS,bBG,and_true,beq_eq_false_iff_ne]at h3;exact⟨f0,f1,by rw[h1,he],he,h3.1.1,h3.2.1,h3.1.2.1,h3.2.2.1,h3.1.2.2,h3.2.2.2⟩
theorem L0{k:TypeId}(h:K2 P k)(a b:Int×Int)(w:World):(Op.equal k (lJ a) (lJ b)).run P w=.ok (a==b) w:=by
 obtain⟨G,a2⟩:=a;obtain⟨I,b2⟩:=b;obtain⟨f0,f1,hu,hf,n0,n1,o0,o1,t0,t1⟩:=h.fields;have he:=run_equalIn_struct (P:=P) w 9999 k #[qI G,qI a2] #[qI I,qI b2] h.1 h.2.1;show(Op.equalIn (9999+1) k (.agg #[qI G,qI a2]) (.agg #[qI I,qI b2])).run P w=_;rw[he,hf];have p0:∀c1 c2:Int,(part f0.type #[qI c1,qI c2] f0.offset).run P w=.ok (qI c1) w:=fun c1 c2=>cO t0 (by rw[o0];rfl) w
 have M:∀c1 c2:Int,(part f1.type #[qI c1,qI c2] f1.offset).run P w=.ok (qI c2) w:=fun c1 c2=>cO t1 (by rw[o1];rfl) w
 have e0:=run_equalIn_int w 9998 f0.type .i64 .i64 G I t0;have O:=run_equalIn_int w 9998 f1.type .i64 .i64 a2 b2 t1;have R:(Op.eqFields 9999 #[qI G,qI a2] #[qI I,qI b2] [f1]).run P w=.ok (a2==b2) w:=by
  simp only[Op.eqFields,n1,ne_eq,bCB,aZU,Sem.run_bind,M,Result.andThen_ok];rw[O];simp only[Result.andThen_ok];cases a2==b2<;>rfl
 show(Op.eqFields 9999 #[qI G,qI a2] #[qI I,qI b2] (f0::[f1])).run P w=_;rw[Op.eqFields,aYJ n0];simp only[Sem.run_bind,p0,Result.andThen_ok];rw[e0];simp only[Result.andThen_ok];by_cases hab:G=I
 ·subst hab;simp only[beq_self_eq_true,bCO,aYY,aZW];rw[R];have:(a2==b2)=((G,a2)==(G,b2)):=by rw[bAY];simp
  rw[this]
 ·have hb:(G==I)=false:=by simpa using hab
  simp only[hb,bCI,aZU,Sem.run_pure];simp[hab]
theorem aHT{t t':TypeId}{a b:Int×Int}(ho:all[ix]?= some ⟨some d,.binOp .eql t x y t',ty,pos,aft,g⟩)(hgt:P.eqGuardType P.depth t=false)(ht:K2 P t)(hx:ev σ x=some (lJ a))(hy:ev σ y=some (lJ b))(hN:Nat.blt d X.N=true)(hg:dE all σ g)
  (kk:WL P X bad all K Q os ((d,.bool (a==b))::σ) μ Ds):WL P X bad all K Q ((fl,ix)::os) σ μ Ds:=
 yK ho (fun w=>by
  have hgd:(eqGuard .eql t x y (lJ a) (lJ b)).run P w=.ok () w:=by
   simp only[eqGuard,lJ,program];simp[Sem.run,hgt,go_sem]
  rw[Sem.run_bind,hgd];show((do Pure.pure (Value.bool (←Op.equal t (lJ a) (lJ b)))):Sem Value).run P w=_;rw[Sem.run_bind,L0 ht];rfl) hx hy hN hg kk
theorem O0{k k':IntKind}{s t:TypeId}{u':TypeDesc}{n:Int}(ho:all[ix]?= some ⟨some d,.convert s t x,ty,pos,aft,g⟩)(hs:P.underlying s=some u')(ht:P.underlying t=some (.int k'))(hx:ev σ x=some (.int k n))(hn:xO k' n)(hN:Nat.blt d X.N=true)(hg:dE all σ g)
  (kk:WL P X bad all K Q os ((d,.int k' n)::σ) μ Ds):WL P X bad all K Q ((fl,ix)::os) σ μ Ds:=
 XB ho (fun w=>by
  simp only[Go.convert,Sem.run_bind,TU.of hs w,TU.of ht w,Result.andThen_ok,Conv.intToInt,pQ hn];rfl) hx hN hg kk
theorem bZ.shape{e:TypeId}{sz n:Nat}{cells:List Value}{ν:aD}(h:bZ e sz v n cells ν):∃a cap,v=.slice a n cap:=by
 rcases h with⟨a,hv,hn,_,_⟩|⟨b,cap,junk,hv,_⟩
 ·exact⟨a,0,by rw[hv,hn]⟩
 ·exact⟨_,cap,hv⟩
theorem Sl.shape{α:Type}{R:Rd α}{D:aC}{sz:Nat}{xs:List α}(h:Sl D R sz v xs):∃a cap,v=.slice a xs.length cap:=by
 obtain⟨a,cap,hv,_⟩:=h;exact⟨a,cap,hv⟩
theorem Z1{k:TypeId}(h:K2 P k)(em:Bool)(a:Int×Int)(w:World):(Instr.checkKey em 10000 k (lJ a)).run P w=.ok () w:=by
 obtain⟨f0,f1,hu,hf,n0,n1,o0,o1,t0,t1⟩:=h.fields;have p0:(part f0.type #[qI a.1,qI a.2] f0.offset).run P w=.ok (qI a.1) w:=cO t0 (by rw[o0];rfl) w
 have G:(part f1.type #[qI a.1,qI a.2] f1.offset).run P w=.ok (qI a.2) w:=cO t1 (by rw[o1];rfl) w;have c0:(Instr.checkKey em (9998+1) f0.type (qI a.1)).run P w=.ok () w:=by
  rw[Instr.checkKey,Sem.run_bind,TU.of t0 w];rfl
 have c1:(Instr.checkKey em (9998+1) f1.type (qI a.2)).run P w=.ok () w:=by
  rw[Instr.checkKey,Sem.run_bind,TU.of t1 w];rfl
 show(Instr.checkKey em (9999+1) k (.agg #[qI a.1,qI a.2])).run P w=_;rw[Instr.checkKey,Sem.run_bind,TU.of hu w];simp only[Result.andThen_ok];rw[←Array.forIn_toList];simp only[List.forIn_cons,List.forIn_nil,n0,n1,ne_eq,bCB,aZU,Sem.run_bind,p0,Result.andThen_ok,Sem.run_pure];rw[c0];simp only[Result.andThen_ok,Sem.run_pure,Sem.run_bind,G];rw[c1];simp[Sem.run_pure,Result.andThen_ok]
theorem vE{t:TypeId}(ho:all[ix]?= some ⟨some d,.makeMap t none,ty,pos,aft,g⟩)(hN:Nat.blt d X.N=true)(hg:dE all σ g)
  (kk:∀b,WL P X bad all K Q os ((d,.map (some b))::σ) ((b,.map #[] 0)::μ) Ds):WL P X bad all K Q ((fl,ix)::os) σ μ Ds:=by
 refine eI ho rfl rfl hg fun a w hh=>?_
 obtain⟨h1,h2,h3,D,h4,h5,G⟩:=id hh;have:(execOp a.eval ⟨some d,.makeMap t none,ty,pos,aft,g⟩).run P w=.ok (.value (.map (some w.heap.size))) {w with heap:=w.heap.push (.map #[] 0)}:=rfl;rw[this];exact⟨fun _=>nR _ _ _,kk _ _ _ (Hl.put ⟨h1,h2,h3,D,h4.push _ (show dD (.map #[] 0)from bCV),h5,G.step (fun _ p hp=>by rcases GE.1 hp with rfl|hp;exact Or.inr (aYI _);exact Or.inl (n4.2 ⟨p,hp,rfl⟩)) (fun _=>P7 _ _) (h4.push _ (show dD (.map #[] 0)from bCV)).dom⟩ hN _)⟩
theorem jN{w:World}{r:Nat}{es:Array MapEntry}{clock:Nat}(h:w.heap[r]?= some (.map es clock)):(getObj r).run P w=.ok (.map es clock) w:=by
 simp[getObj,Sem.run,h]

theorem aVU{t t':TypeId}{m n:Int}{k:IntKind}(ho:all[ix]?= some ⟨some d,.binOp .shl t x y t',ty,pos,aft,g⟩)(hx:ev σ x=some (qI m))(hy:ev σ y=some (.int k n))(h0:0≤n)(h1:n<64)(hr:xO .i64 (m*2^n.toNat))(hN:Nat.blt d X.N=true)(hg:dE all σ g)
  (kk:WL P X bad all K Q os ((d,qI (m*2^n.toNat))::σ) μ Ds):WL P X bad all K Q ((fl,ix)::os) σ μ Ds:=
 bX ho rfl rfl hN hg (fun ρ hρ w'=>by
  have hn:min n.toNat IntKind.i64.bits=n.toNat:=by have:IntKind.i64.bits=64:=rfl;omega
  have h0':¬n<0:=by omega
  have hs:(binOp .shl t (qI m) (.int k n)).run P w'=.ok (qI (m*2^n.toNat)) w':=by
   show(Op.shift .shl .i64 m k n).run P w'=_;unfold Op.shift;rw[aYC h0'];simp only[hn,pQ hr,Sem.run_pure]
  have hg:∀w,(eqGuard .shl t x y (qI m) (.int k n)).run P w=.ok () w:=fun w=>rfl
  simp only[execOp,hρ x _ hx,hρ y _ hy,Sem.run_bind,hg,Result.andThen_ok,hs,Sem.run_pure]) kk

def aQU(X:Cx)(b:Nat)(post:aC→Value→Obj→Prop):Ending→World→Prop:=fun e w'=>∃v D' o',e=.returned v∧hP X.h0 X.lo X.D0 X.mods [(b,o')] D' w'∧post D' v o'
theorem eS{fn:Func}{b:Nat}{o':Obj}{post:aC→Value→Obj→Prop}{e:Exit}(he:(match e with|.normal=>true|.ret=>true|_=>false)=true){rs:List ResultVar}{vs:List Value}(hds:X.ds=[])(hr:fn.results=rs.toArray)(h:wL P X σ μ rs vs)
  (hm:(b,o')∈μ) (hp:∀D,(∀D₁∈Ds,Le D₁ D)→post D (pT vs) o'):∀a w,Hl X σ μ Ds a w→bodyPost P fn (aQU X b post) e a w:=by
 intro a w hh;have hrun:=iQ hh hr h;obtain⟨h1,h2,h3,D,h4,h5,G⟩:=hh;have:a.defers=[]∧∃v,(results fn a.tmps).run P w=.ok v w∧aQU X b post (.returned v) w:=⟨h3.trans hds,_,hrun,_,D,o',rfl,h4.sub (fun p hp=>by rw[aYH.1 hp];exact hm) Ye,hp D h5⟩
 cases e<;>first|exact this|cases he
theorem w9{t t':TypeId}{n:Nat}(ho:all[ix]?= some ⟨some d,.binOp .shl t x y t',ty,pos,aft,g⟩)(hx:ev σ x=some (qI 1))(hy:ev σ y=some (qI (n:Int)))(h1:n<62)(hN:Nat.blt d X.N=true)(hg:dE all σ g)
  (kk:WL P X bad all K Q os ((d,qI ((2^n:Nat):Int))::σ) μ Ds):WL P X bad all K Q ((fl,ix)::os) σ μ Ds:=by
 have h2:(2:Nat)^n<2^62:=Nat.pow_lt_pow_right Yd h1;have e:(1:Int)*2^(n:Int).toNat=((2^n:Nat):Int):=by simp
 have hr:xO .i64 ((1:Int)*2^(n:Int).toNat):=by
  rw[e];generalize (2:Nat)^n=q at h2;simp only[xO];omega
 refine aVU ho hx hy Yd Yd hr hN hg ?_;rw[e];exact kk
def MZ(P:Program)(f:FuncId)(args:Array Value)(D:aC)(post:aC→Value→aD→Prop):Prop:=
 EF P f∧∀w,eO D w→Calls P f args w fun e w'=>∃v D' ν,e=.returned v∧hP (hd w) w.heap.size D [] ν D' w'∧post D' v ν
theorem qG{f:FuncId}{fn:Func}{c:Code}{args:List Value}{D:aC}{post:aC→Value→aD→Prop}(N:Nat)(hf:P.funcs[f]?= some fn)(hn:(fn.name== "runtime.NumGoroutine")=false)(hb:fn.body=some c)(hN:fn.ntmps=N)(hsz:Nat.ble args.length N=true)
  (h:∀h0:H0,WC P ⟨none,N,[],h0,h0.size,D,[],none⟩ (bodyPost P fn (pF ⟨none,N,[],h0,h0.size,D,[],none⟩ post)) c (jG 0 args) [] [D]):MZ P f args.toArray D post:=by
 refine⟨EF.of hf hn hb,fun w hw=>?_⟩;subst hN;have hsz:=aZC hsz;refine(dN (r:=none) (n:=0)).1 ((callsIn_of_wp (R:=pF ⟨none,fn.ntmps,[],hd w,w.heap.size,D,[],none⟩ post) hf hb bCV (h (hd w) _ w ⟨?_,fun s v hs=>?_,rfl,D,⟨aYI _,aYI _,fun _ _ _=>rfl,fun _ _=>rfl,hw,Yi,aZP,Yi,fun e he=>aYS he⟩,fun D₁ h1=>?_,bCV⟩) rfl).mono ?_)
 ·simp;omega
 ·obtain⟨_,h2⟩:=fQ args 0 s v hs;have hl:=(aXZ.1 h2).1;simp only[bAX]at h2 hl;show(args.toArray++_)[s]?= some v;rw[bAI Yas];simpa using h2
 ·simp only[aYH]at h1;subst h1;exact Le.refl _
 ·rintro e w' ⟨v,D',μ',rfl,hs,hp⟩;exact⟨v,D',μ',rfl,hs,hp⟩
theorem hP.afterO{h0:H0}{lo:Nat}{D0 D D':aC}{mods:List Nat}{μ ν:aD}{w w':World}(h:hP h0 lo D0 mods μ D w)(hs:hP (hd w) w.heap.size D [] ν D' w'):hP h0 lo D0 mods (ν++μ) D' w':=by
 have h1:=h.after (hs.sub (μ':=[]) Yi aZP);have hge:∀p∈ν,w.heap.size≤p.1:=fun p hp=>(hs.box p hp).2.2.resolve_right Ye
 refine⟨h1.hlo,h1.size,h1.old,h1.dold,h1.agr,fun p hp=>?_,?_,(fun p hp=>by rcases aYD.1 hp with hp|hp;exact hs.fz p hp;exact h.fz p hp),h1.env⟩
 ·rcases aYD.1 hp with hp|hp
  ·obtain⟨a,b,_⟩:=hs.box p hp;exact⟨a,b,aYF (bAM h.size (hge p hp))⟩
  ·exact h1.box p hp
 ·rw[aYE,aXX];refine⟨hs.nd,h.nd,fun a ha b hb=>?_⟩;obtain⟨p,hp,rfl⟩:=n4.1 ha;obtain⟨q,hq,rfl⟩:=n4.1 hb;have:=hge p hp;have:=bK (h.box q hq).1;omega
theorem fM{c:Operand}{xs:Array Operand}{ats:Array TypeId}{f:FuncId}{c1 c2:List Value}{vs:List Value}{post:aC→Value→aD→Prop}(ho:all[ix]?= some ⟨some d,.call {callee:=.value c,args:=xs,argTypes:=ats},ty,pos,aft,g⟩)(hc:ev σ c=some (.func (.func f) c1.toArray c2.toArray))(hxs:Q8 σ xs.toList=some vs)
  (hf:∀D,(∀D₁∈Ds,Le D₁ D)→MZ P f (c1++vs++c2).toArray D post) (hN:Nat.blt d X.N=true) (hg:dE all σ g)
  (kk:∀v D ν,(∀D₁∈Ds,Le D₁ D)→post D v ν→WL P X bad all K Q os ((d,v)::σ) (ν++μ) (D::Ds)):
  WL P X bad all K Q ((fl,ix)::os) σ μ Ds:=by
 refine eI ho rfl rfl hg fun a w hh=>?_
 obtain⟨h1,h2,h3,D,h4,h5,G⟩:=id hh;have hF:=hf D h5;rw[sC hF.1 (hh.eval hc) (kA (fun _ _ hx=>hh.eval hx) hxs)];refine⟨fun h=>by simp[FW]at h,dN.2 ((hF.2 w h4.agr).mono ?_)⟩;rintro e w' ⟨v,D',ν,rfl,hs,hpost⟩;have hle:=fU h4.agr hs;refine⟨fun _=>hs.keep bad,kk v D' ν (fun D₁ hD₁=>(h5 D₁ hD₁).trans hle) hpost _ _ ?_⟩;refine Hl.put ⟨h1,h2,h3,D',h4.afterO hs,fun D₁ hD₁=>?_,G.step (fun _ p hp=>?_) (fun _=>hs.low _) (h4.afterO hs).dom⟩ hN v
 ·rcases GE.1 hD₁ with rfl|hD₁
  ·exact Le.refl _
  ·exact(h5 D₁ hD₁).trans hle
 ·rcases aYD.1 hp with hp|hp
  ·exact aXR ((hs.box p hp).2.2.resolve_right Ye)
  ·exact aYF (n4.2 ⟨p,hp,rfl⟩)
theorem gT{t e:TypeId}{sz b o n cap:Nat}{k:IntKind}{i:Int}(ho:all[ix]?= some ⟨some d,.indexAddr t x y,ty,pos,aft,g⟩)(ht:P.underlying t=some (.slice e))(hs:TS P e sz)(hx:ev σ x=some (.slice (some ⟨b,o,none⟩) n cap))
  (hy:ev σ y=some (.int k i)) (h0:0≤i) (hi:i<n) (hN:Nat.blt d X.N=true) (hg:dE all σ g)
  (kk:WL P X bad all K Q os ((d,.pointer (some ⟨b,o+i.toNat*sz,none⟩))::σ) μ Ds):WL P X bad all K Q ((fl,ix)::os) σ μ Ds:=
 bX ho rfl rfl hN hg (fun ρ hρ w'=>by
  simp only[execOp,hρ x _ hx,hρ y _ hy];unfold Instr.indexAt asIntOf;simp only[Sem.run_bind,TU.of ht w',Result.andThen_ok,hs w',Sem.run_pure,pure_bind,h0,hi,bCL,aZU,gI]) kk
theorem bZ.some{e:TypeId}{sz n:Nat}{cells:List Value}{ν:aD}(h:bZ e sz v n cells ν)(hn:0<n):∃b cap junk,v=qS b n cap∧n≤cap∧ν=[(b,.cells (cells++junk).toArray e (0,0))]∧cells.length=n*sz∧(cells++junk).length=cap*sz:=by
 rcases h with⟨_,_,h0,_⟩|h
 ·omega
 ·exact h
theorem O1{t e:TypeId}{sz n:Nat}{z0:Value}{zs cs:List Value}{k k':IntKind}(ho:all[ix]?= some ⟨some d,.makeSlice t x y,ty,pos,aft,g⟩)(ht:P.underlying t=some (.slice e))(hs:TS P e sz)(hz:TZ P e z0)(hzc:z0.cells=zs.toArray)(hi:(P.info? e).map (fun i=>Nat.ble 1 i.bytes&&Nat.ble i.bytes 4096)=some true)
  (hx:ev σ x=some (.int k n)) (hy:ev σ y=some (.int k' n)) (hn:Nat.ble n 10000=true) (hnz:Nat.beq (n*sz) 0=false) (hcs:((Array.range (n*sz)).map (zs.toArray[· %zs.toArray.size]!)).toList=cs) (hN:Nat.blt d X.N=true) (hg:dE all σ g)
  (kk:∀b D,(∀D₁∈Ds,Le D₁ D)→At D b 0 cs→WL P X bad all K Q os ((d,qS b n n)::σ) μ (D::Ds)):WL P X bad all K Q ((fl,ix)::os) σ μ Ds:=by
 refine eI ho rfl rfl hg fun a w hh=>?_
 obtain⟨h1,h2,h3,D,h4,h5,M⟩:=id hh;have hn':n≤10000:=aZC hn;obtain⟨i0,G,hb⟩:=bAE.1 hi;simp only[aYB]at hb;have O:=aZC hb.1;have I:=aZC hb.2;have hti:∀w,(typeInfo e).run P w=.ok i0 w:=fun w=>by simp[typeInfo,program,Sem.run,G,go_sem]
 have hw:IntKind.i64.wrap (n:Int)=n:=pQ Yg;have hbn:i0.bytes*n≤4096*10000:=bCR I hn';have hlarge:(((n:Int)<0)||decide ((i0.bytes:Int)*n>2^48))=false:=by
  have:((i0.bytes*n:Nat):Int)≤40960000:=by omega
  rw[Int.natCast_mul]at this;simp only[bAB,aZK];constructor
  ·omega
  ·omega
 have hnz':¬n*sz=0:=fun h=>by rw[h]at hnz;simp at hnz
 have hzz:∀w,(zeroValue e).run P w=.ok z0 w:=hz;have hrun:(execOp a.eval ⟨some d,.makeSlice t x y,ty,pos,aft,g⟩).run P w=.ok (.value (.slice (some ⟨w.heap.size,0,none⟩) n n)) {w with heap:=w.heap.push (.cells cs.toArray e (0,0))}:=by
  have hcs':(Array.range (n*sz)).map (zs.toArray[· %zs.toArray.size]!)=cs.toArray:=by rw[←hcs]
  have hai:∀(k:IntKind) (m:Int) (w:World),(asInt (.int k m)).run P w=.ok m w:=fun _ _ _=>rfl
  simp only[execOp,Instr.makeSlice,hh.eval hx,hh.eval hy,hai,Sem.run_bind,TU.of ht w,Result.andThen_ok,Sem.run_pure,hti,hw,pure_bind];rw[aYC Ya1];simp only[Sem.run_bind,tV,Result.andThen_ok,hs w,aZN];rw[aYC hnz'];simp only[Sem.run_bind,hzz,Result.andThen_ok,Sem.run_pure,hzc,hcs',iC]
 rw[hrun];obtain⟨D',hle,hD',hDo,hs'⟩:=h4.pushD cs e;refine⟨fun _=>nR _ _ _,kk w.heap.size D' (fun D₁ hD₁=>(h5 D₁ hD₁).trans hle) (fun j v hj=>by rw[hD'];simpa using hj) _ _ (Hl.put ⟨h1,h2,h3,D',hs',fun D₁ hD₁=>?_,M.step (fun _ p hp=>aYF (n4.2 ⟨p,hp,rfl⟩)) (fun _=>⟨by simp,fun b hb _=>⟨cN hb,hDo b Yd⟩,rfl⟩) hs'.dom⟩ hN _)⟩
 rcases GE.1 hD₁ with rfl|hD₁
 ·exact Le.refl _
 ·exact(h5 D₁ hD₁).trans hle
namespace C2
open C1 (iK dA uC sP)
structure Mk where
 frm:Int
 to:Int
 lo:Int
 hi:Int
deriving DecidableEq
structure bD where
 last:Int
 heights:List (Int×Int)
 step:Int
 levels:List Int
 marks:List Mk
def fT(n:Int):Bool:=iK n 0 99
def jE(r:Int×Int):Bool:=decide (r.1≤r.2)&&fT r.1&&fT r.2
def gL(r:Int×Int):Int:=r.2-r.1+1
def DZ(last n:Int):Bool:=iK n 0 last
def sG(last a b:Int):Bool:=DZ last a&&DZ last b&&decide (a≤b)
def uT(last:Int)(m:Mk):Bool:=sG last m.frm m.to&&jE (m.lo,m.hi)
def pW(hs:List (Int×Int)):Int:=hs.foldl (fun(m:Int) r=>min (m*gL r) 2001) 1
def mV(step:Int)(p:Option Int)(n:Int):Bool:=match p with
 |none=>true
 |some q=>iK (n-q) (-step) step
def jD(step:Int):List (Int×Int)→Option Int→List (List Int)
 | [],_=>[[]]
 |r::rs,p=>(List.range (gL r).toNat).flatMap fun(k:Nat)=>if mV step p (r.1+k)=true then(jD step rs (some (r.1+k))).map (fun l=>(r.1+(k:Int))::l)else []
def gQ(t:bD):List (List Int):=jD t.step t.heights none
def aPH(t:bD):Bool:=decide (t.last>9)||decide ((t.levels.length:Int)>6)||decide ((t.marks.length:Int)>5)
def aVF(t:bD):Bool:=decide (0≤t.last)&&decide ((t.heights.length:Int)=t.last+1)&&t.heights.all jE&&fT t.step&&t.levels.all fT&&t.marks.all (uT t.last)
def bB(t:bD):Int:=if aPH t=true then 3 else if aVF t=false then 1 else if 2000<pW t.heights then 3 else if gQ t=[]then 9 else 0
def mG(s:List Int)(a b:Int):Int:=sP ((s.drop a.toNat).take (b+1-a).toNat)
def nZ(t:bD)(s:List Int):Bool:=t.marks.all fun m=>iK (mG s m.frm m.to) m.lo m.hi
def R8(t:bD)(acc:List (List Int))(s:List Int):List (List Int):=if nZ t s=false∨acc.getLast?= some s then acc else acc++[s]
def bU(t:bD):List (List Int):=(gQ t).foldl (R8 t) []
def nP(t:bD)(fine:Bool):Int:=if bB t≠0 then bB t else if fine=false then 2 else if bU t=[]then 11 else 0
def aWS(s:List Int)(i:Nat):Int:=s.getD i 0
def wK(t:bD)(i:Nat):Int×Int:=(uC ((bU t).map (aWS · i)),sP ((bU t).map (aWS · i)))
def wD(s:List Int)(level:Int):Int:=((s.takeWhile fun n=>decide (n≤level)).length:Int)
def aGJ(t:bD)(level:Int):Int×Int:=(uC ((bU t).map (wD · level)),sP ((bU t).map (wD · level)))
def aWI(t:bD)(a b:Int):Int:=sP ((bU t).map (mG · a b))
def dG(l:List Int):List Int:=l++List.replicate (10-l.length) 0
theorem fO{l:List Int}(h:l.length≤10):(dG l).length=10:=by simp[dG];omega
theorem OZ{c l:List Int}(h2:c.take l.length=l)(h3:c.drop l.length=List.replicate (10-l.length) 0):dG l=c:=by
 unfold dG;rw[←h3]
 conv=>rhs;rw[←bAJ l.length c,h2]
def NI(step:Int)(rs:List (Int×Int))(pre:List Int)(r:Int×Int)(k:Nat):List (List Int):=(List.range k).flatMap fun(m:Nat)=>if mV step pre.getLast? (r.1+m)=true then(jD step rs (some (r.1+m))).map (fun t=>dG (pre++(r.1+(m:Int))::t))else []
theorem aCM{step:Int}{rs:List (Int×Int)}{pre:List Int}{r:Int×Int}:NI step rs pre r 0=[]:=rfl
theorem aRH{step:Int}{rs:List (Int×Int)}{pre:List Int}{r:Int×Int}{k:Nat}(h:mV step pre.getLast? (r.1+k)=false):NI step rs pre r (k+1)=NI step rs pre r k:=by
 unfold NI;rw[aZR,aYP,aZG,aYC (by simp[h]),aXS]
theorem VD{step:Int}{rs:List (Int×Int)}{pre:List Int}{r:Int×Int}{k:Nat}(h:mV step pre.getLast? (r.1+k)=true):NI step rs pre r (k+1)=NI step rs pre r k++(jD step rs ((pre++[r.1+(k:Int)]).getLast?)).map (fun t=>dG ((pre++[r.1+(k:Int)])++t)):=by
 unfold NI;rw[aZR,aYP,aZG,aYJ h,List.getLast?_concat];simp
theorem UW{step:Int}{rs:List (Int×Int)}{pre:List Int}{r:Int×Int}:NI step rs pre r (gL r).toNat=(jD step (r::rs) pre.getLast?).map (fun t=>dG (pre++t)):=by
 unfold NI;simp only[jD];rw[List.map_flatMap]
 congr 1;funext m
 split<;>simp
theorem aFD{step:Int}{rs:List (Int×Int)}{pre:List Int}{r:Int×Int}{k n:Nat}(hk:k<n):∃rr,NI step rs pre r n=NI step rs pre r (k+1)++rr:=by
 refine⟨((List.range n).drop (k+1)).flatMap fun(m:Nat)=>if mV step pre.getLast? (r.1+m)=true then(jD step rs (some (r.1+m))).map (fun t=>dG (pre++(r.1+(m:Int))::t))else [],?_⟩;unfold NI;rw[←aYP];congr 1;have h:=bAJ (k+1) (List.range n);rw[List.take_range,bBH Yd]at h;exact h.symm
theorem AW{step:Int}:∀(rs:List (Int×Int)) (p:Option Int) (t:List Int),t∈jD step rs p→t.length=rs.length
 | [],p,t,h=>by simp[jD]at h;subst h;rfl
 |r::rs,p,t,h=>by
  simp only[jD,bCS,bAR]at h;obtain⟨m,hm,h⟩:=h;split at h
  ·obtain⟨u,hu,rfl⟩:=n4.1 h;rw[aXY,AW rs _ u hu,aXY]
  ·cases h
theorem FI{step:Int}:∀(rs:List (Int×Int)) (p:Option Int) (t:List Int),(∀r∈rs,jE r=true)→t∈jD step rs p→∀x∈t,0≤x∧x≤99
 | [],p,t,_,h=>by simp[jD]at h;subst h;intro x hx;cases hx
 |r::rs,p,t,hr,h=>by
  simp only[jD,bCS,bAR]at h;obtain⟨m,hm,h⟩:=h;split at h
  ·obtain⟨u,hu,rfl⟩:=n4.1 h;intro x hx;rcases GE.1 hx with rfl|hx
   ·have h1:=hr r aXW;unfold jE fT at h1;simp only[aYB,aYM,dA]at h1;unfold gL at hm;omega
   ·exact FI rs _ u (fun q hq=>hr q (LE _ hq)) hu x hx
  ·cases h
structure IN(t:bD):Prop where
 last:0≤t.last∧t.last≤9
 len:(t.heights.length:Int)=t.last+1
 step:0≤t.step∧t.step≤99
 hts:∀r∈t.heights,jE r=true
 lev:t.levels.length≤6
 levs:∀n∈t.levels,0≤n∧n≤99
 mks:t.marks.length≤5
 mark:∀m∈t.marks,uT t.last m=true
theorem aXP{t:bD}(h1:aPH t=false)(h2:aVF t=true):IN t:=by
 unfold aPH at h1;unfold aVF fT at h2;simp only[bAB,aZK]at h1;simp only[aYB,aYM,aYL,dA]at h2;obtain⟨⟨⟨⟨⟨h3,h4⟩,h5⟩,G⟩,I⟩,M⟩:=h2;exact⟨by omega,h4,G,h5,by omega,I,by omega,M⟩
theorem EV{t:bD}(h:bB t=0):IN t:=by
 unfold bB at h;split at h
 ·omega
 ·rename_i h1;split at h
  ·omega
  ·rename_i h2;exact aXP (by simpa using h1) (by simpa using h2)
theorem IN.len10{t:bD}(h:IN t):t.heights.length≤10:=by have:=h.len;have:=h.last;omega

theorem aID{s:List Int}{a k:Nat}(h:a+k≤s.length):((dG s).drop a).take k=(s.drop a).take k:=by
 unfold dG;rw[List.drop_append_of_le_length Yd,aZA Yam]
theorem xW{s:List Int}{a b:Int}(h0:0≤a)(h1:a≤b)(h2:b<s.length):mG (dG s) a b=mG s a b:=by
 unfold mG;rw[aID Yd]
theorem WV{last:Int}{m:Mk}(h:uT last m=true):0≤m.frm∧m.frm≤m.to∧m.to≤last∧0≤m.lo∧m.lo≤m.hi∧m.hi≤99:=by
 unfold uT sG DZ jE fT at h;simp only[aYB,aYM,dA]at h;omega
theorem aAY{t:bD}(ht:IN t){s:List Int}(hs:(s.length:Int)=t.last+1):nZ t (dG s)=nZ t s:=by
 unfold nZ;rw[bAY,aYL,aYL];constructor<;>intro h m hm<;>have h1:=WV (ht.mark m hm)<;>have h2:=h m hm
 ·rwa [xW Yd Yd Yd]at h2
 ·rwa [xW Yd Yd Yd]
theorem PG{l:List (List Int)}{pre us:List (List Int)}{x:List Int}(h:l.map dG=pre++x::us):∃s,l[pre.length]?= some s∧x=dG s∧s∈l∧l.take (pre.length+1)=l.take pre.length++[s]:=by
 have h1:(l.map dG)[pre.length]?= some x:=by rw[h];simp
 rw[aYQ]at h1;obtain⟨s,hs,hx⟩:=bAE.1 h1;exact⟨s,hs,hx.symm,LT hs,by rw[aYG,hs];rfl⟩
def kI(t:bD)(k:Nat):List (List Int):=((gQ t).take k).foldl (R8 t) []
theorem I8(t:bD){k:Nat}(h:(gQ t).length≤k):kI t k=bU t:=by unfold kI bU;rw[aYO h]
theorem ET{t:bD}{k:Nat}{s:List Int}(h:(gQ t).take (k+1)=(gQ t).take k++[s]):kI t (k+1)=R8 t (kI t k) s:=by
 unfold kI;rw[h,aZM];rfl
theorem aGL{t:bD}{acc:List (List Int)}{s:List Int}:∀u∈R8 t acc s,u∈acc∨u=s:=by
 intro u hu;unfold R8 at hu
 split at hu
 ·exact aYF hu
 ·simpa using hu
theorem EP{t:bD}:∀(l acc:List (List Int)),∀u∈l.foldl (R8 t) acc,u∈acc∨u∈l
 | [],acc,u,h=>aYF h
 |s::l,acc,u,h=>by
  rcases EP l (R8 t acc s) u h with h|h
  ·rcases aGL u h with h|rfl
   ·exact aYF h
   ·exact aXR aXW
  ·exact aXR (LE _ h)
theorem CO{t:bD}:∀(l acc:List (List Int)),(l.foldl (R8 t) acc).length≤acc.length+l.length
 | [],acc=>by simp
 |s::l,acc=>by
  have h1:=CO (t:=t) l (R8 t acc s);have h2:(R8 t acc s).length≤acc.length+1:=by
   unfold R8;split
   ·omega
   ·simp
  rw[aZY,aXY];omega
theorem N6{t:bD}{k:Nat}{u:List Int}(h:u∈kI t k):u∈gQ t:=by
 rcases EP _ _ u h with h|h
 ·cases h
 ·exact bBZ h
theorem KQ(t:bD)(k:Nat):(kI t k).length≤(gQ t).length:=by
 have h1:=CO (t:=t) ((gQ t).take k) [];have h2:=bCF k (gQ t);rw[aZJ]at h1;unfold kI;simp only[aYW]at h1;omega
def tR:List (Int×Int)→Int
 | []=>1
 |r::l=>gL r*tR l
theorem DK:∀(l:List (Int×Int)) (m:Int),(∀r∈l,jE r=true)→0≤m→l.foldl (fun(m:Int) r=>min (m*gL r) 2001) m≤2000→m*tR l≤2000∧1≤tR l
 | [],m,_,_,h=>by simpa [tR]using h
 |r::l,m,hr,hm,h=>by
  have h1:1≤gL r:=by
   have h1:=hr r aXW;unfold jE fT at h1;simp only[aYB,aYM,dA]at h1;unfold gL;omega
  have h2:0≤m*gL r:=Int.mul_nonneg hm Yd;rw[aZY]at h;obtain⟨h3,h4⟩:=DK l (min (m*gL r) 2001) (fun q hq=>hr q (LE _ hq)) Yd h;have h5:1≤gL r*tR l:=by
   have:=Int.mul_le_mul h1 h4 Yd Yd;omega
  refine⟨?_,h5⟩;show m*(gL r*tR l)≤2000;rw[←Int.mul_assoc];by_cases hc:m*gL r≤2001
  ·rwa [Int.min_eq_left hc]at h3
  ·rw[Int.min_eq_right Yd]at h3;omega
theorem lT{α β:Type}{f:α→List β}{n:Nat}:∀(l:List α),(∀x∈l,(f x).length≤n)→(l.flatMap f).length≤l.length*n
 | [],_=>by simp
 |x::l,h=>by
  have h1:=lT l fun y hy=>h y (LE _ hy)
  have h2:=h x aXW;rw[aZD,GT,aXY,bAG];omega
theorem xK{step:Int}:∀(rs:List (Int×Int)) (p:Option Int),(∀r∈rs,jE r=true)→1≤tR rs∧((jD step rs p).length:Int)≤tR rs
 | [],p,_=>by simp[jD,tR]
 |r::rs,p,hr=>by
  have h1:1≤gL r:=by
   have h1:=hr r aXW;unfold jE fT at h1;simp only[aYB,aYM,dA]at h1;unfold gL;omega
  have h2:=xK (step:=step) rs none fun q hq=>hr q (LE _ hq)
  have h3:(jD step (r::rs) p).length≤(List.range (gL r).toNat).length*(tR rs).toNat:=by
   simp only[jD];refine lT _ fun k _=>?_
   split
   ·rw[aZL];have:=(xK (step:=step) rs (some (r.1+(k:Int))) fun q hq=>hr q (LE _ hq)).2;omega
   ·exact bCE _
  rw[List.length_range]at h3;have h4:(((gL r).toNat*(tR rs).toNat:Nat):Int)=gL r*tR rs:=by
   rw[Int.natCast_mul,Int.toNat_of_nonneg Yd,Int.toNat_of_nonneg Yd]
  have h5:=Int.mul_le_mul h1 h2.1 Yd Yd;refine⟨?_,?_⟩
  ·show 1≤gL r*tR rs;omega
  ·show _≤gL r*tR rs;rw[←h4];exact Int.ofNat_le.2 h3
theorem LQ{t:bD}(h:bB t=0):pW t.heights≤2000:=by
 unfold bB at h;split at h
 ·omega
 ·split at h
  ·omega
  ·split at h
   ·omega
   ·omega
theorem X6{t:bD}(h:bB t=0):(gQ t).length≤2000:=by
 have h1:=EV h;have h2:=(xK (step:=t.step) t.heights none h1.hts).2;have h3:=(DK t.heights 1 h1.hts Yd (LQ h)).1;show(jD t.step t.heights none).length≤2000;omega
theorem pB{t:bD}{s:List Int}(h:s∈gQ t):s.length=t.heights.length:=AW _ _ _ h
def B0(l:List (List Int))(last:Int)(S:List (Int×Int)):Prop:=∀p,p∈S ↔∃s∈l,∃j:Nat,(j:Int)≤last∧p=((j:Int),s.getD j 0)
theorem B0.nil{last:Int}:B0 [] last []:=fun p=>by simp
end C2
open C1 C2
def IM:Rd Mk:=fun _ m cs=>cs=[qI m.frm,qI m.to,qI m.lo,qI m.hi]
theorem IM.up:IM.Up:=fun _ _ _ h=>h
def C8:Rd (Int×Int):=fun _ p cs=>cs=[qI p.1,qI p.2]
theorem C8.up:C8.Up:=fun _ _ _ h=>h
def aVG(m:Mk):Value:=.agg #[qI m.frm,qI m.to,qI m.lo,qI m.hi]
def hG(D:aC)(v:Value)(t:bD):Prop:=∃hv lv mv,v=.agg #[qI t.last,hv,qI t.step,lv,mv]∧Sl D C8 2 hv t.heights∧Sl D RI 1 lv t.levels∧Sl D IM 4 mv t.marks
def BC:Rd (List Int):=fun _ l cs=>cs=ints (dG l)
theorem BC.up:BC.Up:=fun _ _ _ h=>h
def H5(l:List (List Int)):List Value:=l.flatMap fun s=>ints (dG s)
theorem IZ{l:List (List Int)}(h:∀s∈l,s.length≤10):(H5 l).length=l.length*10:=by
 induction l with
 |nil=>rfl
 |cons c l ih=>
  have:=ih fun s hs=>h s (LE _ hs)
  unfold H5 at this ⊢
  rw[aZD,GT,this,aN,fO (h c aXW),aXY];omega
theorem NC{l:List (List Int)}(h:∀s∈l,s.length≤10){i:Nat}{s:List Int}(hi:l[i]?= some s)(junk:List Value):((H5 l++junk).drop (i*10)).take 10=ints (dG s):=by
 induction l generalizing i with
 |nil=>simp at hi
 |cons d l ih=>
  have h9:(ints (dG d)).length=10:=by rw[aN,fO (h d aXW)]
  have hc:H5 (d::l)=ints (dG d)++H5 l:=rfl;rw[hc,aYA];cases i with
  |zero=>
   obtain rfl:d=s:=by simpa using hi
   rw[bBS,bBF,aZA Yd,aYO Yd]
  |succ i=>
   rw[show(i+1)*10=(ints (dG d)).length+i*10 by omega,bBQ];exact ih (fun s hs=>h s (LE _ hs)) Yap
theorem mH.seas{D:aC}{v:Value}{n:Nat}{l:List (List Int)}(hF:mH D v n (H5 l))(hn:l.length=n)(hb:n≤9223372036854775807)(h:∀t∈l,t.length≤10):Sl D BC 10 v l:=
 hF.sl hn hb fun i t hi=>⟨Fs.ints (dG t),rfl,by rw[Fs.aN,fO (h t (LT hi))],by have:=NC h hi [];rwa [aXS]at this⟩
theorem hG.up{D D':aC}{v:Value}{t:bD}(h:hG D v t)(hl:Le D D'):hG D' v t:=by
 obtain⟨hv,lv,mv,e,h1,h2,h3⟩:=h;exact⟨hv,lv,mv,e,h1.up C8.up hl,h2.up RI.up hl,h3.up IM.up hl⟩
namespace C3
open C1 (iK dA)
structure gM where
 kind:Int
 chair:Int
 token:Int
deriving DecidableEq
structure Cn where
 after:Int
 lo:Int
 hi:Int
deriving DecidableEq
structure bG where
 chairs:Int
 coin:Int
 box:Int
 lines:List gM
 counts:List Cn
def xH(n:Int)(l:gM):Bool:=iK l.kind 0 2&&iK l.chair (-1) (n-1)&&iK l.token (-1) (n-1)
def pU(len:Int)(c:Cn):Bool:=iK c.after 0 len&&decide (0≤c.lo)&&decide (c.lo≤c.hi)&&decide (c.hi≤2000)
def fF(sign none lo hi:Int):List Int:=if sign≠none then [sign]else(List.range (hi+1-lo).toNat).map fun i:Nat=>lo+(i:Int)
def dI(n:Int)(l:gM):List gM:=(fF l.kind 0 1 2).flatMap fun k=>(fF l.chair (-1) 0 (n-1)).flatMap fun c=>(fF l.token (-1) 0 (n-1)).map fun t=>⟨k,c,t⟩
def C5(n:Int)(ls:List gM):Int:=ls.foldl (fun m l=>min (m*(dI n l).length) 4097) 1
def uD(b:bG):Bool:=iK b.chairs 1 4&&iK b.coin 1 99&&iK b.box 0 999&&b.lines.all (xH b.chairs)&&b.counts.all (pU b.lines.length)
def bB(b:bG):Int:=if 8<b.lines.length∨4<b.counts.length then 3 else if uD b=false then 1 else if 4096<C5 b.chairs b.lines then 3 else 0
structure Sc where
 ch:List Int
 tk:List Int
 money:Int
 mixed:Int
deriving DecidableEq
def oT(s:Sc):List Int:=s.ch++s.tk++[s.money,s.mixed]
def nB(l:List Int)(i:Int):Int:=l.getD i.toNat 0
def kR(s:Sc)(l:gM):Bool:=(decide (nB s.ch l.chair≠0)==decide (l.kind=2))&&(decide (nB s.tk l.token≠0)==decide (l.kind=2))
def eT(b:bG)(s:Sc)(i:Int)(l:gM):Sc:=
 if l.kind=2 then⟨s.ch.set l.chair.toNat 0,s.tk.set l.token.toNat 0,s.money-b.coin,if nB s.ch l.chair≠nB s.tk l.token then s.mixed+1 else s.mixed⟩
 else⟨s.ch.set l.chair.toNat (i+1),s.tk.set l.token.toNat (i+1),s.money+b.coin,s.mixed⟩
def gG(b:bG)(s:Sc)(after:Int):Bool:=b.counts.all fun c=>decide (c.after≠after)||iK s.money c.lo c.hi
def fS(b:bG):Sc:=⟨[0,0,0,0],[0,0,0,0],b.box,0⟩
def yO(b:bG):List gM→Nat→Sc→List (List gM×List Sc)
 | [],i,s=>if gG b s i=true then [([],[s])]else []
 |l::ls,i,s=>if gG b s i=true then(dI b.chairs l).flatMap fun r=>if kR s r=true then(yO b ls (i+1) (eT b s i r)).map fun x=>(r::x.1,s::x.2)else []else []
def truths(b:bG):List (List gM×List Sc):=yO b b.lines 0 (fS b)
def yB(b:bG)(fine:Bool):Int:=if bB b≠0 then bB b else if fine=false then 2 else if truths b=[]then 11 else 0
def aST(ss:List Sc)(k:Nat):Sc:=ss.getD k ⟨[],[],0,0⟩
end C3
open C1 C3
def oB:Rd gM:=fun _ l cs=>cs=[qI l.kind,qI l.chair,qI l.token]
theorem oB.up:oB.Up:=fun _ _ _ h=>h
def uN:Rd Cn:=fun _ c cs=>cs=[qI c.after,qI c.lo,qI c.hi]
theorem uN.up:uN.Up:=fun _ _ _ h=>h
def JN(l:gM):Value:=.agg #[qI l.kind,qI l.chair,qI l.token]
def aTN(c:Cn):Value:=.agg #[qI c.after,qI c.lo,qI c.hi]
def fY(D:aC)(v:Value)(b:bG):Prop:=∃lv cv,v=.agg #[qI b.chairs,qI b.coin,qI b.box,lv,cv]∧Sl D oB 3 lv b.lines∧Sl D uN 3 cv b.counts
theorem fY.up{D D':aC}{v:Value}{b:bG}(h:fY D v b)(hl:Le D D'):fY D' v b:=by
 obtain⟨lv,cv,e,h1,h2⟩:=h;exact⟨lv,cv,e,h1.up oB.up hl,h2.up uN.up hl⟩
def QM(s:Sc):Value:=.agg (ints (oT s)).toArray
def NH:Rd Sc:=fun _ s cs=>cs=ints (oT s)
theorem NH.up:NH.Up:=fun _ _ _ h=>h
end Go.Fs
namespace Go.Fs.C3
open C1 (iK dA)

theorem aAG{sign none lo hi x:Int}:x∈fF sign none lo hi ↔ (sign≠none∧x=sign)∨(sign=none∧lo≤x∧x≤hi):=by
 unfold fF;by_cases h:sign=none
 ·rw[aYC Yar,n4];constructor
  ·rintro⟨i,hi',rfl⟩;have:=bAR.1 hi';exact aXR ⟨h,by omega,by omega⟩
  ·rintro(⟨h1,_⟩|⟨_,h1,h2⟩)
   ·exact absurd h h1
   ·exact⟨(x-lo).toNat,bAR.2 Yd,by omega⟩
 ·rw[aYJ h];simp[h]
def SY(l x:gM):Bool:=(decide (l.kind=0)||decide (l.kind=x.kind))&&(decide (l.chair<0)||decide (l.chair=x.chair))&&(decide (l.token<0)||decide (l.token=x.token))
def aRB(n:Int)(x:gM):Prop:=(x.kind=1∨x.kind=2)∧0≤x.chair∧x.chair<n∧0≤x.token∧x.token<n
theorem K8{n:Int}{l x:gM}(hl:xH n l=true):x∈dI n l ↔ aRB n x∧SY l x=true:=by
 unfold xH at hl;simp only[aYB,dA]at hl;unfold dI aRB SY;simp only[bCS,n4,aAG,aYB,aZT,aYM];constructor
 ·rintro⟨k,hk,c,hc,t,ht,rfl⟩;simp only;omega
 ·rintro⟨⟨h1,h2,h3,h4,h5⟩,⟨G,I⟩,M⟩;refine⟨x.kind,by omega,x.chair,by omega,x.token,by omega,rfl⟩
structure JI(b:bG)(s:Sc):Prop where
 lc:s.ch.length=4
 lt:s.tk.length=4
 pc:∀x∈s.ch,0≤x∧x≤8
 pt:∀x∈s.tk,0≤x∧x≤8
def FG(l:List Int):Int:=((l.filter fun x=>decide (x≠0)).length:Int)
def lP(b:bG):List gM→Nat→Sc→Bool
 | [],i,s=>gG b s i
 |l::ls,i,s=>gG b s i&&(dI b.chairs l).any fun r=>kR s r&&lP b ls (i+1) (eT b s i r)
theorem ON{α β:Type}{l:List α}{f:α→List β}:l.flatMap f≠[] ↔∃x∈l,f x≠[]:=by
 rw[Ne,List.flatMap_eq_nil_iff];simp
theorem JB(b:bG):∀(ls:List gM) (i:Nat) (s:Sc),lP b ls i s=true ↔ yO b ls i s≠[]
 | [],i,s=>by
  unfold lP yO;cases gG b s i<;>simp
 |l::ls,i,s=>by
  unfold lP yO;cases gG b s i with
  |false=>simp
  |true=>
   rw[bBL,bCT,aYJ rfl,ON];refine exists_congr fun r=>and_congr_right fun _=>?_
   rw[aYB,JB b ls];cases kR s r<;>simp
theorem yN(b:bG):lP b b.lines 0 (fS b)=decide (truths b≠[]):=by
 rw[bAY,JB,aYM];rfl

def xQ(l:List Int):List Int:=l.map fun x=>min x 1
theorem KG(l:List Int):(xQ l).length=l.length:=aZL _
theorem P6(l:List Int)(k:Nat)(x:Int):xQ (l.set k x)=(xQ l).set k (min x 1):=List.map_set
theorem zJ{l:List Int}(h:∀x∈l,0≤x)(c:Int):(nB l c≠0) ↔ nB (xQ l) c≠0:=by
 unfold nB xQ;rw[aZQ,aZQ,aYQ];cases e:l[c.toNat]? with
 |none=>simp
 |some x=>
  have:=h x (LT e);simp only[aYX,bAZ];omega
structure aWT(s s':Sc):Prop where
 ch:xQ s.ch=xQ s'.ch
 tk:xQ s.tk=xQ s'.tk
 money:s.money=s'.money
structure aBP(s:Sc):Prop where
 ch:∀x∈s.ch,0≤x
 tk:∀x∈s.tk,0≤x
theorem aNS{s s':Sc}(h:aWT s s')(hp:aBP s)(hp':aBP s')(l:gM):kR s l=kR s' l:=by
 unfold kR;have G:decide (nB s.ch l.chair≠0)=decide (nB s'.ch l.chair≠0):=decide_eq_decide.2 (by rw[zJ hp.ch,zJ hp'.ch,h.ch]);have I:decide (nB s.tk l.token≠0)=decide (nB s'.tk l.token≠0):=decide_eq_decide.2 (by rw[zJ hp.tk,zJ hp'.tk,h.tk]);rw[G,I]
theorem aEG{b:bG}{s s':Sc}(h:aWT s s')(i:Nat)(l:gM):aWT (eT b s i l) (eT b s' i l):=by
 unfold eT;split
 ·exact⟨by simp only[P6,h.ch],by simp only[P6,h.tk],by simp only[h.money]⟩
 ·exact⟨by simp only[P6,h.ch],by simp only[P6,h.tk],by simp only[h.money]⟩
theorem Z9{l:List Int}(h:∀x∈l,0≤x)(k:Nat){y:Int}(hy:0≤y):∀x∈l.set k y,0≤x:=fun x hx=>by
 rcases List.mem_or_eq_of_mem_set hx with hx|rfl
 ·exact h x hx
 ·exact hy
theorem z8{b:bG}{s:Sc}(h:aBP s)(i:Nat)(l:gM):aBP (eT b s i l):=by
 unfold eT;split
 ·exact⟨Z9 h.ch _ Yd,Z9 h.tk _ Yd⟩
 ·exact⟨Z9 h.ch _ Yd,Z9 h.tk _ Yd⟩
theorem MY(b:bG):∀(ls:List gM) (i:Nat) (s s':Sc),aWT s s'→aBP s→aBP s'→lP b ls i s=lP b ls i s'
 | [],i,s,s',h,_,_=>by unfold lP gG;rw[h.money]
 |l::ls,i,s,s',h,hp,hp'=>by
  unfold lP;have e:gG b s i=gG b s' i:=by unfold gG;rw[h.money]
  rw[e];congr 1;refine aXV _ (funext fun r=>?_);rw[aNS h hp hp',MY b ls (i+1) _ _ (aEG h i r) (z8 hp i r) (z8 hp' i r)]

theorem ND{l:List Int}{k:Nat}(hk:k<l.length)(y:Int):FG (l.set k y)=FG l-(if l.getD k 0≠0 then 1 else 0)+(if y≠0 then 1 else 0):=by
 induction l generalizing k with
 |nil=>simp at hk
 |cons x l ih=>
  cases k with
  |zero=>
   unfold FG;simp only[List.set_cons_zero,bBJ,List.getD_cons_zero,aYM];split<;>split<;>simp<;>omega
  |succ k=>
   have:=ih (k:=k) (by simpa using hk);unfold FG at this ⊢
   simp only[List.set_cons_succ,bBJ,List.getD_cons_succ];split
   ·simp only[aXY];push_cast;omega
   ·exact this
def x7(b:bG)(s:Sc):Prop:=s.money=b.box+b.coin*FG s.ch
theorem YL{l m:List Int}(h:xQ l=xQ m)(hl:∀x∈l,0≤x)(hm:∀x∈m,0≤x):FG l=FG m:=by
 induction l generalizing m with
 |nil=>
  cases m with
  |nil=>rfl
  |cons y m=>simp[xQ]at h
 |cons x l ih=>
  cases m with
  |nil=>simp[xQ]at h
  |cons y m=>
   simp only[xQ,aYN,aZS]at h;have:=ih h.2 (fun x hx=>hl x (LE _ hx)) fun x hx=>hm x (LE _ hx)
   have h1:=hl x aXW;have h2:=hm y aXW;unfold FG at this ⊢
   simp only[bBJ,aYM];have e:x≠0 ↔ y≠0:=by have:=h.1;omega
   by_cases hx:x≠0
   ·rw[aYJ hx,aYJ (e.1 hx)];simp only[aXY];push_cast;omega
   ·rw[aYC hx,aYC fun hy=>hx (e.2 hy)];exact this
theorem aJT{b:bG}{s:Sc}(h:x7 b s)(h4:s.ch.length=4){i:Nat}{l:gM}(hc:kR s l=true)(h0:0≤l.chair)(h1:l.chair<4):x7 b (eT b s i l):=by
 unfold kR at hc;simp only[aYB,bCC,decide_eq_decide]at hc;have hk:l.chair.toNat<s.ch.length:=by omega
 unfold x7 at h ⊢
 unfold eT;have hg:s.ch.getD l.chair.toNat 0=nB s.ch l.chair:=rfl;by_cases e:l.kind=2
 ·rw[aYJ e];simp only;rw[ND hk,hg,aYJ (hc.1.2 e),aYC Yd,h,Int.mul_add,Int.mul_sub];omega
 ·rw[aYC e];simp only;rw[ND hk,hg,aYC fun hh=>e (hc.1.1 hh),aYJ Yd,h,Int.mul_add,Int.mul_sub];omega
theorem W0(b:bG):x7 b (fS b):=by unfold x7 fS FG;simp
def aIU(s:Sc)(i:Nat):List Int:=(i:Int)::(xQ s.ch++xQ s.tk)
theorem aEX{b:bG}{ls:List gM}{i i':Nat}{s s':Sc}(e:aIU s i=aIU s' i')(h:x7 b s)(h':x7 b s')(hp:aBP s)(hp':aBP s')(h4:s.ch.length=4)(h4':s'.ch.length=4):i=i'∧lP b ls i s=lP b ls i' s':=by
 unfold aIU at e;rw[aZS]at e;obtain⟨O,I⟩:=e;obtain⟨G,M⟩:=List.append_inj I (by rw[KG,KG];omega)
 have hi:i=i':=by omega
 subst hi;refine⟨rfl,MY b ls i s s' ⟨G,M,?_⟩ hp hp'⟩;unfold x7 at h h';rw[h,h',YL G hp.ch hp'.ch]
end Go.Fs.C3
namespace Go.Fs
variable{P:Program}{X:Cx}{γb:Type}[Membership Nat γb]{bad:γb}{all:Array Oper}{K:Act→World→Prop}{Q:Exit→Act→World→Prop}
variable{σ:cG}{μ:aD}{Ds:List aC}{os:List (Bool×Nat)}{fl:Bool}{ix:Nat}
variable{d:Nat}{x y z:Operand}{u v:Value}{ty:TypeId}{pos:String}{aft:Array Edge}{g:Option (Nat×Bool)}
variable{k':IntKind}{m n:Nat}{t t':TypeId}
def sK(m n:Nat):Nat:=m ^^^ (m&&&n)
theorem Z4(m n i:Nat):(sK m n).testBit i=(m.testBit i&& !n.testBit i):=by
 unfold sK;rw[Nat.testBit_xor,Nat.testBit_and];cases m.testBit i<;>cases n.testBit i<;>rfl
theorem H8(m n:Nat):sK m n≤m:=by
 apply Nat.le_of_testBit;intro i hi;rw[Z4]at hi;simp at hi;exact hi.1
theorem vB{m:Nat}(h:m<9223372036854775808):(BitVec.ofInt IntKind.i64.bits (m:Int)).toNat=m:=by
 rw[BitVec.ofInt_natCast,BitVec.toNat_ofNat];exact Nat.mod_eq_of_lt (by show m<2^64;omega)
theorem aTM{m n:Nat}(h:m<9223372036854775808):m&&&n<9223372036854775808:=Nat.lt_of_le_of_lt Nat.and_le_left h
theorem aWF{m n:Nat}(h:m<9223372036854775808)(h':n<9223372036854775808):m|||n<9223372036854775808:=Nat.or_lt_two_pow (n:=63) h h'
theorem aSW(ho:all[ix]?= some ⟨some d,.binOp .and t x y t',ty,pos,aft,g⟩)(hx:ev σ x=some (qI (m:Int)))(hy:ev σ y=some (qI (n:Int)))(hm:m<9223372036854775808)(hn:n<9223372036854775808)(hN:Nat.blt d X.N=true)(hg:dE all σ g)
  (kk:WL P X bad all K Q os ((d,qI ((m&&&n:Nat):Int))::σ) μ Ds):WL P X bad all K Q ((fl,ix)::os) σ μ Ds:=
 bX ho rfl rfl hN hg (fun ρ hρ w'=>lD Ye (by
  have e:(BitVec.ofInt IntKind.i64.bits (m:Int)&&&BitVec.ofInt IntKind.i64.bits (n:Int)).toNat=m&&&n:=by rw[BitVec.toNat_and,vB hm,vB hn]
  have h2:=aTM (n:=n) hm;have h3:xO .i64 ((m&&&n:Nat):Int):=by simp only[xO];omega
  simp only[binOp,ne_eq,not_true_eq_false,aZW,Op.intBits,e,pQ h3];rfl) (hρ x _ hx) (hρ y _ hy)) kk
theorem SP(ho:all[ix]?= some ⟨some d,.binOp .or t x y t',ty,pos,aft,g⟩)(hx:ev σ x=some (qI (m:Int)))(hy:ev σ y=some (qI (n:Int)))(hm:m<9223372036854775808)(hn:n<9223372036854775808)(hN:Nat.blt d X.N=true)(hg:dE all σ g)
  (kk:WL P X bad all K Q os ((d,qI ((m|||n:Nat):Int))::σ) μ Ds):WL P X bad all K Q ((fl,ix)::os) σ μ Ds:=
 bX ho rfl rfl hN hg (fun ρ hρ w'=>lD Ye (by
  have e:(BitVec.ofInt IntKind.i64.bits (m:Int)|||BitVec.ofInt IntKind.i64.bits (n:Int)).toNat=m|||n:=by rw[BitVec.toNat_or,vB hm,vB hn]
  have h2:=aWF hm hn;have h3:xO .i64 ((m|||n:Nat):Int):=by simp only[xO];omega
  simp only[binOp,ne_eq,not_true_eq_false,aZW,Op.intBits,e,pQ h3];rfl) (hρ x _ hx) (hρ y _ hy)) kk
theorem aED(ho:all[ix]?= some ⟨some d,.binOp .andNot t x y t',ty,pos,aft,g⟩)(hx:ev σ x=some (qI (m:Int)))(hy:ev σ y=some (qI (n:Int)))(hm:m<9223372036854775808)(hn:n<9223372036854775808)(hN:Nat.blt d X.N=true)(hg:dE all σ g)
  (kk:WL P X bad all K Q os ((d,qI ((sK m n:Nat):Int))::σ) μ Ds):WL P X bad all K Q ((fl,ix)::os) σ μ Ds:=
 bX ho rfl rfl hN hg (fun ρ hρ w'=>lD Ye (by
  have e:(BitVec.ofInt IntKind.i64.bits (m:Int)&&& ~~~ BitVec.ofInt IntKind.i64.bits (n:Int)).toNat=sK m n:=by
   apply Nat.eq_of_testBit_eq;intro i;rw[Z4,BitVec.testBit_toNat,BitVec.getLsbD_and,BitVec.getLsbD_not,←BitVec.testBit_toNat,←BitVec.testBit_toNat,vB hm,vB hn];by_cases hi:i<IntKind.i64.bits
   ·simp[hi]
   ·have:m.testBit i=false:=Nat.testBit_lt_two_pow (bAC hm (bAM (show 9223372036854775808≤2^64 by decide) (bBI Yad (show 64≤i from Nat.le_of_not_lt hi))));simp[this]
  have h2:=H8 m n;have h3:xO .i64 ((sK m n:Nat):Int):=by simp only[xO];omega
  simp only[binOp,ne_eq,not_true_eq_false,aZW,Op.intBits,e,pQ h3];rfl) (hρ x _ hx) (hρ y _ hy)) kk
theorem PJ{a b:Int}(ho:all[ix]?= some ⟨some d,.binOp .or t x y t',ty,pos,aft,g⟩)(hx:ev σ x=some (qI a))(hy:ev σ y=some (qI b))(ha:0≤a∧a≤1)(hb:0≤b∧b≤1)(hN:Nat.blt d X.N=true)(hg:dE all σ g)
  (kk:WL P X bad all K Q os ((d,qI (max a b))::σ) μ Ds):WL P X bad all K Q ((fl,ix)::os) σ μ Ds:=by
 have h1:a=((a.toNat:Nat):Int):=by omega
 have h2:b=((b.toNat:Nat):Int):=by omega
 have h3:max a b=((a.toNat|||b.toNat:Nat):Int):=by
  have ha':a=0∨a=1:=by omega
  have hb':b=0∨b=1:=by omega
  rcases ha' with rfl|rfl<;>rcases hb' with rfl|rfl<;>decide
 rw[h3]at kk;rw[h1]at hx;rw[h2]at hy;exact SP ho hx hy Yd Yd hN hg kk
theorem aQQ{k:IntKind}{a:Int}(ho:all[ix]?= some ⟨some d,.unOp .neg t x,ty,pos,aft,g⟩)(hx:ev σ x=some (.int k a))(hr:xO k (-a))(hN:Nat.blt d X.N=true)(hg:dE all σ g)
  (kk:WL P X bad all K Q os ((d,.int k (-a))::σ) μ Ds):WL P X bad all K Q ((fl,ix)::os) σ μ Ds:=
 bX ho rfl rfl hN hg (fun ρ hρ w'=>by
  have h2:(0:Int)-a= -a:=by omega
  simp only[execOp,hρ x _ hx,Op.unary,Op.intArith,h2,pQ hr];rfl) kk
theorem P2{t e:TypeId}{n sz:Nat}{parts:Array (Nat×Operand)}{us:List (Nat×Value)}{zs cs:List Value}(ho:all[ix]?= some ⟨some d,.build t parts,ty,pos,aft,g⟩)(ht:P.underlying t=some (.array n e))(hs:TS P e sz)(hz:TZ P t (.agg zs.toArray))(hu:u7 σ parts.toList=some us)
  (hf:Instr.fill (fun i=>some (i*sz,sz)) zs.toArray us=some cs.toArray) (hN:Nat.blt d X.N=true) (hg:dE all σ g) (kk:WL P X bad all K Q os ((d,.agg cs.toArray)::σ) μ Ds):WL P X bad all K Q ((fl,ix)::os) σ μ Ds:=
 bX ho rfl rfl hN hg (fun ρ hρ w'=>by
  have e:(parts.map fun(i,x)=>(i,ρ x)).toList=us:=by rw[←vY hρ hu];simp
  simp only[execOp,Instr.build,Sem.run_bind,hz w',Result.andThen_ok,TU.of ht w',hs w',Value.cells,e,hf,Sem.run_pure]) kk
theorem XC{op:BinOp}(he:op=.shl∨op=.shr){k:IntKind}{a b:Int}{w:World}{r:Value}(h:(Op.shift op k a k' b).run P w=.ok r w){ρ:Operand→Value}(hx:ρ x=.int k a)(hy:ρ y=.int k' b):
  (execOp ρ ⟨some d,.binOp op t x y t',ty,pos,aft,g⟩).run P w=.ok (.value r) w:=by
 rcases he with rfl|rfl<;>simp[execOp,hx,hy,binOp,h,go_sem]
theorem u0(ho:all[ix]?= some ⟨some d,.binOp .shr t x y t',ty,pos,aft,g⟩)(hx:ev σ x=some (qI (m:Int)))(hy:ev σ y=some (.int k' (n:Int)))(hn:n≤62)(hN:Nat.blt d X.N=true)(hg:dE all σ g)
  (kk:WL P X bad all K Q os ((d,qI ((m >>> n:Nat):Int))::σ) μ Ds):WL P X bad all K Q ((fl,ix)::os) σ μ Ds:=
 bX ho rfl rfl hN hg (fun ρ hρ w'=>XC (aXR rfl) (by
  have h1:¬((n:Int)<0):=by omega
  have h2:min (n:Int).toNat IntKind.i64.bits=n:=by rw[aZN];exact bBH (bAM hn Yad)
  have h3:(m:Int).fdiv (2^n)=((m >>> n:Nat):Int):=by
   rw[Nat.shiftRight_eq_div_pow,Int.fdiv_eq_ediv_of_nonneg _ (by exact_mod_cast bCE (2^n))];simp
  simp only[Op.shift,h1,aZW,h2,h3];rfl) (hρ x _ hx) (hρ y _ hy)) kk
theorem nK(m n:Nat):((m >>> n:Nat):Int)%2=if m.testBit n then 1 else 0:=by
 rw[Nat.testBit,Nat.one_and_eq_mod_two];have:=Nat.mod_two_eq_zero_or_one (m >>> n);rcases this with h|h
 ·have:((m >>> n:Nat):Int)%2=0:=by omega
  rw[this];simp[h]
 ·have:((m >>> n:Nat):Int)%2=1:=by omega
  rw[this];simp[h]
namespace C7
structure Pt where
 a:Int
 b:Int
 c:Int
deriving DecidableEq
structure Ch where
 size:Int
 parts:Pt
structure bQ where
 chairs:List Ch
 fit:Int
 claims:List (Int×Int)
def Pt.l(p:Pt):List Int:=[p.a,p.b,p.c]
def iK(n lo hi:Int):Bool:=decide (lo≤n)&&decide (n≤hi)
theorem dA{n lo hi:Int}:iK n lo hi=true ↔ lo≤n∧n≤hi:=by simp[iK]
def SU(p:Pt)(m:Int):Bool:=p.l.all fun n=>iK n 0 m
def kO(c:Ch):Bool:=iK c.size 0 9&&SU c.parts 2
def oS(r:Int×Int):Bool:=(decide (0≤r.1)&&decide (r.1≤r.2))&&decide (r.2≤7)
def aTW(p:Pt):Nat:=(p.l.filter fun n=>decide (n=2)).length
def lI(l:List Ch):Nat:=(l.map fun c=>aTW c.parts).sum
def F9(y:bQ):Bool:=(iK y.fit 0 9&&y.chairs.all kO)&&y.claims.all oS
def bB(y:bQ):Int:=if 7<y.chairs.length∨5<y.claims.length then 3 else if F9 y=false then 1 else if 8<lI y.chairs then 3 else 0
def U8(n t:Int):Bool:=iK t 0 1&&(decide (n=2)||decide (t=n))
def SV(p t:Pt):Bool:=(p.l.zip t.l).all fun x=>U8 x.1 x.2
def rF(y:bQ)(t:List Pt):Bool:=decide (t.length=y.chairs.length)&&(y.chairs.zip t).all fun x=>SV x.1.parts x.2
def lE(p:Pt):Bool:=decide (p=⟨1,1,1⟩)
def whole(t:List Pt):Nat:=(t.filter lE).length
end C7
open C7
def aWW(p:Pt):Value:=.agg #[qI p.a,qI p.b,qI p.c]
def aVC(c:Ch):Value:=.agg #[qI c.size,qI c.parts.a,qI c.parts.b,qI c.parts.c]
def RP:Rd Pt:=fun _ p cs=>cs=[qI p.a,qI p.b,qI p.c]
theorem RP.up:RP.Up:=fun _ _ _ h=>h
def wB:Rd Ch:=fun _ c cs=>cs=[qI c.size,qI c.parts.a,qI c.parts.b,qI c.parts.c]
theorem wB.up:wB.Up:=fun _ _ _ h=>h
def R2:Rd (Int×Int):=fun _ p cs=>cs=[qI p.1,qI p.2]
theorem R2.up:R2.Up:=fun _ _ _ h=>h
def lM(D:aC)(v:Value)(y:bQ):Prop:=∃cv rv,v=.agg #[cv,qI y.fit,rv]∧Sl D wB 4 cv y.chairs∧Sl D R2 2 rv y.claims
theorem lM.up{D D':aC}{v:Value}{y:bQ}(h:lM D v y)(hl:Le D D'):lM D' v y:=by
 obtain⟨cv,rv,hv,hc,hr⟩:=h;exact⟨cv,rv,hv,hc.up wB.up hl,hr.up R2.up hl⟩
abbrev aD.ks(μ:aD):List Nat:=μ.map fun p=>p.1
def BA(P:Program)(f:FuncId)(args:List Value)(D:aC)(ν:aD)(post:aC→Value→aD→Prop):Prop:=
 EF P f∧∀w,eO D w→(∀p∈ν,w.heap[p.1]?= some p.2∧D p.1=[]∧dD p.2)→ν.ks.Nodup→Calls P f args.toArray w fun e w'=>∃v D' ν',e=.returned v∧ν'.ks=ν.ks∧hP (hd w) w.heap.size D ν.ks ν' D' w'∧post D' v ν'
theorem hP.afterM{h0:H0}{lo:Nat}{D0 D D':aC}{mods:List Nat}{A B ν ν':aD}{w w':World}(h:hP h0 lo D0 mods (A++ν++B) D w)(hk:ν'.ks=ν.ks)(hs:hP (hd w) w.heap.size D ν.ks ν' D' w'):hP h0 lo D0 mods (A++ν'++B) D' w':=by
 have hle:=bAM h.hlo h.size;have hin:∀c∈ν.ks,∃o,(c,o)∈ν:=fun c hc=>by
  obtain⟨p,hp,rfl⟩:=n4.1 hc;exact⟨p.2,hp⟩
 have hbx:∀p∈ν,_:=fun p hp=>h.box p (aXU _ (n5 _ hp))
 have hnd:=h.nd;simp only[aYE]at hnd;have keys:(A++ν'++B).map (fun p=>p.1)=(A++ν++B).map (fun p=>p.1):=by
  simp only[aYE];rw[show ν'.map (fun p=>p.1)=ν.map (fun p=>p.1)from hk]
 refine⟨h.hlo,bAM h.size hs.size,fun c hc hm=>?_,fun c hc=>?_,hs.agr,fun p hp=>?_,by rw[keys];exact h.nd,fun p hp=>?_,fun e he=>(hs.env _ rfl).trans (h.env e he)⟩
 ·have hne:c∉ν.ks:=by
   intro hcm;obtain⟨o,ho⟩:=hin c hcm;rcases(hbx _ ho).2.2 with h'|h'
   ·have:=h.hlo;simp at h';omega
   ·exact hm h'
  rw[hs.old c (bAC hc hle) hne];exact h.old c hc hm
 ·rw[hs.dold c (bAC hc hle)];exact h.dold c hc
 ·rcases aYD.1 hp with hp|hp
  ·rcases aYD.1 hp with hp|hp
   ·obtain⟨h1,h2,h3⟩:=h.box p (aXU _ (aXU _ hp));have hl:=bK h1;have hne:p.1∉ν.ks:=fun hm=>(aXX.1 (aXX.1 hnd).1).2.2 p.1 (n4.2 ⟨p,hp,rfl⟩) p.1 hm rfl
    exact⟨by rw[hs.old _ hl hne];exact h1,by rw[hs.dold _ hl];exact h2,h3⟩
   ·obtain⟨G,I,_⟩:=hs.box p hp;have hm:p.1∈ν.ks:=by rw[←hk];exact n4.2 ⟨p,hp,rfl⟩
    obtain⟨o,ho⟩:=hin p.1 hm;exact⟨G,I,(hbx _ ho).2.2⟩
  ·obtain⟨h1,h2,h3⟩:=h.box p (n5 _ hp);have hl:=bK h1;have hne:p.1∉ν.ks:=fun hm=>(aXX.1 hnd).2.2 p.1 (n5 _ hm) p.1 (n4.2 ⟨p,hp,rfl⟩) rfl
   exact⟨by rw[hs.old _ hl hne];exact h1,by rw[hs.dold _ hl];exact h2,h3⟩
 ·rcases aYD.1 hp with hp|hp
  ·rcases aYD.1 hp with hp|hp
   ·exact h.fz p (aXU _ (aXU _ hp))
   ·exact hs.fz p hp
  ·exact h.fz p (n5 _ hp)
theorem fJ{c:Operand}{xs:Array Operand}{ats:Array TypeId}{f:FuncId}{c1 c2:List Value}{vs:List Value}{A B ν:aD}{post:aC→Value→aD→Prop}(ho:all[ix]?= some ⟨some d,.call {callee:=.value c,args:=xs,argTypes:=ats},ty,pos,aft,g⟩)(hc:ev σ c=some (.func (.func f) c1.toArray c2.toArray))(hxs:Q8 σ xs.toList=some vs)
  (hex:X.ex=none) (hfl:fl=false∨∀p∈ν,p.1∈bad) (hu:∀p∈ν,dD p.2) (hf:∀D,(∀D₁∈Ds,Le D₁ D)→BA P f (c1++vs++c2) D ν post) (hN:Nat.blt d X.N=true) (hg:dE all σ g)
  (kk:∀v D ν',(∀D₁∈Ds,Le D₁ D)→post D v ν'→WL P X bad all K Q os ((d,v)::σ) (A++ν'++B) (D::Ds)):
  WL P X bad all K Q ((fl,ix)::os) σ (A++ν++B) Ds:=by
 refine eI ho rfl rfl hg fun a w hh=>?_
 obtain⟨h1,h2,h3,D,h4,h5,G⟩:=id hh;have hF:=hf D h5;have hbx:∀p∈ν,_:=fun p hp=>h4.box p (aXU _ (n5 _ hp))
 have hnd:=h4.nd;simp only[aYE]at hnd;rw[sC hF.1 (hh.eval hc) (kA (fun _ _ hx=>hh.eval hx) hxs)];refine⟨fun h=>by simp[FW]at h,dN.2 ((hF.2 w h4.agr (fun p hp=>⟨(hbx p hp).1,(hbx p hp).2.1,hu p hp⟩) (aXX.1 (aXX.1 hnd).1).2.1).mono ?_)⟩;rintro e w' ⟨v,D',ν',rfl,hk,hs,hpost⟩;have hle:=fU h4.agr hs;refine⟨fun hflt=>⟨hs.size,fun c hc hcb=>hs.old c hc (fun hm=>?_)⟩,kk v D' ν' (fun D₁ hD₁=>(h5 D₁ hD₁).trans hle) hpost _ _ ?_⟩
 ·obtain⟨p,hp,rfl⟩:=n4.1 hm;rcases hfl with h|h
  ·rw[hflt]at h;cases h
  ·exact hcb (h p hp)
 ·refine Hl.put ⟨h1,h2,h3,D',h4.afterM hk hs,fun D₁ hD₁=>?_,by unfold A8;rw[hex];trivial⟩ hN v;rcases GE.1 hD₁ with rfl|hD₁
  ·exact Le.refl _
  ·exact(h5 D₁ hD₁).trans hle
theorem AY{c:Operand}{xs:Array Operand}{ats:Array TypeId}{f:FuncId}{c1 c2:List Value}{vs:List Value}{A ν:aD}{post:aC→Value→aD→Prop}(ho:all[ix]?= some ⟨some d,.call {callee:=.value c,args:=xs,argTypes:=ats},ty,pos,aft,g⟩)(hc:ev σ c=some (.func (.func f) c1.toArray c2.toArray))(hxs:Q8 σ xs.toList=some vs)
  (hex:X.ex=none) (hfl:fl=false∨∀p∈ν,p.1∈bad) (hu:∀p∈ν,dD p.2) (hf:∀D,(∀D₁∈Ds,Le D₁ D)→BA P f (c1++vs++c2) D ν post) (hN:Nat.blt d X.N=true) (hg:dE all σ g)
  (kk:∀v D ν',(∀D₁∈Ds,Le D₁ D)→post D v ν'→WL P X bad all K Q os ((d,v)::σ) (A++ν') (D::Ds)):
  WL P X bad all K Q ((fl,ix)::os) σ (A++ν) Ds:=by
 have:=fJ (A:=A) (B:=[]) ho hc hxs hex hfl hu hf hN hg (fun v D ν' h1 h2=>by rw[aXS];exact kk v D ν' h1 h2)
 rwa [aXS]at this
def lS(X:Cx)(ks:List Nat)(post:aC→Value→aD→Prop):Ending→World→Prop:=fun e w'=>∃v D' ν',e=.returned v∧ν'.ks=ks∧hP X.h0 X.lo X.D0 X.mods ν' D' w'∧post D' v ν'
theorem jF{fn:Func}{ks:List Nat}{post:aC→Value→aD→Prop}:NP (bodyPost P fn (lS X ks post)):=by
 rintro c a w ⟨_,v,D',μ',h,_⟩;cases h
def qA(N:Nat)(h0:H0)(D:aC)(ks:List Nat):Cx:=⟨none,N,[],h0,h0.size,D,ks,none⟩
theorem iR{f:FuncId}{fn:Func}{c:Code}{args:List Value}{D:aC}{ν:aD}{post:aC→Value→aD→Prop}(N:Nat)(hf:P.funcs[f]?= some fn)(hn:(fn.name== "runtime.NumGoroutine")=false)(hb:fn.body=some c)(hN:fn.ntmps=N)(hsz:Nat.ble args.length N=true)
  (h:∀h0:H0,(∀p∈ν,p.1<h0.size)→ν.ks.Nodup→WC P (qA N h0 D ν.ks) (bodyPost P fn (lS (qA N h0 D ν.ks) ν.ks post)) c (jG 0 args) ν [D]):BA P f args D ν post:=by
 refine⟨EF.of hf hn hb,fun w hw hν hnd=>?_⟩;subst hN;have hsz:=aZC hsz;refine(dN (r:=none) (n:=0)).1 ((callsIn_of_wp (R:=lS (qA fn.ntmps (hd w) D ν.ks) ν.ks post) hf hb bCV (h (hd w) (fun p hp=>bK (hν p hp).1) hnd _ w ⟨?_,fun s v hs=>?_,rfl,D,⟨aYI _,aYI _,fun _ _ _=>rfl,fun _ _=>rfl,hw,(fun p hp=>?_),hnd,(fun p hp=>(hν p hp).2.2),fun e he=>aYS he⟩,fun D₁ h1=>?_,bCV⟩) rfl).mono ?_)
 ·simp[qA];omega
 ·obtain⟨_,h2⟩:=fQ args 0 s v hs;have hl:=(aXZ.1 h2).1;simp only[bAX]at h2 hl;show(args.toArray++_)[s]?= some v;rw[bAI Yas];simpa using h2
 ·exact⟨(hν p hp).1,(hν p hp).2.1,aXR (n4.2 ⟨p,hp,rfl⟩)⟩
 ·simp only[aYH]at h1;subst h1;exact Le.refl _
 ·rintro e w' ⟨v,D',ν',rfl,hk,hs,hp⟩;exact⟨v,D',ν',rfl,hk,hs,hp⟩
theorem A2{fn:Func}{ks:List Nat}{A B ν':aD}{post:aC→Value→aD→Prop}{e:Exit}(he:(match e with|.normal=>true|.ret=>true|_=>false)=true){rs:List ResultVar}{vs:List Value}(hds:X.ds=[])(hr:fn.results=rs.toArray)(h:wL P X σ (A++ν'++B) rs vs)
  (hk:ν'.ks=ks) (hp:∀D,(∀D₁∈Ds,Le D₁ D)→post D (pT vs) ν'):∀a w,Hl X σ (A++ν'++B) Ds a w→bodyPost P fn (lS X ks post) e a w:=by
 intro a w hh;have hrun:=iQ hh hr h;obtain⟨h1,h2,h3,D,h4,h5,h6⟩:=hh;have hnd:=h4.nd;simp only[aYE]at hnd;have:a.defers=[]∧∃v,(results fn a.tmps).run P w=.ok v w∧lS X ks post (.returned v) w:=⟨h3.trans hds,_,hrun,_,D,ν',rfl,hk,h4.sub (fun p hp=>aXU _ (n5 _ hp)) (aXX.1 (aXX.1 hnd).1).2.1,hp D h5⟩
 cases e<;>first|exact this|cases he
theorem _root_.Go.Fs.Zac{fn:Func}{ks:List Nat}(A:aD)(B:aD)(ν':aD){post:aC→Value→aD→Prop}{e:Exit}{rs:List ResultVar}(vs:List Value)(e9:((match e with|.normal=>true|.ret=>true|_=>false),X.ds,fn.results)=(true,[],rs.toArray))(h:wL P X σ (A++ν'++B) rs vs)(hk:ν'.ks=ks)(hp:∀D,(∀D₁∈Ds,Le D₁ D)→post D (pT vs) ν'):∀a w,Hl X σ (A++ν'++B) Ds a w→bodyPost P fn (lS X ks post) e a w:=A2 (A:=A) (B:=B) (ν':=ν') (vs:=vs) (aXV (fun z=>z.1) e9) (aXV (fun z=>z.2.1) e9) (aXV (fun z=>z.2.2) e9) h hk hp
end Go.Fs
