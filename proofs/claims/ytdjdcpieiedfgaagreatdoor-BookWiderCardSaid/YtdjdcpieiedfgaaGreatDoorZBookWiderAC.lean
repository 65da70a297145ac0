/- Of the proof of BookWider: Rest, Types, Spec, Row, Keys, Own, Tide, Book, BookLaw, BookEnds, Bits, Yard, Many. -/
import Derived.Test.YtdjdcpieiedfgaaGreatDoorZBookWiderAB
import Derived.Test.YtdjdcpieiedfgaaGreatDoorProg
import Derived.Test.YtdjdcpieiedfgaaGreatDoorZBookWiderAA
import Derived.ChangeKeysEq
namespace Go.Fs
variable{P:Program}{X:Cx}{γb:Type}[Membership Nat γb]{bad:γb}{all:Array Oper}{K:Act→World→Prop}{Q:Exit→Act→World→Prop}
variable{σ:bO}{μ:aD}{Ds:List aC}{os:List (Bool×Nat)}{fl:Bool}{ix:Nat}
variable{d:Nat}{x y z:Operand}{u v:Value}{ty:TypeId}{pos:String}{aft:Array Edge}{g:Option (Nat×Bool)}
theorem aHR{t e:TypeId}{n b:Nat}(ho:all[ix]?= some ⟨some d,.slice t x none none none,ty,pos,aft,g⟩)(ht:P.underlying t=some (.array n e))(hs:TS P e 1)(hx:ev σ x=some (qP b))
  (hN:Nat.blt d X.N=true) (hg:dE all σ g) (kk:WL P X bad all K Q os ((d,qS b n n)::σ) μ Ds):WL P X bad all K Q ((fl,ix)::os) σ μ Ds:=
 bQ ho rfl rfl hN hg (fun ρ hρ w'=>by
  simp only[execOp,hρ x _ hx,bBA];unfold Instr.sliceAt Instr.sureAddr Instr.sliceBounds;simp only[Sem.run_bind,TU.of ht w',Result.andThen_ok,hs w',Sem.run_pure,pure_bind,bCS,bCM];split<;>simp[Addr.add]) kk
theorem aCW{k k':IntKind}{s t:TypeId}{n:Int}(ho:all[ix]?= some ⟨some d,.convert s t x,ty,pos,aft,g⟩)(hr:∀w,(Go.convert s t (.int k n)).run P w=.ok (.int k' n) w)(hx:ev σ x=some (.int k n))(hN:Nat.blt d X.N=true)(hg:dE all σ g)
  (kk:WL P X bad all K Q os ((d,.int k' n)::σ) μ Ds):WL P X bad all K Q ((fl,ix)::os) σ μ Ds:=
 bQ ho rfl rfl hN hg (fun ρ hρ w'=>by simp only[execOp,hρ x _ hx,Sem.run_bind,hr w',Result.andThen_ok,Sem.run_pure]) kk
theorem J9{t t':TypeId}{b:Bool}(ho:all[ix]?= some ⟨some d,.binOp .eql t x y t',ty,pos,aft,g⟩)(hr:∀w,((do eqGuard .eql t x y u v;binOp .eql t u v):Sem Value).run P w=.ok (.bool b) w)(hx:ev σ x=some u)(hy:ev σ y=some v)(hN:Nat.blt d X.N=true)(hg:dE all σ g)
  (kk:WL P X bad all K Q os ((d,.bool b)::σ) μ Ds):WL P X bad all K Q ((fl,ix)::os) σ μ Ds:=
 bQ ho rfl rfl hN hg (fun ρ hρ w'=>by simp only[execOp,hρ x _ hx,hρ y _ hy];rw[Sem.run_bind,hr w'];rfl) kk
theorem HX{t t':TypeId}{b:Bool}(ho:all[ix]?= some ⟨some d,.binOp .neq t x y t',ty,pos,aft,g⟩)(hr:∀w,((do eqGuard .neq t x y u v;binOp .neq t u v):Sem Value).run P w=.ok (.bool b) w)(hx:ev σ x=some u)(hy:ev σ y=some v)(hN:Nat.blt d X.N=true)(hg:dE all σ g)
  (kk:WL P X bad all K Q os ((d,.bool b)::σ) μ Ds):WL P X bad all K Q ((fl,ix)::os) σ μ Ds:=
 bQ ho rfl rfl hN hg (fun ρ hρ w'=>by simp only[execOp,hρ x _ hx,hρ y _ hy];rw[Sem.run_bind,hr w'];rfl) kk
theorem yW{t:TypeId}{a b:Bool}(ht:P.underlying t=some .bool)(w:World):(Op.equal t (.bool a) (.bool b)).run P w=.ok (a==b) w:=by
 have h:(Op.equalIn (9999+1) t (.bool a) (.bool b)).run P w=.ok (a==b) w:=by
  rw[Op.equalIn,Sem.run_bind,TU.of ht w];rfl
 exact h
theorem aUS{t t':TypeId}{a b:Bool}(ho:all[ix]?= some ⟨some d,.binOp .eql t x y t',ty,pos,aft,g⟩)(ht:P.underlying t=some .bool)(hx:ev σ x=some (.bool a))(hy:ev σ y=some (.bool b))(hN:Nat.blt d X.N=true)(hg:dE all σ g)
  (kk:WL P X bad all K Q os ((d,.bool (a==b))::σ) μ Ds):WL P X bad all K Q ((fl,ix)::os) σ μ Ds:=
 J9 ho (fun w=>by
  have hg:(eqGuard .eql t x y (.bool a) (.bool b)).run P w=.ok () w:=rfl;rw[Sem.run_bind,hg];show((do Pure.pure (Value.bool (←Op.equal t (.bool a) (.bool b)))):Sem Value).run P w=_;rw[Sem.run_bind,yW ht];rfl) hx hy hN hg kk
theorem ID{t t':TypeId}{a b:Bool}(ho:all[ix]?= some ⟨some d,.binOp .neq t x y t',ty,pos,aft,g⟩)(ht:P.underlying t=some .bool)(hx:ev σ x=some (.bool a))(hy:ev σ y=some (.bool b))(hN:Nat.blt d X.N=true)(hg:dE all σ g)
  (kk:WL P X bad all K Q os ((d,.bool (!(a==b)))::σ) μ Ds):WL P X bad all K Q ((fl,ix)::os) σ μ Ds:=
 HX ho (fun w=>by
  have hg:(eqGuard .neq t x y (.bool a) (.bool b)).run P w=.ok () w:=rfl;rw[Sem.run_bind,hg];show((do Pure.pure (Value.bool (!(←Op.equal t (.bool a) (.bool b))))):Sem Value).run P w=_;rw[Sem.run_bind,yW ht];rfl) hx hy hN hg kk
theorem GV{n:Nat}(h:∀a w,Hl X σ μ Ds a w→Q .normal a w):WC P X Q (.label n) σ μ Ds:=fun a w hh=>wpIn_label (h a w hh)
theorem p5{t e:TypeId}{n:Nat}{l:List Int}{k:IntKind}{i m:Int}(ho:all[ix]?= some ⟨some d,.index t x y,ty,pos,aft,g⟩)(ht:P.underlying t=some (.array n e))(ha:TA P e false)(hs:TS P e 1)(hx:ev σ x=some (.agg (ints l).toArray))(hy:ev σ y=some (.int k i))(h0:0≤i)(h1:i<n)(hm:l[i.toNat]?= some m)
  (hN:Nat.blt d X.N=true) (hg:dE all σ g) (kk:WL P X bad all K Q os ((d,qI m)::σ) μ Ds):WL P X bad all K Q ((fl,ix)::os) σ μ Ds:=
 bQ ho rfl rfl hN hg (fun ρ hρ w'=>by
  have hg:(ints l).toArray[i.toNat]?= some (qI m):=by simpa using cD hm
  simp only[execOp,hρ x _ hx,hρ y _ hy];unfold Instr.index asIntOf part;simp only[Sem.run_bind,TU.of ht w',Result.andThen_ok,hs w',ha w',Sem.run_pure,pure_bind,h0,h1,bDO,bAX,bBQ,bAE,bBH,hg]) kk
theorem fV(l m:List Int):ints l++ints m=ints (l++m):=by simp[ints]
theorem aLG{t f k ft:Nat}{cs:List Value}{fs:Array Field}(ho:all[ix]?= some ⟨some d,.field t x f,ty,pos,aft,g⟩)(ht:P.underlying t=some (.struct fs))(hk:(fs[f]?).map (fun f=>(f.offset,f.type))=some (k,ft))(ha:TA P ft false)(hx:ev σ x=some (.agg cs.toArray))(hv:cs[k]?= some v)
  (hN:Nat.blt d X.N=true) (hg:dE all σ g) (kk:WL P X bad all K Q os ((d,v)::σ) μ Ds):WL P X bad all K Q ((fl,ix)::os) σ μ Ds:=
 bQ ho rfl rfl hN hg (fun ρ hρ w'=>by
  cases hf:fs[f]? with
  |none=>simp[hf]at hk
  |some f0=>
   simp only[hf,aZX,bCU,bCQ]at hk;obtain⟨rfl,rfl⟩:=hk;have hv':cs.toArray[f0.offset]?= some v:=by simpa using hv
   simp only[execOp,hρ x _ hx];unfold Instr.field asAgg part;simp only[Sem.run_bind,TU.of ht w',Result.andThen_ok,hf,ha w',Sem.run_pure,pure_bind,bAE,bBH,hv']) kk
theorem iW{t:TypeId}{D₁:aC}{b k:Nat}{cs:List Value}(ho:all[ix]?= some ⟨some d,.load t x,ty,pos,aft,g⟩)(ha:TA P t false)(hx:ev σ x=some (.pointer (some ⟨b,k,none⟩)))(hA:At D₁ b 0 cs)(hD:D₁∈Ds)(hv:cs[k]?= some v)(hb:b∉bad)
  (hN:Nat.blt d X.N=true) (hg:dE all σ g) (kk:WL P X bad all K Q os ((d,v)::σ) μ Ds):WL P X bad all K Q ((fl,ix)::os) σ μ Ds:=
 dU (o:=0) (k:=k) ho ha (by rw[bCB];exact hx) hA hD hv hb hN hg kk
theorem a7{γ:Type}{c:Code}{N lo:Nat}{J0:tL}(m:γ→Nat)(I:γ→Prop)(J:γ→tL)(ch:γ→bO)(rest:bO)(M:γ→aD)(E:γ→List aC)(g₀:γ)(h₀:I g₀)(hJ:J0=J g₀)(hch:AM σ (ch g₀))(hrest:AM σ rest)(hμ:(M g₀).Sublist μ)(hD:∀D∈E g₀,∃D'∈Ds,Le D D')
  (round:∀g,I g→WC P (Xj N lo (J g)) (Exit.then (fun a w=>∃g',I g'∧m g'<m g∧Hl (Xj N lo (J g')) (ch g'++rest) (M g') (E g') a w) Q) c (ch g++rest) (M g) (E g)):WC P (Xj N lo J0) Q (.loop c) σ μ Ds:=by
 subst hJ
 let p:Act→World→Nat→Prop:=fun a w n=>∃g,I g∧m g=n∧Hl (Xj N lo (J g)) (ch g++rest) (M g) (E g) a w
 have ex:∀a w,(∃n,p a w n)→∃n,p a w n∧∀k,p a w k→n≤k:=by
  intro a w ⟨n,hn⟩;induction n using Nat.strongRecOn with
  |_ n ih=>
   by_cases h:∃k,k<n∧p a w k
   ·obtain⟨k,hk,hp⟩:=h;exact ih k hk hp
   ·exact⟨n,hn,fun k hk=>Nat.le_of_not_lt fun hl=>h ⟨k,hl,hk⟩⟩
 intro a w hh;refine wpIn_loop (fun a w=>∃n,p a w n) (fun a w=>open Classical in if h:∃n,p a w n then(ex a w h).choose else 0) ⟨_,g₀,h₀,rfl,hh.weak (AM.app hch hrest) hμ hD⟩ ?_;intro a w hI;obtain⟨⟨g,hg,hm,hst⟩,hmin⟩:=(ex a w hI).choose_spec;refine wpIn_mono (round g hg a w hst) fun e a' w' hq=>?_
 cases e with
 |normal=>
  obtain⟨g',hg',hlt,hst'⟩:=hq;have hI':∃n,p a' w' n:=⟨_,g',hg',rfl,hst'⟩
  refine⟨hI',?_⟩;simp only[dif_pos hI',dif_pos hI];have:=(ex a' w' hI').choose_spec.2 _ ⟨g',hg',rfl,hst'⟩;omega
 |_=>exact hq
theorem tG{γ:Type}{N lo:Nat}{J1:tL}{m:γ→Nat}{I:γ→Prop}{J:γ→tL}{ch:γ→bO}{rest:bO}{M:γ→aD}{E:γ→List aC}{g:γ}(n:Nat)(g':γ)(h1:I g')(h2:m g'<m g)(hJ:J1=J g')(hch:AM σ (ch g'))(hn:I3 n σ=true)(hr:σ.drop n=rest)(hμ:(M g').Sublist μ)(hD:∀D∈E g',∃D'∈Ds,Le D D'):
  ∀a w,Hl (Xj N lo J1) σ μ Ds a w→Exit.then (fun a w=>∃g',I g'∧m g'<m g∧Hl (Xj N lo (J g')) (ch g'++rest) (M g') (E g') a w) Q .normal a w:=by
 subst hJ;intro a w hh;refine⟨g',h1,h2,?_⟩;have h3:=hh.weak (σ':=ch g') hch hμ hD;refine⟨h3.1,fun s v hs=>?_,h3.2.2⟩;rcases W5 hs with hs|hs
 ·exact h3.2.1 s v hs
 ·subst hr;exact hh.2.1 s v (zT n σ hn s v hs)
theorem II{J J1 J0:tL}{l N lo:Nat}{c:Operand}{xs:Array Operand}{ats:Array TypeId}{vs:List Value}(ho:all[ix]?= some ⟨some d,.call {callee:=.value c,args:=xs,argTypes:=ats},ty,pos,aft,g⟩)
  (hc:ev σ c=some (.func (.yield l) #[] #[])) (hxs:X7 σ xs.toList=some vs) (hfl:fl=false) (G:I8 lo J1) (I:I8 lo J0)
  (hY:∀D w,zF lo D w→J (μ.map (·.1)) D w→(∀p∈μ,p.1<w.heap.size)→(∀D₁∈Ds,Le D₁ D)→iM P l vs w fun b D' w'=>zF lo D' w'∧zK (μ.map (·.1)) D w D' w'∧(if b then J1 (μ.map (·.1)) D' w' else J0 (μ.map (·.1)) D' w'))
  (hN:Nat.blt d N=true) (hg:dE all σ g)
  (kk:∀b J',J'=(if b=true then J1 else J0)→WL P (Xj N lo J') bad all K Q os ((d,.bool b)::σ) μ Ds):WL P (Xj N lo J) bad all K Q ((fl,ix)::os) σ μ Ds:=
 aNO (X:=Xj N lo J) ho hc hxs rfl hfl rfl rfl G I hY hN hg (kk true J1 rfl) (kk false J0 rfl)
theorem zB{c:Code}(k:(μ.map (·.1)).Nodup→WC P X Q c σ μ Ds):WC P X Q c σ μ Ds:=fun a w hh=>k (by obtain⟨_,_,_,D,h4,_⟩:=hh;exact h4.nd) a w hh
theorem bD{t:TypeId}{b n:Nat}{vs us:List Value}{e:TypeId}{μ':aD}(ho:all[ix]?= some ⟨none,.store t x y,ty,pos,aft,g⟩)(hx:ev σ x=some (qP b))(hy:ev σ y=some v)(hv:v.cells=us.toArray)(hs:TS P t n)
  (hn:us.length=n) (hl:vs.length=n) (hm:bR μ b (.cells vs.toArray e (0,0)) (.cells us.toArray e (0,0)) μ') (hc1:∀u∈us,cell1 u=true) (hg:dE all σ g)
  (kk:WL P X bad all K Q os σ μ' Ds):WL P X bad all K Q ((false,ix)::os) σ μ Ds:=
 bG ho hx hy hv (by rw[hn];exact hs) hm Yd (by rw[List.take_zero,bCB,aZZ Yd];simp) hc1 hg kk
theorem _root_.Go.Fs.Zt{t:TypeId}{b:Nat}{n:Nat}{vs:List Value}{us:List Value}{e:TypeId}{μ':aD}(e9:(all[ix]?,ev σ x,ev σ y,v.cells)=(some ⟨none,.store t x y,ty,pos,aft,g⟩,some (qP b),some v,us.toArray))(hs:TS P t n)(hm:bR μ b (.cells vs.toArray e (0,0)) (.cells us.toArray e (0,0)) μ')(kk:WL P X bad all K Q os σ μ' Ds)(hn:us.length=n:=by exact Ya)(hl:vs.length=n:=by exact Ya)(hc1:∀u∈us,cell1 u=true:=by exact Yh)(hg:dE all σ g:=by exact bDY):WL P X bad all K Q ((false,ix)::os) σ μ Ds:=bD (aYY (fun z=>z.1) e9) (aYY (fun z=>z.2.1) e9) (aYY (fun z=>z.2.2.1) e9) (aYY (fun z=>z.2.2.2) e9) hs hn hl hm hc1 hg kk
theorem fJ{t e tr e':TypeId}{n sz:Nat}{cells:List Value}{ν:aD}{ats:Array TypeId}(ho:all[ix]?= some ⟨some d,.call {callee:=.builtin .len,args:=#[x],argTypes:=ats},tr,pos,aft,g⟩)(ht:P.underlying t=some (.slice e))(hx:ev σ x=some v)(hS:bS e' sz v n cells ν)(hat:ats[0]?= some t)
  (hN:Nat.blt d X.N=true) (hg:dE all σ g) (kk:WL P X bad all K Q os ((d,qI (n:Int))::σ) μ Ds):
  WL P X bad all K Q ((fl,ix)::os) σ μ Ds:=
 bQ ho rfl rfl hN hg (fun ρ hρ w'=>by
  have hx':=hρ x _ hx;rcases hS with⟨a,rfl,rfl,_⟩|⟨b,cap,junk,rfl,_⟩
  ·simp[Builtin.len_,hat,hx',Sem.run_bind,TU.of ht w',goInt,Sem.run_pure,go_sem]
  ·simp[Builtin.len_,hat,hx',Sem.run_bind,TU.of ht w',goInt,Sem.run_pure,go_sem]) kk
theorem Hl.dropBoxes{a:Act}{w:World}(n:Nat)(h:Hl X σ μ Ds a w):Hl X σ (μ.drop n) Ds a w:=by
 obtain⟨h1,h2,h3,D,h4,h5,G⟩:=h;have hμ:(μ.drop n).Sublist μ:=List.drop_sublist n μ;exact⟨h1,h2,h3,D,h4.sub (fun p hp=>hμ.mem hp) ((hμ.map (·.1)).nodup h4.nd),h5,G.step (fun _ p hp=>aZE (GT.2 ⟨p,hμ.mem hp,rfl⟩)) (fun _=>aKU.refl _ _ _) h4.dom⟩
theorem bS.cells1{e:TypeId}{sz n:Nat}{cells:List Value}{ν:aD}(h:bS e sz v n cells ν):v.cells=[v].toArray:=by
 rcases h with⟨a,rfl,_⟩|⟨b,cap,junk,rfl,_⟩<;>rfl
theorem bS.cell1{e:TypeId}{sz n:Nat}{cells:List Value}{ν:aD}(h:bS e sz v n cells ν):∀u∈[v],Fs.cell1 u=true:=by
 rcases h with⟨a,rfl,_⟩|⟨b,cap,junk,rfl,_⟩<;>simp[Fs.cell1]

theorem lY{b:Frame}{a:Act}{k:List Item}{cs:List Frame}{w:World}{c:Code}:step P (lone (b.atR a (.code (.scope c)::k)) cs w)=.next (lone (b.atR a (.code c::.inScope c::k)) cs w):=
 step_lone_go (by simp[stepG,stepG.exec,Frame.atR])
theorem u5{b:Frame}{a:Act}{k:List Item}{cs:List Frame}{w:World}{c:Code}:step P (lone (b.atR a (.inScope c::k)) cs w)=.next (lone (b.atR a k) cs w):=
 step_lone_go (by simp[stepG,stepG.exec,Frame.atR])
def U8(Q:Exit→Act→World→Prop):Exit→Act→World→Prop
 |.goto _,_,_=>False
 |e,a,w=>Q e a w
theorem NP.ngt{Q:Exit→Act→World→Prop}(h:NP Q):NP (U8 Q):=fun c a w q=>h c a w q
theorem PI.ngt{Q:Exit→Act→World→Prop}(h:PI Q):PI (U8 Q):=fun c a b w d q=>h c a b w d q
theorem MY{F:Fence}{n:Nat}{c:Code}{a:Act}{w:World}(h:c.wpIn F n P (U8 Q) a w):(Code.scope c).wpIn F n P Q a w:=by
 intro b k cs hro hb hr;have h0:(lone (b.atR a (.code (.scope c)::k)) cs w).fenced P F:=fenced_calm hb hr rfl;obtain⟨e,a₁,w₁,hq,harr⟩:=h b (.inScope c::k) cs hro hb hr;cases e with
 |normal=>exact⟨.normal,a₁,w₁,hq,.head h0 lY (StepsIn.trans harr (.one (fenced_calm hb hr rfl) u5))⟩
 |exit id'=>
  have hx:exitTo id' (.inScope c::k)=exitTo id' k:=by simp[exitTo]
  exact⟨.exit id',a₁,w₁,hq,fun k' hk=>.head h0 lY (harr.1 k' (by rw[hx];exact hk)),
   fun hr' hk=>let ⟨k₁,h1,h2⟩:=harr.2 hr' (by rw[hx];exact hk);⟨k₁,h1,.head h0 lY h2⟩⟩
 |goto l=>exact hq.elim
 |ret=>exact⟨_,a₁,w₁,hq,.of_steps (.one h0 lY) harr⟩
 |panic ch=>exact⟨_,a₁,w₁,hq,.of_steps (.one h0 lY) harr⟩
 |outgrown=>exact⟨_,a₁,w₁,hq,.of_steps (.one h0 lY) harr⟩
theorem UV{c:Code}(h:WC P X (U8 Q) c σ μ Ds):WC P X Q (.scope c) σ μ Ds:=fun a w hh=>MY (h a w hh)
theorem wV(h:∀a w,Hl X σ μ Ds a w→Q .normal a w):∀a w,Hl X σ μ Ds a w→U8 Q .normal a w:=h
theorem H8(h:∀a w,Hl X σ μ Ds a w→Q .ret a w):∀a w,Hl X σ μ Ds a w→U8 Q .ret a w:=h
theorem aI(μ':aD)(h:μ=μ')(k:WL P X bad all K Q os σ μ' Ds):WL P X bad all K Q os σ μ Ds:=h▸k
theorem YM{c:Code}(μ':aD)(h:μ=μ')(k:WC P X Q c σ μ' Ds):WC P X Q c σ μ Ds:=h▸k
theorem Sl.cell1{α:Type}{R:Rd α}{D:aC}{sz:Nat}{v:Value}{xs:List α}(h:Sl D R sz v xs):∀u∈[v],Fs.cell1 u=true:=by
 obtain⟨a,cap,rfl,_⟩:=h;simp[Fs.cell1]
open Go.Proofs Tryz

theorem bI:prog.follows .mixedOrders=true:=by kernel_rfl
theorem _root_.Go.Fs.U3:type_of% underlying3:=underlying3
theorem _root_.Go.Fs.U4:type_of% underlying4:=underlying4
theorem _root_.Go.Fs.U5:type_of% underlying5:=underlying5
theorem _root_.Go.Fs.U9:type_of% underlying9:=underlying9
theorem _root_.Go.Fs.U20:type_of% underlying20:=underlying20
theorem _root_.Go.Fs.U22:type_of% underlying22:=underlying22
theorem _root_.Go.Fs.U25:type_of% underlying25:=underlying25
theorem _root_.Go.Fs.U26:type_of% underlying26:=underlying26
theorem _root_.Go.Fs.U29:type_of% underlying29:=underlying29
theorem _root_.Go.Fs.U30:type_of% underlying30:=underlying30
theorem _root_.Go.Fs.U33:type_of% underlying33:=underlying33
theorem _root_.Go.Fs.U34:type_of% underlying34:=underlying34
theorem _root_.Go.Fs.U37:type_of% underlying37:=underlying37
theorem _root_.Go.Fs.U38:type_of% underlying38:=underlying38
theorem _root_.Go.Fs.U43:type_of% underlying43:=underlying43
theorem _root_.Go.Fs.U93:type_of% underlying93:=underlying93
theorem _root_.Go.Fs.U99:type_of% underlying99:=underlying99
theorem _root_.Go.Fs.U135:type_of% underlying135:=underlying135
theorem _root_.Go.Fs.U139:type_of% underlying139:=underlying139
theorem _root_.Go.Fs.U151:type_of% underlying151:=underlying151
theorem _root_.Go.Fs.U170:type_of% underlying170:=underlying170
theorem _root_.Go.Fs.U210:type_of% underlying210:=underlying210
theorem _root_.Go.Fs.U240:type_of% underlying240:=underlying240
theorem _root_.Go.Fs.U249:type_of% underlying249:=underlying249
theorem _root_.Go.Fs.U258:type_of% underlying258:=underlying258
theorem _root_.Go.Fs.U264:type_of% underlying264:=underlying264
theorem _root_.Go.Fs.U297:type_of% underlying297:=underlying297
theorem _root_.Go.Fs.U303:type_of% underlying303:=underlying303
theorem _root_.Go.Fs.U305:type_of% underlying305:=underlying305
theorem _root_.Go.Fs.U313:type_of% underlying313:=underlying313
theorem _root_.Go.Fs.U314:type_of% underlying314:=underlying314
theorem _root_.Go.Fs.U320:type_of% underlying320:=underlying320
theorem _root_.Go.Fs.U331:type_of% underlying331:=underlying331
theorem _root_.Go.Fs.U337:type_of% underlying337:=underlying337
theorem _root_.Go.Fs.U349:type_of% underlying349:=underlying349
theorem _root_.Go.Fs.U355:type_of% underlying355:=underlying355
theorem _root_.Go.Fs.U370:type_of% underlying370:=underlying370
theorem _root_.Go.Fs.U401:type_of% underlying401:=underlying401
theorem _root_.Go.Fs.U412:type_of% underlying412:=underlying412
theorem _root_.Go.Fs.U414:type_of% underlying414:=underlying414
theorem aJ:TA prog 3 false:=TA.of underlying3 _ rfl
theorem aM:TS prog 3 1:=TS.of Yg
theorem dS:TZ prog 3 (qI 0):=TZ.of Yg
theorem oD:(prog.info? 3).map (fun i=>Nat.ble 1 i.bytes&&Nat.ble i.bytes 4096)=some true:=by kernel_rfl
theorem BW:TA prog 4 false:=TA.of underlying4 _ rfl
theorem lT:TS prog 4 1:=TS.of Yg
theorem nS:TZ prog 4 (.bool false):=TZ.of Yg
theorem aGG:TA prog 5 false:=TA.of underlying5 _ rfl
theorem kM:TS prog 5 1:=TS.of Yg
theorem JA:TZ prog 5 (.int .u8 0):=TZ.of Yg
theorem aJQ:(prog.info? 5).map (fun i=>Nat.ble 1 i.bytes&&Nat.ble i.bytes 4096)=some true:=by kernel_rfl
theorem xR:TA prog 9 false:=TA.of underlying9 _ rfl
theorem iY:TS prog 9 1:=TS.of Yg
theorem DY:(prog.info? 9).map (fun i=>Nat.ble 1 i.bytes&&Nat.ble i.bytes 4096)=some true:=by kernel_rfl
theorem dN:TA prog 25 false:=TA.of underlying25 _ rfl
theorem qX:TS prog 25 1:=TS.of Yg
theorem aHG:TZ prog 25 (qN):=TZ.of Yg
theorem pT:TA prog 26 false:=TA.of underlying26 _ rfl
theorem GH:TS prog 26 1:=TS.of Yg
theorem kD:TA prog 28 true:=TA.of underlying28 _ rfl
theorem jX:TS prog 28 4:=TS.of Yg
theorem eB:TF prog 28 0 0:=TF.of underlying28 rfl qX rfl
theorem hP:TF prog 28 1 1:=TF.of underlying28 rfl GH rfl
theorem yP:TF prog 28 2 2:=TF.of underlying28 rfl aM rfl
theorem vS:TF prog 28 3 3:=TF.of underlying28 rfl aM rfl
theorem lM:TA prog 29 false:=TA.of underlying29 _ rfl
theorem OJ:TS prog 29 1:=TS.of Yg
theorem pH:TA prog 30 false:=TA.of underlying30 _ rfl
theorem FF:TS prog 30 1:=TS.of Yg
theorem iI:TA prog 32 true:=TA.of underlying32 _ rfl
theorem gT:TS prog 32 5:=TS.of Yg
theorem jU:TF prog 32 0 0:=TF.of underlying32 rfl aM rfl
theorem fP:TF prog 32 1 1:=TF.of underlying32 rfl OJ rfl
theorem tH:TF prog 32 2 2:=TF.of underlying32 rfl aM rfl
theorem gR:TF prog 32 3 3:=TF.of underlying32 rfl qX rfl
theorem iA:TF prog 32 4 4:=TF.of underlying32 rfl FF rfl
theorem fA:TA prog 33 false:=TA.of underlying33 _ rfl
theorem eI:TS prog 33 1:=TS.of Yg
theorem mP:TZ prog 33 (qN):=TZ.of Yg
theorem uM:TA prog 34 false:=TA.of underlying34 _ rfl
theorem PK:TS prog 34 1:=TS.of Yg
theorem fG:TA prog 36 true:=TA.of underlying36 _ rfl
theorem eK:TS prog 36 5:=TS.of Yg
theorem aKJ:TZ prog 36 (.agg #[qI 0,qI 0,qI 0,qN,qN]):=TZ.of Yg
theorem oI:TF prog 36 0 0:=TF.of underlying36 rfl aM rfl
theorem tD:TF prog 36 1 1:=TF.of underlying36 rfl aM rfl
theorem zJ:TF prog 36 2 2:=TF.of underlying36 rfl aM rfl
theorem cE:TF prog 36 3 3:=TF.of underlying36 rfl eI rfl
theorem kR:TF prog 36 4 4:=TF.of underlying36 rfl PK rfl
theorem jE:TA prog 37 false:=TA.of underlying37 _ rfl
theorem SG:TS prog 37 1:=TS.of Yg
theorem pV:TA prog 38 false:=TA.of underlying38 _ rfl
theorem HH:TS prog 38 1:=TS.of Yg
theorem jC:TA prog 40 true:=TA.of underlying40 _ rfl
theorem iO:TS prog 40 3:=TS.of Yg
theorem eO:TF prog 40 0 0:=TF.of underlying40 rfl SG rfl
theorem tI:TF prog 40 1 1:=TF.of underlying40 rfl aM rfl
theorem iB:TF prog 40 2 2:=TF.of underlying40 rfl HH rfl
theorem iT:TA prog 42 true:=TA.of underlying42 _ rfl
theorem dX:TS prog 42 17:=TS.of Yg
theorem oL:TZ prog 42 (.agg #[qN,qN,qI 0,qI 0,qI 0,qN,qI 0,qN,qN,qI 0,qI 0,qI 0,qN,qN,qN,qI 0,qN]):=TZ.of Yg
theorem aTF:TP prog 42 [(0,4),(4,5),(9,5),(14,3)]:=TP.of underlying42 Yg Yg
theorem dC:TF prog 42 0 0:=TF.of underlying42 rfl jX rfl
theorem bN:TF prog 42 1 4:=TF.of underlying42 rfl gT rfl
theorem eL:TF prog 42 2 9:=TF.of underlying42 rfl eK rfl
theorem dL:TF prog 42 3 14:=TF.of underlying42 rfl iO rfl
theorem pD:TA prog 44 false:=TA.of underlying44 _ rfl
theorem pG:TS prog 44 1:=TS.of Yg
theorem FS:TZ prog 44 (qI 0):=TZ.of Yg
theorem aUL:(prog.info? 44).map (fun i=>Nat.ble 1 i.bytes&&Nat.ble i.bytes 4096)=some true:=by kernel_rfl
theorem mM:TA prog 72 true:=TA.of underlying72 _ rfl
theorem eG:TS prog 72 2:=TS.of Yg
theorem nN:TZ prog 72 (.agg #[qI 0,qI 0]):=TZ.of Yg
theorem R8:TP prog 72 [(0,1),(1,1)]:=TP.of underlying72 Yg Yg
theorem vW:TF prog 72 0 0:=TF.of underlying72 rfl aM rfl
theorem vG:TF prog 72 1 1:=TF.of underlying72 rfl aM rfl
theorem wL:TA prog 75 true:=TA.of underlying75 _ rfl
theorem gY:TS prog 75 2:=TS.of Yg
theorem oA:TZ prog 75 (.agg #[qI 0,qI 0]):=TZ.of Yg
theorem x9:TP prog 75 [(0,1),(1,1)]:=TP.of underlying75 Yg Yg
theorem L6:TF prog 75 0 0:=TF.of underlying75 rfl aM rfl
theorem K9:TF prog 75 1 1:=TF.of underlying75 rfl aM rfl
theorem nQ:TA prog 90 true:=TA.of underlying90 _ rfl
theorem cU:TS prog 90 2:=TS.of Yg
theorem kG:TZ prog 90 (.agg #[qI 0,qI 0]):=TZ.of Yg
theorem aDK:(prog.info? 90).map (fun i=>Nat.ble 1 i.bytes&&Nat.ble i.bytes 4096)=some true:=by kernel_rfl
theorem y8:TP prog 90 [(0,1),(1,1)]:=TP.of underlying90 Yg Yg
theorem qJ:TF prog 90 0 0:=TF.of underlying90 rfl aM rfl
theorem qT:TF prog 90 1 1:=TF.of underlying90 rfl aM rfl
theorem jQ:TA prog 93 true:=TA.of underlying93 _ rfl
theorem cB:TS prog 93 2:=TS.of Yg
theorem iH:TZ prog 93 (.agg #[qI 0,qI 0]):=TZ.of Yg
theorem OL:(prog.info? 93).map (fun i=>Nat.ble 1 i.bytes&&Nat.ble i.bytes 4096)=some true:=by kernel_rfl
theorem H9:TP prog 93 [(0,1),(1,1)]:=TP.of underlying93 Yg Yg
theorem mR:TF prog 93 0 0:=TF.of underlying93 rfl aM rfl
theorem oO:TF prog 93 1 1:=TF.of underlying93 rfl aM rfl
theorem aVO:TA prog 99 false:=TA.of underlying99 _ rfl
theorem aJE:TS prog 99 1:=TS.of Yg
theorem UW:TA prog 135 false:=TA.of underlying135 _ rfl
theorem WR:TS prog 135 1:=TS.of Yg
theorem aRD:TS prog 137 2:=TS.of Yg
theorem aMD:TZ prog 137 (.agg #[.pointer none,qN]):=TZ.of Yg
theorem V0:TF prog 137 0 0:=TF.of underlying137 rfl WR rfl
theorem EH:TF prog 137 1 1:=TF.of underlying137 rfl aJE rfl
theorem d9:TA prog 151 false:=TA.of underlying151 _ rfl
theorem e7:TS prog 151 1:=TS.of Yg
theorem aME:TZ prog 151 (qN):=TZ.of Yg
theorem tV:TA prog 170 false:=TA.of underlying170 _ rfl
theorem L4:TS prog 170 1:=TS.of Yg
theorem VI:TZ prog 170 (qN):=TZ.of Yg
theorem g8:TA prog 172 false:=TA.of underlying172 _ rfl
theorem WW:TA prog 175 false:=TA.of underlying175 _ rfl
theorem aPQ:TS prog 175 1:=TS.of Yg
theorem UA:TS prog 178 1:=TS.of Yg
theorem FU:TZ prog 178 (.agg #[.nilFunc]):=TZ.of Yg
theorem aLZ:TP prog 178 [(0,1)]:=TP.of underlying178 Yg Yg
theorem EP:TF prog 178 0 0:=TF.of underlying178 rfl aPQ rfl
theorem tZ:TA prog 179 false:=TA.of underlying179 _ rfl
theorem aPX:TS prog 179 1:=TS.of Yg
theorem aMB:TZ prog 179 (.pointer none):=TZ.of Yg
theorem oV:TA prog 182 false:=TA.of underlying182 _ rfl
theorem g7:TS prog 182 1:=TS.of Yg
theorem d4:TZ prog 182 (.nilFunc):=TZ.of Yg
theorem VL:TA prog 183 false:=TA.of underlying183 _ rfl
theorem aMS:TS prog 183 1:=TS.of Yg
theorem UJ:TZ prog 186 (.agg #[.nilFunc]):=TZ.of Yg
theorem UN:TP prog 186 [(0,1)]:=TP.of underlying186 Yg Yg
theorem ET:TF prog 186 0 0:=TF.of underlying186 rfl aMS rfl
theorem aRK:TA prog 196 false:=TA.of underlying196 _ rfl
theorem A7:TA prog 202 true:=TA.of underlying202 _ rfl
theorem gV:TS prog 202 3:=TS.of Yg
theorem wJ:TZ prog 202 (.agg #[.bool false,qI 0,qI 0]):=TZ.of Yg
theorem TY:(prog.info? 202).map (fun i=>Nat.ble 1 i.bytes&&Nat.ble i.bytes 4096)=some true:=by kernel_rfl
theorem aQU:TP prog 202 [(0,1),(1,1),(2,1)]:=TP.of underlying202 Yg Yg
theorem YG:TF prog 202 0 0:=TF.of underlying202 rfl lT rfl
theorem S8:TF prog 202 1 1:=TF.of underlying202 rfl aM rfl
theorem vU:TF prog 202 2 2:=TF.of underlying202 rfl aM rfl
theorem P5:TA prog 204 true:=TA.of underlying204 _ rfl
theorem iG:TS prog 204 4:=TS.of Yg
theorem wS:TZ prog 204 (.agg #[qI 0,qI 0,qI 0,qI 0]):=TZ.of Yg
theorem WH:(prog.info? 204).map (fun i=>Nat.ble 1 i.bytes&&Nat.ble i.bytes 4096)=some true:=by kernel_rfl
theorem aPM:TP prog 204 [(0,1),(1,1),(2,2)]:=TP.of underlying204 Yg Yg
theorem BT:TF prog 204 0 0:=TF.of underlying204 rfl aM rfl
theorem CB:TF prog 204 1 1:=TF.of underlying204 rfl aM rfl
theorem EJ:TF prog 204 2 2:=TF.of underlying204 rfl cB rfl
theorem kJ:TA prog 206 true:=TA.of underlying206 _ rfl
theorem bU:TS prog 206 3:=TS.of Yg
theorem jJ:TZ prog 206 (.agg #[qI 0,qI 0,qI 0]):=TZ.of Yg
theorem Q7:(prog.info? 206).map (fun i=>Nat.ble 1 i.bytes&&Nat.ble i.bytes 4096)=some true:=by kernel_rfl
theorem WY:TP prog 206 [(0,1),(1,1),(2,1)]:=TP.of underlying206 Yg Yg
theorem V8:TF prog 206 0 0:=TF.of underlying206 rfl aM rfl
theorem pK:TF prog 206 1 1:=TF.of underlying206 rfl aM rfl
theorem mC:TF prog 206 2 2:=TF.of underlying206 rfl aM rfl
theorem K8:TA prog 208 true:=TA.of underlying208 _ rfl
theorem nC:TS prog 208 3:=TS.of Yg
theorem e8:TZ prog 208 (.agg #[qI 0,qI 0,qI 0]):=TZ.of Yg
theorem aNP:(prog.info? 208).map (fun i=>Nat.ble 1 i.bytes&&Nat.ble i.bytes 4096)=some true:=by kernel_rfl
theorem aNZ:TP prog 208 [(0,1),(1,2)]:=TP.of underlying208 Yg Yg
theorem B7:TF prog 208 0 0:=TF.of underlying208 rfl aM rfl
theorem S1:TF prog 208 1 1:=TF.of underlying208 rfl eG rfl
theorem nH:TA prog 210 true:=TA.of underlying210 _ rfl
theorem mA:TS prog 210 3:=TS.of Yg
theorem Q4:TZ prog 210 (.agg #[qI 0,qI 0,qI 0]):=TZ.of Yg
theorem aPP:(prog.info? 210).map (fun i=>Nat.ble 1 i.bytes&&Nat.ble i.bytes 4096)=some true:=by kernel_rfl
theorem N5:TA prog 212 true:=TA.of underlying212 _ rfl
theorem iQ:TS prog 212 4:=TS.of Yg
theorem zU:TZ prog 212 (.agg #[qI 0,qI 0,qI 0,qI 0]):=TZ.of Yg
theorem XD:(prog.info? 212).map (fun i=>Nat.ble 1 i.bytes&&Nat.ble i.bytes 4096)=some true:=by kernel_rfl
theorem aPL:TP prog 212 [(0,1),(1,3)]:=TP.of underlying212 Yg Yg
theorem S9:TF prog 212 0 0:=TF.of underlying212 rfl aM rfl
theorem A0:TF prog 212 1 1:=TF.of underlying212 rfl mA rfl
theorem rY:TA prog 240 true:=TA.of underlying240 _ rfl
theorem nK:TS prog 240 4:=TS.of Yg
theorem aPT:TZ prog 240 (.agg #[qI 0,qI 0,qI 0,qI 0]):=TZ.of Yg
theorem jL:TA prog 242 true:=TA.of underlying242 _ rfl
theorem dT:TS prog 242 10:=TS.of Yg
theorem tP:TZ prog 242 (.agg #[qI 0,qI 0,qI 0,qI 0,qI 0,qI 0,qI 0,qI 0,qI 0,qI 0]):=TZ.of Yg
theorem aRP:(prog.info? 242).map (fun i=>Nat.ble 1 i.bytes&&Nat.ble i.bytes 4096)=some true:=by kernel_rfl
theorem aMV:TP prog 242 [(0,4),(4,4),(8,1),(9,1)]:=TP.of underlying242 Yg Yg
theorem rZ:TF prog 242 0 0:=TF.of underlying242 rfl nK rfl
theorem sI:TF prog 242 1 4:=TF.of underlying242 rfl nK rfl
theorem nT:TF prog 242 2 8:=TF.of underlying242 rfl aM rfl
theorem T0:TF prog 242 3 9:=TF.of underlying242 rfl aM rfl
theorem aPZ:TA prog 243 false:=TA.of underlying243 _ rfl
theorem c7:TA prog 244 false:=TA.of underlying244 _ rfl
theorem aQW:TS prog 244 1:=TS.of Yg
theorem aPH:TZ prog 244 (.pointer none):=TZ.of Yg
theorem A9:TA prog 249 false:=TA.of underlying249 _ rfl
theorem TE:TS prog 249 1:=TS.of Yg
theorem aPV:TZ prog 251 (.agg #[qN,qN,qI 0,qI 0,qN]):=TZ.of Yg
theorem aQH:TP prog 251 [(0,4),(4,1)]:=TP.of underlying251 Yg Yg
theorem pN:TF prog 251 1 4:=TF.of underlying251 rfl TE rfl
theorem jO:TA prog 258 true:=TA.of underlying258 _ rfl
theorem dZ:TS prog 258 9:=TS.of Yg
theorem rR:TZ prog 258 (.agg #[qI 0,qI 0,qI 0,qI 0,qI 0,qI 0,qI 0,qI 0,qI 0]):=TZ.of Yg
theorem aMN:(prog.info? 258).map (fun i=>Nat.ble 1 i.bytes&&Nat.ble i.bytes 4096)=some true:=by kernel_rfl
theorem d5:TA prog 264 true:=TA.of underlying264 _ rfl
theorem rW:TS prog 264 10:=TS.of Yg
theorem aQK:TZ prog 264 (.agg #[qI 0,qI 0,qI 0,qI 0,qI 0,qI 0,qI 0,qI 0,qI 0,qI 0]):=TZ.of Yg
theorem UP:TA prog 267 false:=TA.of underlying267 _ rfl
theorem aNH:TS prog 267 1:=TS.of Yg
theorem aNM:TZ prog 267 (.nilFunc):=TZ.of Yg
theorem HC:TA prog 269 false:=TA.of underlying269 _ rfl
theorem aMO:TS prog 269 1:=TS.of Yg
theorem aPA:TZ prog 269 (.nilFunc):=TZ.of Yg
theorem aNN:TA prog 273 true:=TA.of underlying273 _ rfl
theorem rT:TS prog 273 2:=TS.of Yg
theorem tW:TZ prog 273 (.agg #[qI 0,qI 0]):=TZ.of Yg
theorem FM:(prog.info? 273).map (fun i=>Nat.ble 1 i.bytes&&Nat.ble i.bytes 4096)=some true:=by kernel_rfl
theorem aPD:TP prog 273 [(0,1),(1,1)]:=TP.of underlying273 Yg Yg
theorem aCB:TF prog 273 0 0:=TF.of underlying273 rfl aM rfl
theorem aBL:TF prog 273 1 1:=TF.of underlying273 rfl aM rfl
theorem aLM:TA prog 293 false:=TA.of underlying293 _ rfl
theorem aLI:TA prog 295 false:=TA.of underlying295 _ rfl
theorem VY:TA prog 297 false:=TA.of underlying297 _ rfl
theorem aLS:TS prog 297 1:=TS.of Yg
theorem aLU:TZ prog 299 (.agg #[qN,qI 0,qN,.map none]):=TZ.of Yg
theorem aMZ:TP prog 299 [(0,3),(3,1)]:=TP.of underlying299 Yg Yg
theorem B6:TF prog 299 0 0:=TF.of underlying299 rfl iO rfl
theorem CD:TF prog 299 1 3:=TF.of underlying299 rfl aLS rfl
theorem FT:TA prog 303 false:=TA.of underlying303 _ rfl
theorem aRF:TS prog 303 1:=TS.of Yg
theorem aQN:TZ prog 303 (qN):=TZ.of Yg
theorem P8:TA prog 305 true:=TA.of underlying305 _ rfl
theorem xB:TS prog 305 7:=TS.of Yg
theorem rN:TA prog 307 true:=TA.of underlying307 _ rfl
theorem gK:TS prog 307 9:=TS.of Yg
theorem uA:TZ prog 307 (.agg #[qI 0,qI 0,qI 0,qI 0,qI 0,qI 0,qI 0,qI 0,qI 0]):=TZ.of Yg
theorem EY:(prog.info? 307).map (fun i=>Nat.ble 1 i.bytes&&Nat.ble i.bytes 4096)=some true:=by kernel_rfl
theorem B4:TF prog 307 0 0:=TF.of underlying307 rfl aM rfl
theorem U2:TF prog 307 1 1:=TF.of underlying307 rfl aM rfl
theorem zS:TF prog 307 2 2:=TF.of underlying307 rfl xB rfl
theorem WD:TA prog 313 false:=TA.of underlying313 _ rfl
theorem aLE:TS prog 313 1:=TS.of Yg
theorem rX:TA prog 314 false:=TA.of underlying314 _ rfl
theorem TQ:TS prog 314 1:=TS.of Yg
theorem aQV:TZ prog 316 (.agg #[qI 0,qN,qI 0,qN,qN,qN,.map none]):=TZ.of Yg
theorem aPI:TP prog 316 [(0,5),(5,1),(6,1)]:=TP.of underlying316 Yg Yg
theorem DD:TF prog 316 0 0:=TF.of underlying316 rfl gT rfl
theorem kV:TF prog 316 1 5:=TF.of underlying316 rfl TQ rfl
theorem DH:TF prog 316 2 6:=TF.of underlying316 rfl aLE rfl
theorem nJ:TA prog 320 true:=TA.of underlying320 _ rfl
theorem iR:TS prog 320 10:=TS.of Yg
theorem K7:TZ prog 320 (.agg #[qI 0,qI 0,qI 0,qI 0,qI 0,qI 0,qI 0,qI 0,qI 0,qI 0]):=TZ.of Yg
theorem aPG:(prog.info? 320).map (fun i=>Nat.ble 1 i.bytes&&Nat.ble i.bytes 4096)=some true:=by kernel_rfl
theorem aPU:TS prog 323 2:=TS.of Yg
theorem WE:TZ prog 323 (.agg #[qI 0,qI 0]):=TZ.of Yg
theorem aRB:TP prog 323 [(0,1),(1,1)]:=TP.of underlying323 Yg Yg
theorem aAF:TF prog 323 0 0:=TF.of underlying323 rfl aM rfl
theorem YC:TF prog 323 1 1:=TF.of underlying323 rfl aM rfl
theorem aLW:TS prog 331 1:=TS.of Yg
theorem VU:TZ prog 331 (.agg #[qI 0]):=TZ.of Yg
theorem aND:TP prog 331 [(0,1)]:=TP.of underlying331 Yg Yg
theorem ZV:TF prog 331 0 0:=TF.of underlying331 rfl pG rfl
theorem aLQ:TA prog 333 false:=TA.of underlying333 _ rfl
theorem aRC:TS prog 333 1:=TS.of Yg
theorem aRV:TS prog 335 2:=TS.of Yg
theorem eU:TZ prog 335 (.agg #[qI 0,.nilFunc]):=TZ.of Yg
theorem fY:TP prog 335 [(0,1),(1,1)]:=TP.of underlying335 Yg Yg
theorem ZD:TF prog 335 0 0:=TF.of underlying335 rfl aM rfl
theorem aAK:TF prog 335 1 1:=TF.of underlying335 rfl aRC rfl
theorem aOZ:TZ prog 343 (.agg #[qN,qN,qI 0,qI 0,qI 0,qN,qI 0,qN,qN,qI 0,qI 0,qI 0,qN,qN,qN,qI 0,qN]):=TZ.of Yg
theorem aQQ:TP prog 343 [(0,17)]:=TP.of underlying343 Yg Yg
theorem aX:TF prog 343 0 0:=TF.of underlying343 rfl dX rfl
theorem Q6:TA prog 349 false:=TA.of underlying349 _ rfl
theorem aRR:TS prog 349 1:=TS.of Yg
theorem jN:TZ prog 349 (qN):=TZ.of Yg
theorem aMT:TA prog 358 false:=TA.of underlying358 _ rfl
theorem aNA:TA prog 361 false:=TA.of underlying361 _ rfl
theorem aML:TA prog 363 false:=TA.of underlying363 _ rfl
theorem aPY:TA prog 364 false:=TA.of underlying364 _ rfl
theorem EX:TA prog 370 false:=TA.of underlying370 _ rfl
theorem aRX:TS prog 370 1:=TS.of Yg
theorem SX:TZ prog 372 (.agg #[qI 0,qI 0,qI 0,qN,qN,.map none]):=TZ.of Yg
theorem WT:TP prog 372 [(0,5),(5,1)]:=TP.of underlying372 Yg Yg
theorem vN:TF prog 372 0 0:=TF.of underlying372 rfl eK rfl
theorem V9:TF prog 372 1 5:=TF.of underlying372 rfl aRX rfl
theorem aPN:TA prog 383 false:=TA.of underlying383 _ rfl
theorem VZ:TA prog 387 true:=TA.of underlying387 _ rfl
theorem VS:TS prog 387 8:=TS.of Yg
theorem FZ:TZ prog 387 (.agg #[qI 0,qI 0,qI 0,qI 0,qI 0,qI 0,qI 0,qI 0]):=TZ.of Yg
theorem GB:TP prog 387 [(0,1),(1,7)]:=TP.of underlying387 Yg Yg
theorem V4:TF prog 387 0 0:=TF.of underlying387 rfl aM rfl
theorem R6:TF prog 387 1 1:=TF.of underlying387 rfl xB rfl
theorem aQD:TA prog 389 false:=TA.of underlying389 _ rfl
theorem aRJ:TA prog 391 false:=TA.of underlying391 _ rfl
theorem aOO:TA prog 394 false:=TA.of underlying394 _ rfl
theorem aRT:TS prog 412 3:=TS.of Yg
theorem aMJ:TZ prog 412 (.agg #[.int .u8 0,.int .u8 0,.int .u8 0]):=TZ.of Yg
theorem VQ:TA prog 414 true:=TA.of underlying414 _ rfl
theorem wN:TS prog 414 4:=TS.of Yg
theorem WX:TZ prog 414 (.agg #[.int .u8 0,.int .u8 0,.int .u8 0,.int .u8 0]):=TZ.of Yg
theorem aQI:TA prog 416 true:=TA.of underlying416 _ rfl
theorem d8:TS prog 416 7:=TS.of Yg
theorem HW:TZ prog 416 (.agg #[.int .u8 0,.int .u8 0,.int .u8 0,.int .u8 0,.int .u8 0,.int .u8 0,.int .u8 0]):=TZ.of Yg
theorem aRQ:TP prog 416 [(0,3),(3,4)]:=TP.of underlying416 Yg Yg
theorem U6:TF prog 416 0 0:=TF.of underlying416 rfl aRT rfl
theorem aAQ:TF prog 416 1 3:=TF.of underlying416 rfl wN rfl
theorem aMX:TA prog 420 false:=TA.of underlying420 _ rfl
theorem HU:TA prog 433 true:=TA.of underlying433 _ rfl
theorem b9:TS prog 433 9:=TS.of Yg
theorem zX:TZ prog 433 (.agg #[qI 0,qI 0,qI 0,qI 0,qI 0,qI 0,qI 0,qI 0,qI 0]):=TZ.of Yg
theorem FA:TP prog 433 [(0,1),(1,4),(5,4)]:=TP.of underlying433 Yg Yg
theorem GR:TA prog 455 false:=TA.of underlying455 _ rfl
theorem aOD:TS prog 455 1:=TS.of Yg
theorem aNJ:TZ prog 458 (.agg #[.nilFunc]):=TZ.of Yg
theorem aMF:TP prog 458 [(0,1)]:=TP.of underlying458 Yg Yg
theorem S2:TF prog 458 0 0:=TF.of underlying458 rfl aOD rfl

end Go.Fs
namespace Go.Fs.C1
structure xI where
 back:Bool
 many:Int
 num:Int
 deriving DecidableEq
structure dG where
 places:List Int
 counts:List xI
 wrong:Int
 off:Int
 deriving DecidableEq
def gW(n lo hi:Int):Bool:=decide (lo≤n)&&decide (n≤hi)
def rU(n:Int):Bool:=gW n 0 2
def qV(len:Nat)(c:xI):Bool:=gW c.many 0 len&&gW c.num 0 9
def aV(r:dG):Int:=
 if 9<r.places.length∨6<r.counts.length then 3
 else if r.places.length=0∨gW r.wrong 0 6=false∨gW r.off 0 9=false∨r.places.all rU=false∨r.counts.all (qV r.places.length)=false then 1
 else 0
def lB(l:List Int):Nat:=(l.filter (· ==2)).length
def TV(t p:Int):Bool:=gW t 0 1&&(p==2||t==p)
def kZ(r:dG)(t:List Int):Bool:=(t.length==r.places.length)&&(t.zip r.places).all fun x=>TV x.1 x.2
def eD(l:List Int)(i k:Nat):Int:=((l.drop i).take k).sum
def AK(t:List Int)(c:xI):Int:=if c.back then eD t (t.length-c.many.toNat) c.many.toNat else eD t 0 c.many.toNat
def jH(t:List Int)(c:xI):Int:=max (AK t c-c.num) (c.num-AK t c)
def eN(r:dG)(t:List Int):Bool:=r.counts.all fun c=>decide (jH t c≤r.off)
def nR(r:dG)(t:List Int):Nat:=(r.counts.filter fun c=>decide (0<jH t c)).length
def cT:List Int→List (List Int)
 | []=>[[]]
 |p::ps=>(if p=2∨p=0 then(cT ps).map (0:: ·)else [])++(if p=2∨p=1 then(cT ps).map (1:: ·)else [])
def fits(r:dG)(t:List Int):Bool:=eN r t&&decide ((nR r t:Int)≤r.wrong)
def truths(r:dG):List (List Int):=(cT r.places).filter (fits r)
def oN(t:List Int)(i j:Nat):Int:=eD t i (j+1-i)
def qO:List Int→Int
 | []=>0
 |x::xs=>xs.foldl min x
def pB:List Int→Int
 | []=>0
 |x::xs=>xs.foldl max x

theorem O6{l:List Int}{i k:Nat}{x:Int}(h:l[i+k]?= some x):eD l i (k+1)=eD l i k+x:=by
 unfold eD;rw[aZG,bBJ,h];simp
theorem gJ{l:List Int}(hb:∀x∈l,0≤x∧x≤1)(i k:Nat):0≤eD l i k∧eD l i k≤k:=by
 induction k with
 |zero=>simp[eD]
 |succ k ih=>
  cases h:l[i+k]? with
  |none=>
   have:eD l i (k+1)=eD l i k:=by
    unfold eD;rw[aZG,bBJ,h];simp
   rw[this];omega
  |some x=>rw[O6 h];have:=hb x (LE h);omega
theorem G3(l:List Int)(i k m:Nat):eD l i (k+m)=eD l i k+eD l (i+k) m:=by
 unfold eD;rw[List.take_add,List.drop_drop];simp
def fM(t:List Int):List Int:=t++List.replicate (9-t.length) 0
theorem gP{t:List Int}(h:t.length≤9):(fM t).length=9:=by simp[fM];omega
theorem QG{t:List Int}(h:∀x∈t,0≤x∧x≤1):∀x∈fM t,0≤x∧x≤1:=by
 intro x hx;rcases aZF.1 hx with hx|hx
 ·exact h x hx
 ·rw[(List.mem_replicate.1 hx).2];omega
theorem J6(n:Nat):(List.replicate n (0:Int)).sum=0:=by
 induction n with
 |zero=>rfl
 |succ n ih=>rw[List.replicate_succ,List.sum_cons,ih];rfl
theorem NJ(t:List Int)(k:Nat):eD (fM t) 0 k=eD t 0 k:=by
 unfold eD fM;simp only[bCN,List.take_append,List.sum_append,List.take_replicate,J6];omega
def mJ(c:List Int):List Int:=(List.range 10).map fun k=>eD c 0 k
def pZ(c:List Int)(k:Nat):List Int:=(List.range 10).map fun j=>if j≤k then eD c 0 j else 0
theorem qD(c:List Int):(mJ c).length=10:=by simp[mJ]
theorem AA(c:List Int)(k:Nat):(pZ c k).length=10:=by simp[pZ]
theorem HD(c:List Int):pZ c 9=mJ c:=by simp[pZ,mJ,List.range,List.range.loop]
theorem JZ(c:List Int)(k:Nat)(h:k<10):(pZ c k)[k]?= some (eD c 0 k):=by simp[pZ,h]
theorem JF(c:List Int)(k:Nat):(pZ c k).set (k+1) (eD c 0 (k+1))=pZ c (k+1):=by
 apply bDE;intro j;rw[List.getElem?_set];simp only[pZ,aZT];by_cases hj:k+1=j
 ·subst hj;by_cases hk:k+1<10
  ·simp[hk]
  ·simp[hk]
 ·rw[aZB hj];by_cases hk:j<10
  ·simp only[bDI hk,aZX];by_cases h1:j≤k
   ·rw[aZK h1,aZK Yd]
   ·rw[aZB h1,aZB Yd]
  ·simp[hk]
theorem sU(c:List Int)(k:Nat)(h:k<10):(mJ c)[k]?= some (eD c 0 k):=by simp[mJ,h]
theorem OK(t:List Int):mJ (fM t)=mJ t:=by simp[mJ,NJ]

structure oQ(r:dG):Prop where
 len0:0<r.places.length
 len9:r.places.length≤9
 cnt6:r.counts.length≤6
 wrong:0≤r.wrong∧r.wrong≤6
 off:0≤r.off∧r.off≤9
 place:∀p∈r.places,0≤p∧p≤2
 cnt:∀c∈r.counts,0≤c.many∧c.many≤r.places.length∧0≤c.num∧c.num≤9
theorem bX{n lo hi:Int}:gW n lo hi=true ↔ lo≤n∧n≤hi:=by simp[gW]
theorem sC{r:dG}:aV r=0 ↔ oQ r:=by
 unfold aV;constructor
 ·intro h;split at h
  ·cases h
  ·split at h
   ·cases h
   ·rename_i h1 h2;simp only[not_or]at h1 h2;obtain⟨a,b,c,d,e⟩:=h2;simp only[Bool.not_eq_false,aZN,rU,qV,aYT,bX]at b c d e;exact⟨by omega,by omega,by omega,b,c,d,fun x hx=>⟨(e x hx).1.1,(e x hx).1.2,(e x hx).2.1,(e x hx).2.2⟩⟩
 ·intro h;rw[aZB (by have:=h.len9;have:=h.cnt6;omega),aZB]
  simp only[not_or,Bool.not_eq_false,aZN,rU,qV,aYT,bX];exact⟨by have:=h.len0;omega,h.wrong,h.off,h.place,fun x hx=>⟨⟨(h.cnt x hx).1,(h.cnt x hx).2.1⟩,(h.cnt x hx).2.2⟩⟩
def qB(r:dG)(t:List Int):Prop:=t.length=r.places.length∧∀x∈t,0≤x∧x≤1
def aYN(r:dG)(t:List Int):Bool:=(t.length==r.places.length)&&t.all (fun x=>gW x 0 1)&&(t.zip r.places).all fun x=>x.2==2||x.1==x.2
theorem Q8{α β:Type}{p:α→Bool}:∀{l:List α} {m:List β},l.length=m.length→((l.zip m).all fun x=>p x.1)=l.all p
 | [],[],_=>rfl
 |a::l,b::m,h=>by simp only[List.zip_cons_cons,bDS];rw[Q8 Yao]
theorem aUN(r:dG)(t:List Int):aYN r t=kZ r t:=by
 unfold aYN kZ TV;by_cases h:t.length=r.places.length
 ·rw[←Q8 h];simp only[h,beq_self_eq_true,bCR];rw[bCG];simp only[aYT,aZN];constructor
  ·rintro⟨h1,h2⟩ x hx;exact⟨h1 x hx,h2 x hx⟩
  ·intro h;exact⟨fun x hx=>(h x hx).1,fun x hx=>(h x hx).2⟩
 ·have:(t.length==r.places.length)=false:=by simpa using h
  simp[this]
theorem aTP{r:dG}{t:List Int}(h:kZ r t=true):qB r t:=by
 rw[←aUN]at h;simp only[aYN,aYT,bDR,aZN,bX]at h;exact⟨h.1.1,h.1.2⟩
theorem RY{r:dG}{t:List Int}{c:xI}(ht:qB r t)(h0:0≤c.many)(h1:c.many≤r.places.length):
  AK t c=if c.back then eD t 0 t.length-eD t 0 (t.length-c.many.toNat)else eD t 0 c.many.toNat:=by
 unfold AK;split
 ·have h:=G3 t 0 (t.length-c.many.toNat) c.many.toNat;rw[show t.length-c.many.toNat+c.many.toNat=t.length by rw[ht.1];omega,bCB]at h
  omega
 ·rfl
theorem Y8{r:dG}{t:List Int}{c:xI}(ht:qB r t)(_h0:0≤c.many)(h1:c.many≤r.places.length)(G:r.places.length≤9):0≤AK t c∧AK t c≤9:=by
 unfold AK;split
 ·have:=gJ ht.2 (t.length-c.many.toNat) c.many.toNat;omega
 ·have:=gJ ht.2 0 c.many.toNat;omega
theorem IW{r:dG}{t:List Int}{c:xI}(hr:oQ r)(ht:qB r t)(hc:c∈r.counts):0≤jH t c∧jH t c≤9:=by
 obtain⟨a,b,d,e⟩:=hr.cnt c hc;have:=Y8 ht a b hr.len9;unfold jH;omega

def NO(p:Int)(ps pre:List Int)(k:Nat):List (List Int):=(List.range k).flatMap fun(m:Nat)=>if p=2∨p=(m:Int)then(cT ps).map (fun t=>fM (pre++(m:Int)::t))else []
theorem aGW{p:Int}{ps pre:List Int}:NO p ps pre 0=[]:=rfl
theorem aTH{p:Int}{ps pre:List Int}{k:Nat}(h:¬(p=2∨p=(k:Int))):NO p ps pre (k+1)=NO p ps pre k:=by
 unfold NO;rw[bAS,aZS];simp[h]
theorem VN{p:Int}{ps pre:List Int}{k:Nat}(h:p=2∨p=(k:Int)):NO p ps pre (k+1)=NO p ps pre k++(cT ps).map (fun t=>fM (pre++[(k:Int)]++t)):=by
 unfold NO;rw[bAS,aZS];simp[h]
theorem SZ{p:Int}{ps pre:List Int}:NO p ps pre 2=(cT (p::ps)).map (fun t=>fM (pre++t)):=by
 by_cases h2:p=2
 ·simp[NO,cT,List.range,List.range.loop,Function.comp_def,h2]
 ·by_cases h0:p=0
  ·simp[NO,cT,List.range,List.range.loop,Function.comp_def,h0]
  ·by_cases h1:p=1
   ·simp[NO,cT,List.range,List.range.loop,Function.comp_def,h1]
   ·have:¬(1:Int)=p:=fun e=>h1 e.symm
    simp[NO,cT,List.range,List.range.loop,h2,h0,h1]
theorem aEN{p:Int}{ps pre:List Int}{k:Nat}(hk:k<2):∃r,NO p ps pre 2=NO p ps pre (k+1)++r:=by
 rcases(by omega:k=0∨k=1)with rfl|rfl
 ·refine⟨if p=2∨p=1 then(cT ps).map (fun t=>fM (pre++1::t))else [],?_⟩;simp[NO,List.range,List.range.loop]
 ·exact⟨[],by simp⟩
theorem IM{pre c:List Int}{n:Nat}(_h9:c.length=9)(hp:c.take n=pre)(hn:pre.length=n)(hz:c.drop n=List.replicate (9-n) 0):c=fM pre:=by
 rw[←bBV n c,hp,hz];unfold fM;rw[hn]
theorem QE{pre c:List Int}{i n:Nat}{k:Int}(G:c.length=9)(hi:i<n)(hn:n≤9)(hp:c.take i=pre)(hz:c.drop n=List.replicate (9-n) 0):
  (c.set i k).length=9∧(c.set i k).take (i+1)=pre++[k]∧(c.set i k).drop n=List.replicate (9-n) 0:=by
 refine⟨by simpa using G,?_,?_⟩
 ·rw[List.take_succ_eq_append_getElem Yaj,List.take_set_of_le (aZL _),hp];simp
 ·rw[List.drop_set_of_lt hi,hz]
theorem yI(l:List Int):(cT l).length≤2^l.length:=by
 induction l with
 |nil=>simp[cT]
 |cons p ps ih=>
  simp only[cT,aYS,aYW,Nat.pow_succ];have:∀(c:Prop) [Decidable c] (f:List Int→List Int),(if c then(cT ps).map f else []).length≤(cT ps).length:=by intro c _ f;split<;>simp
  have h1:=this (p=2∨p=0) (0:: ·);have h2:=this (p=2∨p=1) (1:: ·);omega
theorem rF{l t:List Int}(h:t∈cT l):t.length=l.length∧∀x∈t,0≤x∧x≤1:=by
 induction l generalizing t with
 |nil=>simp[cT]at h;subst h;simp
 |cons p ps ih=>
  simp only[cT,aZF]at h;rcases h with h|h
  ·split at h
   ·obtain⟨t',ht',rfl⟩:=GT.1 h;refine⟨by simp[(ih ht').1],fun x hx=>?_⟩;rcases n4.1 hx with rfl|hx
    ·omega
    ·exact(ih ht').2 x hx
   ·simp at h
  ·split at h
   ·obtain⟨t',ht',rfl⟩:=GT.1 h;refine⟨by simp[(ih ht').1],fun x hx=>?_⟩;rcases n4.1 hx with rfl|hx
    ·omega
    ·exact(ih ht').2 x hx
   ·simp at h
theorem zY{places x:List Int}{pre r:List (List Int)}(h:(cT places).map fM=pre++x::r):∃t,(cT places)[pre.length]?= some t∧x=fM t∧t∈cT places∧(cT places).take (pre++[x]).length=(cT places).take pre.length++[t]:=by
 have h1:((cT places).map fM)[pre.length]?= some x:=by rw[h];simp
 rw[aZT,bBS]at h1;obtain⟨t,ht,hx⟩:=h1;refine⟨t,ht,hx.symm,LE ht,?_⟩;rw[aYS,bCD,aZG,ht];rfl
def cK(r:dG)(fine:Bool):Int:=if aV r≠0 then aV r else if fine=false then 2 else if truths r=[]then 11 else 0
def oG(r:dG)(i j:Int):Bool:=gW i 0 (r.places.length-1)&&gW j i (r.places.length-1)

def AQ(ts:List (List Int))(i j:Nat):Int:=qO (ts.map fun t=>oN t i j)
def BB(ts:List (List Int))(i j:Nat):Int:=pB (ts.map fun t=>oN t i j)
theorem m8(l:List Int)(a:Int)(h:l[0]?= some a):l.foldl min a=qO l:=by
 cases l with
 |nil=>simp at h
 |cons x l=>simp at h;subst h;simp[qO]
theorem n8(l:List Int)(a:Int)(h:l[0]?= some a):l.foldl max a=pB l:=by
 cases l with
 |nil=>simp at h
 |cons x l=>simp at h;subst h;simp[pB]
theorem HL{t:List Int}(hb:∀x∈t,0≤x∧x≤1)(i j:Nat)(hj:j<9):0≤oN t i j∧oN t i j≤9:=by
 unfold oN;have:=gJ hb i (j+1-i);omega
def vd(ts:List (List Int))(q:List Int→Bool):Int:=
 match ts with
 | []=>1
 |t0::_=>if(ts.all fun t=>q t==q t0)=true then(if q t0=true then 1 else 2)else 3
theorem aDM{ts:List (List Int)}{q:List Int→Bool}{t0:List Int}(h0:ts[0]?= some t0){j:Nat}(hj:ts.length≤j)(h:(ts.take j).all (fun t=>q t==q t0)=true):vd ts q=if q t0=true then 1 else 2:=by
 rw[aZP hj]at h;cases ts with
 |nil=>simp at h0
 |cons x l=>simp at h0;subst h0;simp only[vd];rw[aZK h]
theorem aSJ{ts:List (List Int)}{q:List Int→Bool}{t0 t:List Int}(h0:ts[0]?= some t0){j:Nat}(hj:ts[j]?= some t)(h:(!(q t==q t0))=true):vd ts q=3:=by
 cases ts with
 |nil=>simp at h0
 |cons x l=>
  simp only[List.getElem?_cons_zero,bCU]at h0;subst h0;simp only[vd]
  rw[aZB];intro ha;have:=aZN.1 ha t (LE hj);simp[this]at h
def aFN(i:Nat)(t:List Int):Bool:=decide (0<t.getD i 0)
def wU(r:dG)(i:Nat)(t:List Int):Bool:=match r.counts[i]? with|some c=>decide (jH t c=0)|none=>false
theorem aFH{t:List Int}{i:Nat}(h:i<9)(G:t.length≤9):(fM t)[i]?= some (t.getD i 0):=by
 unfold fM;by_cases hi:i<t.length
 ·rw[bBR hi,bAQ,aYU hi];rfl
 ·rw[bCZ Yd,List.getElem?_replicate,aZK Yd,bAQ,bBX Yd];rfl
theorem B0{r:dG}{t:List Int}(h:t∈truths r):qB r t:=rF (List.mem_filter.1 h).1


def kU(r:dG)(o:Option Int)(t:List Int):Option Int:=if eN r t=true then some (match o with|none=>(nR r t:Int)|some m=>min m (nR r t))else o
def nF(r:dG)(us:List (List Int)):Option Int:=us.foldl (kU r) none
theorem wM(r:dG)(us:List (List Int))(t:List Int):nF r (us++[t])=kU r (nF r us) t:=by simp[nF,bAN]
theorem GJ{r:dG}{o:Option Int}{t:List Int}{w:Int}(h:∃m,o=some m∧m≤w):∃m,kU r o t=some m∧m≤w:=by
 obtain⟨m,rfl,hm⟩:=h;unfold kU;split
 ·exact⟨_,rfl,by simp only;omega⟩
 ·exact⟨m,rfl,hm⟩
theorem O5{r:dG}{w:Int}:∀(us:List (List Int)) (o:Option Int),(∃m,o=some m∧m≤w)→∃m,us.foldl (kU r) o=some m∧m≤w
 | [],o,h=>h
 |t::us,o,h=>by rw[bAG];exact O5 us _ (GJ h)
theorem G6{r:dG}{t:List Int}(he:eN r t=true):∀(us:List (List Int)) (o:Option Int),t∈us→∃m,us.foldl (kU r) o=some m∧m≤(nR r t:Int)
 |u::us,o,h=>by
  rw[bAG];rcases n4.1 h with rfl|h
  ·refine O5 us _ ?_;unfold kU;rw[aZK he];refine⟨_,rfl,?_⟩;split<;>omega
  ·exact G6 he us _ h
theorem BC{r:dG}{us:List (List Int)}{t:List Int}(h:t∈us):nF r (us++[t])=nF r us:=by
 rw[wM];unfold kU;split
 ·rename_i he;obtain⟨m,hm,hle⟩:=G6 he us none h;have:nF r us=some m:=hm;rw[this];simp only;rw[Int.min_eq_left hle]
 ·rfl
theorem aJG{t u:List Int}(hl:t.length=u.length)(h:fM t=fM u):t=u:=by
 have:=aYY (List.take t.length) h;unfold fM at this;rw[bDN,hl,bDN]at this;exact this
def yO(r:dG)(pre:List (List Int))(g:Option Int×List Int):Prop:=g.1=nF r ((cT r.places).take pre.length)∧g.2.length=9∧∀u,((cT r.places).take pre.length).getLast?= some u→g.2=fM u
theorem RH{r:dG}{pre:List (List Int)}{o:Option Int}{last t:List Int}(h:yO r pre (o,last))(ht:t∈cT r.places)(htake:(cT r.places).take (pre++[fM t]).length=(cT r.places).take pre.length++[t])(hc:(o.isSome&&(fM t==last))=true):yO r (pre++[fM t]) (o,last):=by
 obtain⟨h1,h2,h3⟩:=h;simp only[aYT,bDR]at hc;obtain⟨ho,hl⟩:=hc;cases hg:((cT r.places).take pre.length).getLast? with
 |none=>
  rw[List.getLast?_eq_none_iff]at hg;rw[hg]at h1;simp only at h1;rw[h1]at ho;cases ho
 |some u=>
  have hu:=List.mem_of_getLast? hg;have h4:=h3 u hg;simp only at h4;have hut:t=u:=aJG (by rw[(rF ht).1,(rF (bDU hu)).1]) (by rw[hl,h4]);subst hut;refine⟨?_,h2,fun v hv=>?_⟩
  ·rw[htake,BC hu];exact h1
  ·rw[htake,List.getLast?_concat]at hv;cases hv;exact h4
theorem XZ{r:dG}{pre:List (List Int)}{o:Option Int}{last t:List Int}(h:yO r pre (o,last))(G:(fM t).length=9)(htake:(cT r.places).take (pre++[fM t]).length=(cT r.places).take pre.length++[t])
  (hc:(eN r t&&(!o.isSome||decide ((if eN r t=true then(nR r t:Int)else 0)<o.getD 0)))=true):yO r (pre++[fM t]) (some (if eN r t=true then(nR r t:Int)else 0),fM t):=by
 obtain⟨h1,h2,h3⟩:=h;simp only[aYT]at hc;obtain⟨he,hc⟩:=hc;refine⟨?_,G,fun v hv=>?_⟩
 ·simp only at h1;rw[htake,wM,←h1];simp only[kU,he,bAX]at hc ⊢
  cases o with
  |none=>rfl
  |some m=>
   simp only[Option.isSome_some,Bool.not_true,Bool.false_or,aZI,bCH]at hc;simp only;rw[Int.min_eq_right Yd]
 ·rw[htake,List.getLast?_concat]at hv;cases hv;rfl
theorem aKB{r:dG}{pre:List (List Int)}{o:Option Int}{last t:List Int}(h:yO r pre (o,last))(G:(fM t).length=9)(htake:(cT r.places).take (pre++[fM t]).length=(cT r.places).take pre.length++[t])
  (hc:(eN r t&&(!o.isSome||decide ((if eN r t=true then(nR r t:Int)else 0)<o.getD 0)))=false):yO r (pre++[fM t]) (o,fM t):=by
 obtain⟨h1,h2,h3⟩:=h;refine⟨?_,G,fun v hv=>?_⟩
 ·simp only at h1;rw[htake,wM,←h1];unfold kU;split
  ·rename_i he;simp only[he,bCR,bAX]at hc;cases o with
   |none=>simp at hc
   |some m=>
    simp only[Option.isSome_some,Bool.not_true,Bool.false_or,bAH,bCH]at hc;simp only;rw[Int.min_eq_left Yd]
  ·rfl
 ·rw[htake,List.getLast?_concat]at hv;cases hv;rfl
def uQ(r:dG):Int:=if aV r≠0 then 0 else(nF r (cT r.places)).getD 0
def T7(r:dG):Int:=if aV r≠0 then aV r else if(nF r (cT r.places)).isSome=true then 0 else 10
theorem LL{r:dG}{o:Option Int}(ho:o=nF r (cT r.places))(hf:aV r=0)(h:(!o.isSome)=true):uQ r=0∧T7 r=10:=by
 have hn:o=none:=by simpa using h
 rw[uQ,T7,←ho,hn,hf];exact⟨rfl,rfl⟩
theorem KG{r:dG}{o:Option Int}(ho:o=nF r (cT r.places))(hf:aV r=0)(h:(!o.isSome)=false):uQ r=o.getD 0∧T7 r=0:=by
 have hn:o.isSome=true:=by simpa using h
 rw[uQ,T7,←ho,hf,hn];exact⟨rfl,rfl⟩

end Go.Fs.C1
namespace Go.Fs
open C1
def RC:Rd xI:=fun _ c cs=>cs=[.bool c.back,qI c.many,qI c.num]
theorem RC.up:RC.Up:=fun _ _ _ h=>h
def iV(n:Int):Value:=qI n
def cV(c:xI):Value:=.agg #[.bool c.back,qI c.many,qI c.num]
def pC(D:aC)(v:Value)(r:dG):Prop:=∃pv cv,v=.agg #[pv,cv,qI r.wrong,qI r.off]∧Sl D RI 1 pv r.places∧Sl D RC 3 cv r.counts
theorem pC.up{D D':aC}{v:Value}{r:dG}(h:pC D v r)(hl:Le D D'):pC D' v r:=by
 obtain⟨pv,cv,hv,hp,hc⟩:=h;exact⟨pv,cv,hv,hp.up RI.up hl,hc.up RC.up hl⟩
def idxOf{α:Type}(p:α→Bool)(xs:List α):Int:=if xs.any p then(xs.findIdx p:Int)else -1
def RT:Rd (List Int):=fun _ t cs=>cs=ints (fM t)
theorem RT.up:RT.Up:=fun _ _ _ h=>h
def aJW(D:aC)(v:Value)(r:dG):Prop:=∃b pv cv tv,v=qP b∧At D b 0 [pv,cv,qI r.wrong,qI r.off,tv]∧Sl D RI 1 pv r.places∧Sl D RC 3 cv r.counts∧Sl D RT 9 tv (truths r)
def I0(e:Nat)(r:dG)(pre:List (List Int))(g:Value×aD):Prop:=bS e 9 g.1 (((cT r.places).take pre.length).filter (fits r)).length ((((cT r.places).take pre.length).filter (fits r)).flatMap fun t=>ints (fM t)) g.2
theorem MK{l:List (List Int)}(h:∀t∈l,t.length≤9):(l.flatMap fun t=>ints (fM t)).length=l.length*9:=by
 induction l with
 |nil=>rfl
 |cons t l ih=>
  rw[bAC,aYS,ih (fun t ht=>h t (n5 _ ht)),aYW,Fs.aO,gP (h t LT),bBU];omega
theorem aFP{l:List (List Int)}(h:∀t∈l,t.length≤9){i:Nat}{t:List Int}(hi:l[i]?= some t):((l.flatMap fun t=>ints (fM t)).drop (i*9)).take 9=ints (fM t):=by
 induction l generalizing i with
 |nil=>simp at hi
 |cons u l ih=>
  have hu:(ints (fM u)).length=9:=by rw[Fs.aO,gP (h u LT)]
  rw[bAC];cases i with
  |zero=>
   obtain rfl:u=t:=by simpa using hi
   rw[bCS,bCN,bAB Yd,aZP Yd]
  |succ i=>
   rw[bDA,aZZ Yd,aZU,hu,show(i+1)*9-9=i*9 by omega];exact ih (fun t ht=>h t (n5 _ ht)) Yal
theorem mK.truths{D:aC}{v:Value}{n:Nat}{l:List (List Int)}(hF:mK D v n (l.flatMap fun t=>Fs.ints (fM t)))(hn:l.length=n)(hb:n≤9223372036854775807)(h:∀t∈l,t.length≤9):Sl D RT 9 v l:=
 hF.sl hn hb fun i t hi=>⟨Fs.ints (fM t),rfl,by rw[Fs.aO,gP (h t (LE hi))],aFP h hi⟩
theorem aOQ{e sz b:Nat}{cells:List Value}(h:cells.length=sz):bS e sz (qS b 1 1) 1 cells [(b,.cells cells.toArray e (0,0))]:=
 aYZ ⟨b,1,[],rfl,aZL _,by simp,by omega,by simp;omega⟩
theorem mK.at{D:aC}{b n cap:Nat}{cells:List Value}(h:mK D (qS b n cap) n cells)(hn:0<n):At D b 0 cells:=by
 rcases h with⟨a,hv,h0,_⟩|⟨b',cap',hv,_,hA⟩
 ·omega
 ·cases hv;exact hA
variable{P:Program}{X:Cx}{γb:Type}[Membership Nat γb]{bad:γb}{all:Array Oper}{K:Act→World→Prop}{Q:Exit→Act→World→Prop}
variable{σ:bO}{μ:aD}{Ds:List aC}{os:List (Bool×Nat)}{fl:Bool}{ix:Nat}
variable{d:Nat}{x y z:Operand}{u v:Value}{ty:TypeId}{pos:String}{aft:Array Edge}{g:Option (Nat×Bool)}
theorem dA{e:TypeId}{q:IntKind}(hu:P.underlying e=some (.int q)){xs:Array Value}{off:Nat}{v:Value}(hx:xs[off]?= some v)(w:World):(part e xs off).run P w=.ok v w:=
 run_part_plain w (by simp[Program.plainKey,hu]) hx
theorem lZ(dp:Nat){e:TypeId}(hu:P.underlying e=some (.int .i64))(l m:List Int)(w:World):∀(is:List Nat),(∀i∈is,i<l.length∧i<m.length)→
  (Op.eqItems (dp+1) e 1 (ints l).toArray (ints m).toArray is).run P w=.ok (is.all fun i=>l[i]? ==m[i]?) w
 | [],_=>by simp[Op.eqItems,Sem.run_pure]
 |i::is,h=>by
  obtain⟨h1,h2⟩:=h i LT;have g1:(ints l).toArray[i*1]?= some (qI l[i]):=by rw[bBQ];simpa using cD (aYU h1)
  have g2:(ints m).toArray[i*1]?= some (qI m[i]):=by rw[bBQ];simpa using cD (aYU h2)
  simp only[Op.eqItems,Sem.run_bind,dA hu g1,dA hu g2,run_equalIn_int w dp e .i64 .i64 _ _ hu,Result.andThen_ok,bDS,aYU h1,aYU h2];by_cases he:l[i]=m[i]
  ·simp[he,lZ dp hu l m w is (fun j hj=>h j (n5 _ hj))]
  ·simp[he,Sem.run_pure]
theorem xJ{l m:List Int}{n:Nat}(hl:l.length=n)(hm:m.length=n):((List.range n).all fun i=>l[i]? ==m[i]?)=(l==m):=by
 rw[bCG];simp only[aZN,bBF,bDR];constructor
 ·intro h;apply bDE;intro i;by_cases hi:i<n
  ·exact h i hi
  ·rw[bBX Yd,bBX Yd]
 ·rintro rfl i _;rfl
theorem PH{t e t':TypeId}{n:Nat}{l m:List Int}(ho:all[ix]?= some ⟨some d,.binOp .eql t x y t',ty,pos,aft,g⟩)(hgt:P.eqGuardType P.depth t=false)(ht:P.underlying t=some (.array n e))(he:P.underlying e=some (.int .i64))(hc:P.cellsOf e=1)
  (hl:l.length=n) (hm:m.length=n) (hx:ev σ x=some (.agg (ints l).toArray)) (hy:ev σ y=some (.agg (ints m).toArray)) (hN:Nat.blt d X.N=true) (hg:dE all σ g)
  (kk:WL P X bad all K Q os ((d,.bool (l==m))::σ) μ Ds):WL P X bad all K Q ((fl,ix)::os) σ μ Ds:=
 J9 ho (fun w=>by
  have hgd:(eqGuard .eql t x y (.agg (ints l).toArray) (.agg (ints m).toArray)).run P w=.ok () w:=by
   simp only[eqGuard,program];simp[Sem.run,hgt,go_sem]
  have heq:(Op.equal t (.agg (ints l).toArray) (.agg (ints m).toArray)).run P w=.ok (l==m) w:=by
   obtain⟨i,hi⟩:=info_of_underlying he;have h:=run_equalIn_array (P:=P) w 9999 (ints l).toArray (ints m).toArray ht hi;rw[hc,lZ 9998 he l m w (List.range n) (fun j hj=>by have:=bBF.1 hj;omega),xJ hl hm]at h
   exact h
  rw[Sem.run_bind,hgd];show((do Pure.pure (Value.bool (←Op.equal t (.agg (ints l).toArray) (.agg (ints m).toArray)))):Sem Value).run P w=_;rw[Sem.run_bind,heq];rfl) hx hy hN hg kk

def K2(P:Program)(k:TypeId):Prop:=P.underlying k=some (.struct (P.fieldsOf k))∧P.stoodInHeld k=false∧
 (P.fieldsOf k).toList.map (fun f=>(f.name== "_",f.offset,P.underlying f.type))=[(false,0,some (.int .i64)),(false,1,some (.int .i64))]
def kX(k:Int×Int):Value:=.agg #[qI k.1,qI k.2]
theorem K2.fields{k:TypeId}(h:K2 P k):∃f0 f1,P.underlying k=some (.struct #[f0,f1])∧P.fieldsOf k=#[f0,f1]∧f0.name≠ "_" ∧f1.name≠ "_" ∧f0.offset=0∧f1.offset=1∧P.underlying f0.type=some (.int .i64)∧P.underlying f1.type=some (.int .i64):=by
 obtain⟨h1,h2,h3⟩:=h;generalize hl:(P.fieldsOf k).toList=fs at h3;have h0:=aYY List.length h3;simp only[bAY,aYW,bAP]at h0;rcases fs with _|⟨f0,_|⟨f1,_|⟨f2,fs⟩⟩⟩<;>simp only[aYW,bAP]at h0<;>try omega
 have he:P.fieldsOf k=#[f0,f1]:=by rw[←Array.toArray_toList (xs:=P.fieldsOf k),hl]
 simp only[aZR,bCT,bAT,bCQ,and_true,beq_eq_false_iff_ne]at h3;exact⟨f0,f1,by rw[h1,he],he,h3.1.1,h3.2.1,h3.1.2.1,h3.2.2.1,h3.1.2.2,h3.2.2.2⟩
theorem N7{k:TypeId}(h:K2 P k)(a b:Int×Int)(w:World):(Op.equal k (kX a) (kX b)).run P w=.ok (a==b) w:=by
 obtain⟨G,a2⟩:=a;obtain⟨I,b2⟩:=b;obtain⟨f0,f1,hu,hf,n0,n1,o0,o1,t0,t1⟩:=h.fields;have he:=run_equalIn_struct (P:=P) w 9999 k #[qI G,qI a2] #[qI I,qI b2] h.1 h.2.1;show(Op.equalIn (9999+1) k (.agg #[qI G,qI a2]) (.agg #[qI I,qI b2])).run P w=_;rw[he,hf];have p0:∀c1 c2:Int,(part f0.type #[qI c1,qI c2] f0.offset).run P w=.ok (qI c1) w:=fun c1 c2=>dA t0 (by rw[o0];rfl) w
 have p1:∀c1 c2:Int,(part f1.type #[qI c1,qI c2] f1.offset).run P w=.ok (qI c2) w:=fun c1 c2=>dA t1 (by rw[o1];rfl) w
 have e0:=run_equalIn_int w 9998 f0.type .i64 .i64 G I t0;have M:=run_equalIn_int w 9998 f1.type .i64 .i64 a2 b2 t1;have O:(Op.eqFields 9999 #[qI G,qI a2] #[qI I,qI b2] [f1]).run P w=.ok (a2==b2) w:=by
  simp only[Op.eqFields,n1,ne_eq,bDD,bAX,Sem.run_bind,p1,Result.andThen_ok];rw[M];simp only[Result.andThen_ok];cases a2==b2<;>rfl
 show(Op.eqFields 9999 #[qI G,qI a2] #[qI I,qI b2] (f0::[f1])).run P w=_;rw[Op.eqFields,aZK n0];simp only[Sem.run_bind,p0,Result.andThen_ok];rw[e0];simp only[Result.andThen_ok];by_cases hab:G=I
 ·subst hab;simp only[beq_self_eq_true,Bool.not_true,bAE,bBH];rw[O];have:(a2==b2)=((G,a2)==(G,b2)):=by rw[bCG];simp
  rw[this]
 ·have hb:(G==I)=false:=by simpa using hab
  simp only[hb,Bool.not_false,bAX,Sem.run_pure];simp[hab]
theorem aEB{t t':TypeId}{a b:Int×Int}(ho:all[ix]?= some ⟨some d,.binOp .eql t x y t',ty,pos,aft,g⟩)(hgt:P.eqGuardType P.depth t=false)(ht:K2 P t)(hx:ev σ x=some (kX a))(hy:ev σ y=some (kX b))(hN:Nat.blt d X.N=true)(hg:dE all σ g)
  (kk:WL P X bad all K Q os ((d,.bool (a==b))::σ) μ Ds):WL P X bad all K Q ((fl,ix)::os) σ μ Ds:=
 J9 ho (fun w=>by
  have hgd:(eqGuard .eql t x y (kX a) (kX b)).run P w=.ok () w:=by
   simp only[eqGuard,kX,program];simp[Sem.run,hgt,go_sem]
  rw[Sem.run_bind,hgd];show((do Pure.pure (Value.bool (←Op.equal t (kX a) (kX b)))):Sem Value).run P w=_;rw[Sem.run_bind,N7 ht];rfl) hx hy hN hg kk
theorem tO{k k':IntKind}{s t:TypeId}{u':TypeDesc}{n:Int}(ho:all[ix]?= some ⟨some d,.convert s t x,ty,pos,aft,g⟩)(hs:P.underlying s=some u')(ht:P.underlying t=some (.int k'))(hx:ev σ x=some (.int k n))(hn:uN k' n)(hN:Nat.blt d X.N=true)(hg:dE all σ g)
  (kk:WL P X bad all K Q os ((d,.int k' n)::σ) μ Ds):WL P X bad all K Q ((fl,ix)::os) σ μ Ds:=
 aCW ho (fun w=>by
  simp only[Go.convert,Sem.run_bind,TU.of hs w,TU.of ht w,Result.andThen_ok,Conv.intToInt,rM hn];rfl) hx hN hg kk
theorem bS.shape{e:TypeId}{sz n:Nat}{cells:List Value}{ν:aD}(h:bS e sz v n cells ν):∃a cap,v=.slice a n cap:=by
 rcases h with⟨a,hv,hn,_,_⟩|⟨b,cap,junk,hv,_⟩
 ·exact⟨a,0,by rw[hv,hn]⟩
 ·exact⟨_,cap,hv⟩
theorem Sl.shape{α:Type}{R:Rd α}{D:aC}{sz:Nat}{xs:List α}(h:Sl D R sz v xs):∃a cap,v=.slice a xs.length cap:=by
 obtain⟨a,cap,hv,_⟩:=h;exact⟨a,cap,hv⟩
theorem Z4{k:TypeId}(h:K2 P k)(em:Bool)(a:Int×Int)(w:World):(Instr.checkKey em 10000 k (kX a)).run P w=.ok () w:=by
 obtain⟨f0,f1,hu,hf,n0,n1,o0,o1,t0,t1⟩:=h.fields;have p0:(part f0.type #[qI a.1,qI a.2] f0.offset).run P w=.ok (qI a.1) w:=dA t0 (by rw[o0];rfl) w
 have p1:(part f1.type #[qI a.1,qI a.2] f1.offset).run P w=.ok (qI a.2) w:=dA t1 (by rw[o1];rfl) w;have c0:(Instr.checkKey em (9998+1) f0.type (qI a.1)).run P w=.ok () w:=by
  rw[Instr.checkKey,Sem.run_bind,TU.of t0 w];rfl
 have c1:(Instr.checkKey em (9998+1) f1.type (qI a.2)).run P w=.ok () w:=by
  rw[Instr.checkKey,Sem.run_bind,TU.of t1 w];rfl
 show(Instr.checkKey em (9999+1) k (.agg #[qI a.1,qI a.2])).run P w=_;rw[Instr.checkKey,Sem.run_bind,TU.of hu w];simp only[Result.andThen_ok];rw[←Array.forIn_toList];simp only[List.forIn_cons,List.forIn_nil,n0,n1,ne_eq,bDD,bAX,Sem.run_bind,p0,Result.andThen_ok,Sem.run_pure];rw[c0];simp only[Result.andThen_ok,Sem.run_pure,Sem.run_bind,p1];rw[c1];simp[Sem.run_pure,Result.andThen_ok]
theorem vX{t:TypeId}(ho:all[ix]?= some ⟨some d,.makeMap t none,ty,pos,aft,g⟩)(hN:Nat.blt d X.N=true)(hg:dE all σ g)
  (kk:∀b,WL P X bad all K Q os ((d,.map (some b))::σ) ((b,.map #[] 0)::μ) Ds):WL P X bad all K Q ((fl,ix)::os) σ μ Ds:=by
 refine eZ ho rfl rfl hg fun a w hh=>?_
 obtain⟨h1,h2,h3,D,h4,h5,G⟩:=id hh;have:(execOp a.eval ⟨some d,.makeMap t none,ty,pos,aft,g⟩).run P w=.ok (.value (.map (some w.heap.size))) {w with heap:=w.heap.push (.map #[] 0)}:=rfl;rw[this];exact⟨fun _=>pJ _ _ _,kk _ _ _ (Hl.put ⟨h1,h2,h3,D,h4.push _ (show dB (.map #[] 0)from bDY),h5,G.step (fun _ p hp=>by rcases n4.1 hp with rfl|hp;exact Or.inr (aZL _);exact Or.inl (GT.2 ⟨p,hp,rfl⟩)) (fun _=>R1 _ _) (h4.push _ (show dB (.map #[] 0)from bDY)).dom⟩ hN _)⟩
theorem nP{w:World}{r:Nat}{es:Array MapEntry}{clock:Nat}(h:w.heap[r]?= some (.map es clock)):(getObj r).run P w=.ok (.map es clock) w:=by
 simp[getObj,Sem.run,h]

theorem aWZ{t t':TypeId}{m n:Int}{k:IntKind}(ho:all[ix]?= some ⟨some d,.binOp .shl t x y t',ty,pos,aft,g⟩)(hx:ev σ x=some (qI m))(hy:ev σ y=some (.int k n))(h0:0≤n)(h1:n<64)(hr:uN .i64 (m*2^n.toNat))(hN:Nat.blt d X.N=true)(hg:dE all σ g)
  (kk:WL P X bad all K Q os ((d,qI (m*2^n.toNat))::σ) μ Ds):WL P X bad all K Q ((fl,ix)::os) σ μ Ds:=
 bQ ho rfl rfl hN hg (fun ρ hρ w'=>by
  have hn:min n.toNat IntKind.i64.bits=n.toNat:=by have:IntKind.i64.bits=64:=rfl;omega
  have h0':¬n<0:=by omega
  have hs:(binOp .shl t (qI m) (.int k n)).run P w'=.ok (qI (m*2^n.toNat)) w':=by
   show(Op.shift .shl .i64 m k n).run P w'=_;unfold Op.shift;rw[aZB h0'];simp only[hn,rM hr,Sem.run_pure]
  have hg:∀w,(eqGuard .shl t x y (qI m) (.int k n)).run P w=.ok () w:=fun w=>rfl
  simp only[execOp,hρ x _ hx,hρ y _ hy,Sem.run_bind,hg,Result.andThen_ok,hs,Sem.run_pure]) kk

def aSK(X:Cx)(b:Nat)(post:aC→Value→Obj→Prop):Ending→World→Prop:=fun e w'=>∃v D' o',e=.returned v∧iD X.h0 X.lo X.D0 X.mods [(b,o')] D' w'∧post D' v o'
theorem eS{fn:Func}{b:Nat}{o':Obj}{post:aC→Value→Obj→Prop}{e:Exit}(he:(match e with|.normal=>true|.ret=>true|_=>false)=true){rs:List ResultVar}{vs:List Value}(hds:X.ds=[])(hr:fn.results=rs.toArray)(h:xT P X σ μ rs vs)
  (hm:(b,o')∈μ) (hp:∀D,(∀D₁∈Ds,Le D₁ D)→post D (qE vs) o'):∀a w,Hl X σ μ Ds a w→bodyPost P fn (aSK X b post) e a w:=by
 intro a w hh;have hrun:=iK hh hr h;obtain⟨h1,h2,h3,D,h4,h5,G⟩:=hh;have:a.defers=[]∧∃v,(results fn a.tmps).run P w=.ok v w∧aSK X b post (.returned v) w:=⟨h3.trans hds,_,hrun,_,D,o',rfl,h4.sub (fun p hp=>by rw[aZM.1 hp];exact hm) Ye,hp D h5⟩
 cases e<;>first|exact this|cases he
theorem q9{t t':TypeId}{n:Nat}(ho:all[ix]?= some ⟨some d,.binOp .shl t x y t',ty,pos,aft,g⟩)(hx:ev σ x=some (qI 1))(hy:ev σ y=some (qI (n:Int)))(h1:n<62)(hN:Nat.blt d X.N=true)(hg:dE all σ g)
  (kk:WL P X bad all K Q os ((d,qI ((2^n:Nat):Int))::σ) μ Ds):WL P X bad all K Q ((fl,ix)::os) σ μ Ds:=by
 have h2:(2:Nat)^n<2^62:=Nat.pow_lt_pow_right Yd h1;have e:(1:Int)*2^(n:Int).toNat=((2^n:Nat):Int):=by simp
 have hr:uN .i64 ((1:Int)*2^(n:Int).toNat):=by
  rw[e];generalize (2:Nat)^n=q at h2;simp only[uN];omega
 refine aWZ ho hx hy Yd Yd hr hN hg ?_;rw[e];exact kk
def KZ(P:Program)(f:FuncId)(args:Array Value)(D:aC)(post:aC→Value→aD→Prop):Prop:=
 EF P f∧∀w,eX D w→Calls P f args w fun e w'=>∃v D' ν,e=.returned v∧iD (hd w) w.heap.size D [] ν D' w'∧post D' v ν
theorem pM{f:FuncId}{fn:Func}{c:Code}{args:List Value}{D:aC}{post:aC→Value→aD→Prop}(N:Nat)(hf:P.funcs[f]?= some fn)(hn:(fn.name== "runtime.NumGoroutine")=false)(hb:fn.body=some c)(hN:fn.ntmps=N)(hsz:Nat.ble args.length N=true)
  (h:∀h0:H0,WC P ⟨none,N,[],h0,h0.size,D,[],none⟩ (bodyPost P fn (pL ⟨none,N,[],h0,h0.size,D,[],none⟩ post)) c (iS 0 args) [] [D]):KZ P f args.toArray D post:=by
 refine⟨EF.of hf hn hb,fun w hw=>?_⟩;subst hN;have hsz:=bAZ hsz;refine(dP (r:=none) (n:=0)).1 ((callsIn_of_wp (R:=pL ⟨none,fn.ntmps,[],hd w,w.heap.size,D,[],none⟩ post) hf hb bDY (h (hd w) _ w ⟨?_,fun s v hs=>?_,rfl,D,⟨aZL _,aZL _,fun _ _ _=>rfl,fun _ _=>rfl,hw,Yi,bAV,Yi,fun e he=>aZO he⟩,fun D₁ h1=>?_,bDY⟩) rfl).mono ?_)
 ·simp;omega
 ·obtain⟨_,h2⟩:=fQ args 0 s v hs;have hl:=(aYV.1 h2).1;simp only[bCM]at h2 hl;show(args.toArray++_)[s]?= some v;rw[bBD Yan];simpa using h2
 ·simp only[aZM]at h1;subst h1;exact Le.refl _
 ·rintro e w' ⟨v,D',μ',rfl,hs,hp⟩;exact⟨v,D',μ',rfl,hs,hp⟩
theorem iD.afterO{h0:H0}{lo:Nat}{D0 D D':aC}{mods:List Nat}{μ ν:aD}{w w':World}(h:iD h0 lo D0 mods μ D w)(hs:iD (hd w) w.heap.size D [] ν D' w'):iD h0 lo D0 mods (ν++μ) D' w':=by
 have h1:=h.after (hs.sub (μ':=[]) Yi bAV);have hge:∀p∈ν,w.heap.size≤p.1:=fun p hp=>(hs.box p hp).2.2.resolve_right Ye
 refine⟨h1.hlo,h1.size,h1.old,h1.dold,h1.agr,fun p hp=>?_,?_,(fun p hp=>by rcases aZF.1 hp with hp|hp;exact hs.fz p hp;exact h.fz p hp),h1.env⟩
 ·rcases aZF.1 hp with hp|hp
  ·obtain⟨a,b,_⟩:=hs.box p hp;exact⟨a,b,aZE (bBE h.size (hge p hp))⟩
  ·exact h1.box p hp
 ·rw[aZH,aZC];refine⟨hs.nd,h.nd,fun a ha b hb=>?_⟩;obtain⟨p,hp,rfl⟩:=GT.1 ha;obtain⟨q,hq,rfl⟩:=GT.1 hb;have:=hge p hp;have:=bH (h.box q hq).1;omega
theorem fX{c:Operand}{xs:Array Operand}{ats:Array TypeId}{f:FuncId}{c1 c2:List Value}{vs:List Value}{post:aC→Value→aD→Prop}(ho:all[ix]?= some ⟨some d,.call {callee:=.value c,args:=xs,argTypes:=ats},ty,pos,aft,g⟩)(hc:ev σ c=some (.func (.func f) c1.toArray c2.toArray))(hxs:X7 σ xs.toList=some vs)
  (hf:∀D,(∀D₁∈Ds,Le D₁ D)→KZ P f (c1++vs++c2).toArray D post) (hN:Nat.blt d X.N=true) (hg:dE all σ g)
  (kk:∀v D ν,(∀D₁∈Ds,Le D₁ D)→post D v ν→WL P X bad all K Q os ((d,v)::σ) (ν++μ) (D::Ds)):
  WL P X bad all K Q ((fl,ix)::os) σ μ Ds:=by
 refine eZ ho rfl rfl hg fun a w hh=>?_
 obtain⟨h1,h2,h3,D,h4,h5,G⟩:=id hh;have hF:=hf D h5;rw[vC hF.1 (hh.eval hc) (kP (fun _ _ hx=>hh.eval hx) hxs)];refine⟨fun h=>by simp[FW]at h,dP.2 ((hF.2 w h4.agr).mono ?_)⟩;rintro e w' ⟨v,D',ν,rfl,hs,hpost⟩;have hle:=gH h4.agr hs;refine⟨fun _=>hs.keep bad,kk v D' ν (fun D₁ hD₁=>(h5 D₁ hD₁).trans hle) hpost _ _ ?_⟩;refine Hl.put ⟨h1,h2,h3,D',h4.afterO hs,fun D₁ hD₁=>?_,G.step (fun _ p hp=>?_) (fun _=>hs.low _) (h4.afterO hs).dom⟩ hN v
 ·rcases n4.1 hD₁ with rfl|hD₁
  ·exact Le.refl _
  ·exact(h5 D₁ hD₁).trans hle
 ·rcases aZF.1 hp with hp|hp
  ·exact aYZ ((hs.box p hp).2.2.resolve_right Ye)
  ·exact aZE (GT.2 ⟨p,hp,rfl⟩)
theorem gO{t e:TypeId}{sz b o n cap:Nat}{k:IntKind}{i:Int}(ho:all[ix]?= some ⟨some d,.indexAddr t x y,ty,pos,aft,g⟩)(ht:P.underlying t=some (.slice e))(hs:TS P e sz)(hx:ev σ x=some (.slice (some ⟨b,o,none⟩) n cap))
  (hy:ev σ y=some (.int k i)) (h0:0≤i) (hi:i<n) (hN:Nat.blt d X.N=true) (hg:dE all σ g)
  (kk:WL P X bad all K Q os ((d,.pointer (some ⟨b,o+i.toNat*sz,none⟩))::σ) μ Ds):WL P X bad all K Q ((fl,ix)::os) σ μ Ds:=
 bQ ho rfl rfl hN hg (fun ρ hρ w'=>by
  simp only[execOp,hρ x _ hx,hρ y _ hy];unfold Instr.indexAt asIntOf;simp only[Sem.run_bind,TU.of ht w',Result.andThen_ok,hs w',Sem.run_pure,pure_bind,h0,hi,bDO,bAX,gF]) kk
theorem bS.some{e:TypeId}{sz n:Nat}{cells:List Value}{ν:aD}(h:bS e sz v n cells ν)(hn:0<n):∃b cap junk,v=qS b n cap∧n≤cap∧ν=[(b,.cells (cells++junk).toArray e (0,0))]∧cells.length=n*sz∧(cells++junk).length=cap*sz:=by
 rcases h with⟨_,_,h0,_⟩|h
 ·omega
 ·exact h
namespace C2
open C1 (gW bX qO pB)
structure Mk where
 frm:Int
 to:Int
 lo:Int
 hi:Int
deriving DecidableEq
structure aY where
 last:Int
 heights:List (Int×Int)
 step:Int
 levels:List Int
 marks:List Mk
def eJ(n:Int):Bool:=gW n 0 99
def fW(r:Int×Int):Bool:=decide (r.1≤r.2)&&eJ r.1&&eJ r.2
def eW(r:Int×Int):Int:=r.2-r.1+1
def CU(last n:Int):Bool:=gW n 0 last
def tJ(last a b:Int):Bool:=CU last a&&CU last b&&decide (a≤b)
def uY(last:Int)(m:Mk):Bool:=tJ last m.frm m.to&&fW (m.lo,m.hi)
def oF(hs:List (Int×Int)):Int:=hs.foldl (fun(m:Int) r=>min (m*eW r) 2001) 1
def mU(step:Int)(p:Option Int)(n:Int):Bool:=match p with
 |none=>true
 |some q=>gW (n-q) (-step) step
def gZ(step:Int):List (Int×Int)→Option Int→List (List Int)
 | [],_=>[[]]
 |r::rs,p=>(List.range (eW r).toNat).flatMap fun(k:Nat)=>if mU step p (r.1+k)=true then(gZ step rs (some (r.1+k))).map (fun l=>(r.1+(k:Int))::l)else []
def fO(t:aY):List (List Int):=gZ t.step t.heights none
def ZO(t:aY):Bool:=decide (t.last>9)||decide ((t.levels.length:Int)>6)||decide ((t.marks.length:Int)>5)
def aSM(t:aY):Bool:=decide (0≤t.last)&&decide ((t.heights.length:Int)=t.last+1)&&t.heights.all fW&&eJ t.step&&t.levels.all eJ&&t.marks.all (uY t.last)
def aV(t:aY):Int:=if ZO t=true then 3 else if aSM t=false then 1 else if 2000<oF t.heights then 3 else if fO t=[]then 9 else 0
def mB(s:List Int)(a b:Int):Int:=pB ((s.drop a.toNat).take (b+1-a).toNat)
def jD(t:aY)(s:List Int):Bool:=t.marks.all fun m=>gW (mB s m.frm m.to) m.lo m.hi
def uR(t:aY)(acc:List (List Int))(s:List Int):List (List Int):=if jD t s=false∨acc.getLast?= some s then acc else acc++[s]
def bE(t:aY):List (List Int):=(fO t).foldl (uR t) []
def jV(t:aY)(fine:Bool):Int:=if aV t≠0 then aV t else if fine=false then 2 else if bE t=[]then 11 else 0
def aXX(s:List Int)(i:Nat):Int:=s.getD i 0
def xL(t:aY)(i:Nat):Int×Int:=(qO ((bE t).map (aXX · i)),pB ((bE t).map (aXX · i)))
def wX(s:List Int)(level:Int):Int:=((s.takeWhile fun n=>decide (n≤level)).length:Int)
def sN(t:aY)(level:Int):Int×Int:=(qO ((bE t).map (wX · level)),pB ((bE t).map (wX · level)))
def aXG(t:aY)(a b:Int):Int:=pB ((bE t).map (mB · a b))
def dF(l:List Int):List Int:=l++List.replicate (10-l.length) 0
theorem fN{l:List Int}(h:l.length≤10):(dF l).length=10:=by simp[dF];omega
theorem OH{c l:List Int}(h2:c.take l.length=l)(h3:c.drop l.length=List.replicate (10-l.length) 0):dF l=c:=by
 unfold dF;rw[←h3]
 conv=>rhs;rw[←bBV l.length c,h2]
def NV(step:Int)(rs:List (Int×Int))(pre:List Int)(r:Int×Int)(k:Nat):List (List Int):=(List.range k).flatMap fun(m:Nat)=>if mU step pre.getLast? (r.1+m)=true then(gZ step rs (some (r.1+m))).map (fun t=>dF (pre++(r.1+(m:Int))::t))else []
theorem aIK{step:Int}{rs:List (Int×Int)}{pre:List Int}{r:Int×Int}:NV step rs pre r 0=[]:=rfl
theorem aUU{step:Int}{rs:List (Int×Int)}{pre:List Int}{r:Int×Int}{k:Nat}(h:mU step pre.getLast? (r.1+k)=false):NV step rs pre r (k+1)=NV step rs pre r k:=by
 unfold NV;rw[bAS,aZS,bAJ,aZB (by simp[h]),aZA]
theorem WA{step:Int}{rs:List (Int×Int)}{pre:List Int}{r:Int×Int}{k:Nat}(h:mU step pre.getLast? (r.1+k)=true):NV step rs pre r (k+1)=NV step rs pre r k++(gZ step rs ((pre++[r.1+(k:Int)]).getLast?)).map (fun t=>dF ((pre++[r.1+(k:Int)])++t)):=by
 unfold NV;rw[bAS,aZS,bAJ,aZK h,List.getLast?_concat];simp
theorem UK{step:Int}{rs:List (Int×Int)}{pre:List Int}{r:Int×Int}:NV step rs pre r (eW r).toNat=(gZ step (r::rs) pre.getLast?).map (fun t=>dF (pre++t)):=by
 unfold NV;simp only[gZ];rw[List.map_flatMap]
 congr 1;funext m
 split<;>simp
theorem aEW{step:Int}{rs:List (Int×Int)}{pre:List Int}{r:Int×Int}{k n:Nat}(hk:k<n):∃rr,NV step rs pre r n=NV step rs pre r (k+1)++rr:=by
 refine⟨((List.range n).drop (k+1)).flatMap fun(m:Nat)=>if mU step pre.getLast? (r.1+m)=true then(gZ step rs (some (r.1+m))).map (fun t=>dF (pre++(r.1+(m:Int))::t))else [],?_⟩;unfold NV;rw[←aZS];congr 1;have h:=bBV (k+1) (List.range n);rw[List.take_range,bCW Yd]at h;exact h.symm
theorem AB{step:Int}:∀(rs:List (Int×Int)) (p:Option Int) (t:List Int),t∈gZ step rs p→t.length=rs.length
 | [],p,t,h=>by simp[gZ]at h;subst h;rfl
 |r::rs,p,t,h=>by
  simp only[gZ,bDK,bBF]at h;obtain⟨m,hm,h⟩:=h;split at h
  ·obtain⟨u,hu,rfl⟩:=GT.1 h;rw[aYW,AB rs _ u hu,aYW]
  ·cases h
theorem HQ{step:Int}:∀(rs:List (Int×Int)) (p:Option Int) (t:List Int),(∀r∈rs,fW r=true)→t∈gZ step rs p→∀x∈t,0≤x∧x≤99
 | [],p,t,_,h=>by simp[gZ]at h;subst h;intro x hx;cases hx
 |r::rs,p,t,hr,h=>by
  simp only[gZ,bDK,bBF]at h;obtain⟨m,hm,h⟩:=h;split at h
  ·obtain⟨u,hu,rfl⟩:=GT.1 h;intro x hx;rcases n4.1 hx with rfl|hx
   ·have h1:=hr r LT;unfold fW eJ at h1;simp only[aYT,aZI,bX]at h1;unfold eW at hm;omega
   ·exact HQ rs _ u (fun q hq=>hr q (n5 _ hq)) hu x hx
  ·cases h
structure BX(t:aY):Prop where
 last:0≤t.last∧t.last≤9
 len:(t.heights.length:Int)=t.last+1
 step:0≤t.step∧t.step≤99
 hts:∀r∈t.heights,fW r=true
 lev:t.levels.length≤6
 levs:∀n∈t.levels,0≤n∧n≤99
 mks:t.marks.length≤5
 mark:∀m∈t.marks,uY t.last m=true
theorem aYR{t:aY}(h1:ZO t=false)(h2:aSM t=true):BX t:=by
 unfold ZO at h1;unfold aSM eJ at h2;simp only[bAU,bAH]at h1;simp only[aYT,aZI,aZN,bX]at h2;obtain⟨⟨⟨⟨⟨h3,h4⟩,h5⟩,G⟩,I⟩,M⟩:=h2;exact⟨by omega,h4,G,h5,by omega,I,by omega,M⟩
theorem A3{t:aY}(h:aV t=0):BX t:=by
 unfold aV at h;split at h
 ·omega
 ·rename_i h1;split at h
  ·omega
  ·rename_i h2;exact aYR (by simpa using h1) (by simpa using h2)
theorem BX.len10{t:aY}(h:BX t):t.heights.length≤10:=by have:=h.len;have:=h.last;omega

theorem aFY{s:List Int}{a k:Nat}(h:a+k≤s.length):((dF s).drop a).take k=(s.drop a).take k:=by
 unfold dF;rw[List.drop_append_of_le_length Yd,bAB Yaj]
theorem xV{s:List Int}{a b:Int}(h0:0≤a)(h1:a≤b)(h2:b<s.length):mB (dF s) a b=mB s a b:=by
 unfold mB;rw[aFY Yd]
theorem aAA{last:Int}{m:Mk}(h:uY last m=true):0≤m.frm∧m.frm≤m.to∧m.to≤last∧0≤m.lo∧m.lo≤m.hi∧m.hi≤99:=by
 unfold uY tJ CU fW eJ at h;simp only[aYT,aZI,bX]at h;omega
theorem aBN{t:aY}(ht:BX t){s:List Int}(hs:(s.length:Int)=t.last+1):jD t (dF s)=jD t s:=by
 unfold jD;rw[bCG,aZN,aZN];constructor<;>intro h m hm<;>have h1:=aAA (ht.mark m hm)<;>have h2:=h m hm
 ·rwa [xV Yd Yd Yd]at h2
 ·rwa [xV Yd Yd Yd]
theorem RX{l:List (List Int)}{pre us:List (List Int)}{x:List Int}(h:l.map dF=pre++x::us):∃s,l[pre.length]?= some s∧x=dF s∧s∈l∧l.take (pre.length+1)=l.take pre.length++[s]:=by
 have h1:(l.map dF)[pre.length]?= some x:=by rw[h];simp
 rw[aZT]at h1;obtain⟨s,hs,hx⟩:=bBS.1 h1;exact⟨s,hs,hx.symm,LE hs,by rw[aZG,hs];rfl⟩
def kB(t:aY)(k:Nat):List (List Int):=((fO t).take k).foldl (uR t) []
theorem O9(t:aY){k:Nat}(h:(fO t).length≤k):kB t k=bE t:=by unfold kB bE;rw[aZP h]
theorem CR{t:aY}{k:Nat}{s:List Int}(h:(fO t).take (k+1)=(fO t).take k++[s]):kB t (k+1)=uR t (kB t k) s:=by
 unfold kB;rw[h,bAN];rfl
theorem aEY{t:aY}{acc:List (List Int)}{s:List Int}:∀u∈uR t acc s,u∈acc∨u=s:=by
 intro u hu;unfold uR at hu
 split at hu
 ·exact aZE hu
 ·simpa using hu
theorem V5{t:aY}:∀(l acc:List (List Int)),∀u∈l.foldl (uR t) acc,u∈acc∨u∈l
 | [],acc,u,h=>aZE h
 |s::l,acc,u,h=>by
  rcases V5 l (uR t acc s) u h with h|h
  ·rcases aEY u h with h|rfl
   ·exact aZE h
   ·exact aYZ LT
  ·exact aYZ (n5 _ h)
theorem DJ{t:aY}:∀(l acc:List (List Int)),(l.foldl (uR t) acc).length≤acc.length+l.length
 | [],acc=>by simp
 |s::l,acc=>by
  have h1:=DJ (t:=t) l (uR t acc s);have h2:(uR t acc s).length≤acc.length+1:=by
   unfold uR;split
   ·omega
   ·simp
  rw[bAG,aYW];omega
theorem P1{t:aY}{k:Nat}{u:List Int}(h:u∈kB t k):u∈fO t:=by
 rcases V5 _ _ u h with h|h
 ·cases h
 ·exact bDU h
theorem NM(t:aY)(k:Nat):(kB t k).length≤(fO t).length:=by
 have h1:=DJ (t:=t) ((fO t).take k) [];have h2:=bDH k (fO t);rw[bBI]at h1;unfold kB;simp only[bAP]at h1;omega
def uB:List (Int×Int)→Int
 | []=>1
 |r::l=>eW r*uB l
theorem DP:∀(l:List (Int×Int)) (m:Int),(∀r∈l,fW r=true)→0≤m→l.foldl (fun(m:Int) r=>min (m*eW r) 2001) m≤2000→m*uB l≤2000∧1≤uB l
 | [],m,_,_,h=>by simpa [uB]using h
 |r::l,m,hr,hm,h=>by
  have h1:1≤eW r:=by
   have h1:=hr r LT;unfold fW eJ at h1;simp only[aYT,aZI,bX]at h1;unfold eW;omega
  have h2:0≤m*eW r:=Int.mul_nonneg hm Yd;rw[bAG]at h;obtain⟨h3,h4⟩:=DP l (min (m*eW r) 2001) (fun q hq=>hr q (n5 _ hq)) Yd h;have h5:1≤eW r*uB l:=by
   have:=Int.mul_le_mul h1 h4 Yd Yd;omega
  refine⟨?_,h5⟩;show m*(eW r*uB l)≤2000;rw[←Int.mul_assoc];by_cases hc:m*eW r≤2001
  ·rwa [Int.min_eq_left hc]at h3
  ·rw[Int.min_eq_right Yd]at h3;omega
theorem lV{α β:Type}{f:α→List β}{n:Nat}:∀(l:List α),(∀x∈l,(f x).length≤n)→(l.flatMap f).length≤l.length*n
 | [],_=>by simp
 |x::l,h=>by
  have h1:=lV l fun y hy=>h y (n5 _ hy)
  have h2:=h x LT;rw[bAC,aYS,aYW,bBU];omega
theorem xE{step:Int}:∀(rs:List (Int×Int)) (p:Option Int),(∀r∈rs,fW r=true)→1≤uB rs∧((gZ step rs p).length:Int)≤uB rs
 | [],p,_=>by simp[gZ,uB]
 |r::rs,p,hr=>by
  have h1:1≤eW r:=by
   have h1:=hr r LT;unfold fW eJ at h1;simp only[aYT,aZI,bX]at h1;unfold eW;omega
  have h2:=xE (step:=step) rs none fun q hq=>hr q (n5 _ hq)
  have h3:(gZ step (r::rs) p).length≤(List.range (eW r).toNat).length*(uB rs).toNat:=by
   simp only[gZ];refine lV _ fun k _=>?_
   split
   ·rw[bAY];have:=(xE (step:=step) rs (some (r.1+(k:Int))) fun q hq=>hr q (n5 _ hq)).2;omega
   ·exact Nat.zero_le _
  rw[List.length_range]at h3;have h4:(((eW r).toNat*(uB rs).toNat:Nat):Int)=eW r*uB rs:=by
   rw[Int.natCast_mul,Int.toNat_of_nonneg Yd,Int.toNat_of_nonneg Yd]
  have h5:=Int.mul_le_mul h1 h2.1 Yd Yd;refine⟨?_,?_⟩
  ·show 1≤eW r*uB rs;omega
  ·show _≤eW r*uB rs;rw[←h4];exact Int.ofNat_le.2 h3
theorem JX{t:aY}(h:aV t=0):oF t.heights≤2000:=by
 unfold aV at h;split at h
 ·omega
 ·split at h
  ·omega
  ·split at h
   ·omega
   ·omega
theorem Z3{t:aY}(h:aV t=0):(fO t).length≤2000:=by
 have h1:=A3 h;have h2:=(xE (step:=t.step) t.heights none h1.hts).2;have h3:=(DP t.heights 1 h1.hts Yd (JX h)).1;show(gZ t.step t.heights none).length≤2000;omega
theorem pP{t:aY}{s:List Int}(h:s∈fO t):s.length=t.heights.length:=AB _ _ _ h
def G4(l:List (List Int))(last:Int)(S:List (Int×Int)):Prop:=∀p,p∈S ↔∃s∈l,∃j:Nat,(j:Int)≤last∧p=((j:Int),s.getD j 0)
theorem G4.nil{last:Int}:G4 [] last []:=fun p=>by simp
end C2
open C1 C2
def KX:Rd Mk:=fun _ m cs=>cs=[qI m.frm,qI m.to,qI m.lo,qI m.hi]
theorem KX.up:KX.Up:=fun _ _ _ h=>h
def Z7:Rd (Int×Int):=fun _ p cs=>cs=[qI p.1,qI p.2]
theorem Z7.up:Z7.Up:=fun _ _ _ h=>h
def aWI(m:Mk):Value:=.agg #[qI m.frm,qI m.to,qI m.lo,qI m.hi]
def iJ(D:aC)(v:Value)(t:aY):Prop:=∃hv lv mv,v=.agg #[qI t.last,hv,qI t.step,lv,mv]∧Sl D Z7 2 hv t.heights∧Sl D RI 1 lv t.levels∧Sl D KX 4 mv t.marks
def AW:Rd (List Int):=fun _ l cs=>cs=ints (dF l)
theorem AW.up:AW.Up:=fun _ _ _ h=>h
def H2(l:List (List Int)):List Value:=l.flatMap fun s=>ints (dF s)
theorem ME{l:List (List Int)}(h:∀s∈l,s.length≤10):(H2 l).length=l.length*10:=by
 induction l with
 |nil=>rfl
 |cons c l ih=>
  have:=ih fun s hs=>h s (n5 _ hs)
  unfold H2 at this ⊢
  rw[bAC,aYS,this,aO,fN (h c LT),aYW];omega
theorem LM{l:List (List Int)}(h:∀s∈l,s.length≤10){i:Nat}{s:List Int}(hi:l[i]?= some s)(junk:List Value):((H2 l++junk).drop (i*10)).take 10=ints (dF s):=by
 induction l generalizing i with
 |nil=>simp at hi
 |cons d l ih=>
  have G:(ints (dF d)).length=10:=by rw[aO,fN (h d LT)]
  have hc:H2 (d::l)=ints (dF d)++H2 l:=rfl;rw[hc,aZD];cases i with
  |zero=>
   obtain rfl:d=s:=by simpa using hi
   rw[bCS,bCN,bAB Yd,aZP Yd]
  |succ i=>
   rw[show(i+1)*10=(ints (dF d)).length+i*10 by omega,bCX];exact ih (fun s hs=>h s (n5 _ hs)) Yal
theorem mK.seas{D:aC}{v:Value}{n:Nat}{l:List (List Int)}(hF:mK D v n (H2 l))(hn:l.length=n)(hb:n≤9223372036854775807)(h:∀t∈l,t.length≤10):Sl D AW 10 v l:=
 hF.sl hn hb fun i t hi=>⟨Fs.ints (dF t),rfl,by rw[Fs.aO,fN (h t (LE hi))],by have:=LM h hi [];rwa [aZA]at this⟩
theorem iJ.up{D D':aC}{v:Value}{t:aY}(h:iJ D v t)(hl:Le D D'):iJ D' v t:=by
 obtain⟨hv,lv,mv,e,h1,h2,h3⟩:=h;exact⟨hv,lv,mv,e,h1.up Z7.up hl,h2.up RI.up hl,h3.up KX.up hl⟩
namespace C3
open C1 (gW bX)
structure gI where
 kind:Int
 chair:Int
 token:Int
deriving DecidableEq
structure Cn where
 after:Int
 lo:Int
 hi:Int
deriving DecidableEq
structure bA where
 chairs:Int
 coin:Int
 box:Int
 lines:List gI
 counts:List Cn
def wO(n:Int)(l:gI):Bool:=gW l.kind 0 2&&gW l.chair (-1) (n-1)&&gW l.token (-1) (n-1)
def qV(len:Int)(c:Cn):Bool:=gW c.after 0 len&&decide (0≤c.lo)&&decide (c.lo≤c.hi)&&decide (c.hi≤2000)
def fF(sign none lo hi:Int):List Int:=if sign≠none then [sign]else(List.range (hi+1-lo).toNat).map fun i:Nat=>lo+(i:Int)
def dH(n:Int)(l:gI):List gI:=(fF l.kind 0 1 2).flatMap fun k=>(fF l.chair (-1) 0 (n-1)).flatMap fun c=>(fF l.token (-1) 0 (n-1)).map fun t=>⟨k,c,t⟩
def E9(n:Int)(ls:List gI):Int:=ls.foldl (fun m l=>min (m*(dH n l).length) 4097) 1
def uU(b:bA):Bool:=gW b.chairs 1 4&&gW b.coin 1 99&&gW b.box 0 999&&b.lines.all (wO b.chairs)&&b.counts.all (qV b.lines.length)
def aV(b:bA):Int:=if 8<b.lines.length∨4<b.counts.length then 3 else if uU b=false then 1 else if 4096<E9 b.chairs b.lines then 3 else 0
structure Sc where
 ch:List Int
 tk:List Int
 money:Int
 mixed:Int
deriving DecidableEq
def pA(s:Sc):List Int:=s.ch++s.tk++[s.money,s.mixed]
def nA(l:List Int)(i:Int):Int:=l.getD i.toNat 0
def kO(s:Sc)(l:gI):Bool:=(decide (nA s.ch l.chair≠0)==decide (l.kind=2))&&(decide (nA s.tk l.token≠0)==decide (l.kind=2))
def eV(b:bA)(s:Sc)(i:Int)(l:gI):Sc:=
 if l.kind=2 then⟨s.ch.set l.chair.toNat 0,s.tk.set l.token.toNat 0,s.money-b.coin,if nA s.ch l.chair≠nA s.tk l.token then s.mixed+1 else s.mixed⟩
 else⟨s.ch.set l.chair.toNat (i+1),s.tk.set l.token.toNat (i+1),s.money+b.coin,s.mixed⟩
def gD(b:bA)(s:Sc)(after:Int):Bool:=b.counts.all fun c=>decide (c.after≠after)||gW s.money c.lo c.hi
def fT(b:bA):Sc:=⟨[0,0,0,0],[0,0,0,0],b.box,0⟩
def yX(b:bA):List gI→Nat→Sc→List (List gI×List Sc)
 | [],i,s=>if gD b s i=true then [([],[s])]else []
 |l::ls,i,s=>if gD b s i=true then(dH b.chairs l).flatMap fun r=>if kO s r=true then(yX b ls (i+1) (eV b s i r)).map fun x=>(r::x.1,s::x.2)else []else []
def truths(b:bA):List (List gI×List Sc):=yX b b.lines 0 (fT b)
def yV(b:bA)(fine:Bool):Int:=if aV b≠0 then aV b else if fine=false then 2 else if truths b=[]then 11 else 0
def aUQ(ss:List Sc)(k:Nat):Sc:=ss.getD k ⟨[],[],0,0⟩
end C3
open C1 C3
def tN:Rd gI:=fun _ l cs=>cs=[qI l.kind,qI l.chair,qI l.token]
theorem tN.up:tN.Up:=fun _ _ _ h=>h
def wC:Rd Cn:=fun _ c cs=>cs=[qI c.after,qI c.lo,qI c.hi]
theorem wC.up:wC.Up:=fun _ _ _ h=>h
def NK(l:gI):Value:=.agg #[qI l.kind,qI l.chair,qI l.token]
def aUA(c:Cn):Value:=.agg #[qI c.after,qI c.lo,qI c.hi]
def gL(D:aC)(v:Value)(b:bA):Prop:=∃lv cv,v=.agg #[qI b.chairs,qI b.coin,qI b.box,lv,cv]∧Sl D tN 3 lv b.lines∧Sl D wC 3 cv b.counts
theorem gL.up{D D':aC}{v:Value}{b:bA}(h:gL D v b)(hl:Le D D'):gL D' v b:=by
 obtain⟨lv,cv,e,h1,h2⟩:=h;exact⟨lv,cv,e,h1.up tN.up hl,h2.up wC.up hl⟩
def QL(s:Sc):Value:=.agg (ints (pA s)).toArray
def NU:Rd Sc:=fun _ s cs=>cs=ints (pA s)
theorem NU.up:NU.Up:=fun _ _ _ h=>h
end Go.Fs
namespace Go.Fs.C3
open C1 (gW bX)

theorem XN{sign none lo hi x:Int}:x∈fF sign none lo hi ↔ (sign≠none∧x=sign)∨(sign=none∧lo≤x∧x≤hi):=by
 unfold fF;by_cases h:sign=none
 ·rw[aZB Yao,GT];constructor
  ·rintro⟨i,hi',rfl⟩;have:=bBF.1 hi';exact aYZ ⟨h,by omega,by omega⟩
  ·rintro(⟨h1,_⟩|⟨_,h1,h2⟩)
   ·exact absurd h h1
   ·exact⟨(x-lo).toNat,bBF.2 Yd,by omega⟩
 ·rw[aZK h];simp[h]
def TG(l x:gI):Bool:=(decide (l.kind=0)||decide (l.kind=x.kind))&&(decide (l.chair<0)||decide (l.chair=x.chair))&&(decide (l.token<0)||decide (l.token=x.token))
def aSP(n:Int)(x:gI):Prop:=(x.kind=1∨x.kind=2)∧0≤x.chair∧x.chair<n∧0≤x.token∧x.token<n
theorem K3{n:Int}{l x:gI}(hl:wO n l=true):x∈dH n l ↔ aSP n x∧TG l x=true:=by
 unfold wO at hl;simp only[aYT,bX]at hl;unfold dH aSP TG;simp only[bDK,GT,XN,aYT,bAD,aZI];constructor
 ·rintro⟨k,hk,c,hc,t,ht,rfl⟩;simp only;omega
 ·rintro⟨⟨h1,h2,h3,h4,h5⟩,⟨G,I⟩,M⟩;refine⟨x.kind,by omega,x.chair,by omega,x.token,by omega,rfl⟩
structure NF(b:bA)(s:Sc):Prop where
 lc:s.ch.length=4
 lt:s.tk.length=4
 pc:∀x∈s.ch,0≤x∧x≤8
 pt:∀x∈s.tk,0≤x∧x≤8
def FE(l:List Int):Int:=((l.filter fun x=>decide (x≠0)).length:Int)
def lU(b:bA):List gI→Nat→Sc→Bool
 | [],i,s=>gD b s i
 |l::ls,i,s=>gD b s i&&(dH b.chairs l).any fun r=>kO s r&&lU b ls (i+1) (eV b s i r)
theorem ST{α β:Type}{l:List α}{f:α→List β}:l.flatMap f≠[] ↔∃x∈l,f x≠[]:=by
 rw[Ne,List.flatMap_eq_nil_iff];simp
theorem KI(b:bA):∀(ls:List gI) (i:Nat) (s:Sc),lU b ls i s=true ↔ yX b ls i s≠[]
 | [],i,s=>by
  unfold lU yX;cases gD b s i<;>simp
 |l::ls,i,s=>by
  unfold lU yX;cases gD b s i with
  |false=>simp
  |true=>
   rw[bCR,bDW,aZK rfl,ST];refine exists_congr fun r=>and_congr_right fun _=>?_
   rw[aYT,KI b ls];cases kO s r<;>simp
theorem zG(b:bA):lU b b.lines 0 (fT b)=decide (truths b≠[]):=by
 rw[bCG,KI,aZI];rfl

def xU(l:List Int):List Int:=l.map fun x=>min x 1
theorem LZ(l:List Int):(xU l).length=l.length:=bAY _
theorem Q3(l:List Int)(k:Nat)(x:Int):xU (l.set k x)=(xU l).set k (min x 1):=List.map_set
theorem A1{l:List Int}(h:∀x∈l,0≤x)(c:Int):(nA l c≠0) ↔ nA (xU l) c≠0:=by
 unfold nA xU;rw[bAQ,bAQ,aZT];cases e:l[c.toNat]? with
 |none=>simp
 |some x=>
  have:=h x (LE e);simp only[aZX,bCH];omega
structure aXY(s s':Sc):Prop where
 ch:xU s.ch=xU s'.ch
 tk:xU s.tk=xU s'.tk
 money:s.money=s'.money
structure aDG(s:Sc):Prop where
 ch:∀x∈s.ch,0≤x
 tk:∀x∈s.tk,0≤x
theorem aRM{s s':Sc}(h:aXY s s')(hp:aDG s)(hp':aDG s')(l:gI):kO s l=kO s' l:=by
 unfold kO;have G:decide (nA s.ch l.chair≠0)=decide (nA s'.ch l.chair≠0):=decide_eq_decide.2 (by rw[A1 hp.ch,A1 hp'.ch,h.ch]);have I:decide (nA s.tk l.token≠0)=decide (nA s'.tk l.token≠0):=decide_eq_decide.2 (by rw[A1 hp.tk,A1 hp'.tk,h.tk]);rw[G,I]
theorem aEI{b:bA}{s s':Sc}(h:aXY s s')(i:Nat)(l:gI):aXY (eV b s i l) (eV b s' i l):=by
 unfold eV;split
 ·exact⟨by simp only[Q3,h.ch],by simp only[Q3,h.tk],by simp only[h.money]⟩
 ·exact⟨by simp only[Q3,h.ch],by simp only[Q3,h.tk],by simp only[h.money]⟩
theorem Z9{l:List Int}(h:∀x∈l,0≤x)(k:Nat){y:Int}(hy:0≤y):∀x∈l.set k y,0≤x:=fun x hx=>by
 rcases bDB hx with hx|rfl
 ·exact h x hx
 ·exact hy
theorem m9{b:bA}{s:Sc}(h:aDG s)(i:Nat)(l:gI):aDG (eV b s i l):=by
 unfold eV;split
 ·exact⟨Z9 h.ch _ Yd,Z9 h.tk _ Yd⟩
 ·exact⟨Z9 h.ch _ Yd,Z9 h.tk _ Yd⟩
theorem ML(b:bA):∀(ls:List gI) (i:Nat) (s s':Sc),aXY s s'→aDG s→aDG s'→lU b ls i s=lU b ls i s'
 | [],i,s,s',h,_,_=>by unfold lU gD;rw[h.money]
 |l::ls,i,s,s',h,hp,hp'=>by
  unfold lU;have e:gD b s i=gD b s' i:=by unfold gD;rw[h.money]
  rw[e];congr 1;refine aYY _ (funext fun r=>?_);rw[aRM h hp hp',ML b ls (i+1) _ _ (aEI h i r) (m9 hp i r) (m9 hp' i r)]

theorem LP{l:List Int}{k:Nat}(hk:k<l.length)(y:Int):FE (l.set k y)=FE l-(if l.getD k 0≠0 then 1 else 0)+(if y≠0 then 1 else 0):=by
 induction l generalizing k with
 |nil=>simp at hk
 |cons x l ih=>
  cases k with
  |zero=>
   unfold FE;simp only[List.set_cons_zero,bCI,List.getD_cons_zero,aZI];split<;>split<;>simp<;>omega
  |succ k=>
   have:=ih (k:=k) (by simpa using hk);unfold FE at this ⊢
   simp only[List.set_cons_succ,bCI,List.getD_cons_succ];split
   ·simp only[aYW];push_cast;omega
   ·exact this
def l6(b:bA)(s:Sc):Prop:=s.money=b.box+b.coin*FE s.ch
theorem ZQ{l m:List Int}(h:xU l=xU m)(hl:∀x∈l,0≤x)(hm:∀x∈m,0≤x):FE l=FE m:=by
 induction l generalizing m with
 |nil=>
  cases m with
  |nil=>rfl
  |cons y m=>simp[xU]at h
 |cons x l ih=>
  cases m with
  |nil=>simp[xU]at h
  |cons y m=>
   simp only[xU,aZR,bAT]at h;have:=ih h.2 (fun x hx=>hl x (n5 _ hx)) fun x hx=>hm x (n5 _ hx)
   have h1:=hl x LT;have h2:=hm y LT;unfold FE at this ⊢
   simp only[bCI,aZI];have e:x≠0 ↔ y≠0:=by have:=h.1;omega
   by_cases hx:x≠0
   ·rw[aZK hx,aZK (e.1 hx)];simp only[aYW];push_cast;omega
   ·rw[aZB hx,aZB fun hy=>hx (e.2 hy)];exact this
theorem aGB{b:bA}{s:Sc}(h:l6 b s)(h4:s.ch.length=4){i:Nat}{l:gI}(hc:kO s l=true)(h0:0≤l.chair)(h1:l.chair<4):l6 b (eV b s i l):=by
 unfold kO at hc;simp only[aYT,bDR,decide_eq_decide]at hc;have hk:l.chair.toNat<s.ch.length:=by omega
 unfold l6 at h ⊢
 unfold eV;have hg:s.ch.getD l.chair.toNat 0=nA s.ch l.chair:=rfl;by_cases e:l.kind=2
 ·rw[aZK e];simp only;rw[LP hk,hg,aZK (hc.1.2 e),aZB Yd,h,Int.mul_add,Int.mul_sub];omega
 ·rw[aZB e];simp only;rw[LP hk,hg,aZB fun hh=>e (hc.1.1 hh),aZK Yd,h,Int.mul_add,Int.mul_sub];omega
theorem V3(b:bA):l6 b (fT b):=by unfold l6 fT FE;simp
def aIZ(s:Sc)(i:Nat):List Int:=(i:Int)::(xU s.ch++xU s.tk)
theorem aIS{b:bA}{ls:List gI}{i i':Nat}{s s':Sc}(e:aIZ s i=aIZ s' i')(h:l6 b s)(h':l6 b s')(hp:aDG s)(hp':aDG s')(h4:s.ch.length=4)(h4':s'.ch.length=4):i=i'∧lU b ls i s=lU b ls i' s':=by
 unfold aIZ at e;rw[bAT]at e;obtain⟨O,I⟩:=e;obtain⟨G,M⟩:=List.append_inj I (by rw[LZ,LZ];omega)
 have hi:i=i':=by omega
 subst hi;refine⟨rfl,ML b ls i s s' ⟨G,M,?_⟩ hp hp'⟩;unfold l6 at h h';rw[h,h',ZQ G hp.ch hp'.ch]
end Go.Fs.C3
namespace Go.Fs
variable{P:Program}{X:Cx}{γb:Type}[Membership Nat γb]{bad:γb}{all:Array Oper}{K:Act→World→Prop}{Q:Exit→Act→World→Prop}
variable{σ:bO}{μ:aD}{Ds:List aC}{os:List (Bool×Nat)}{fl:Bool}{ix:Nat}
variable{d:Nat}{x y z:Operand}{u v:Value}{ty:TypeId}{pos:String}{aft:Array Edge}{g:Option (Nat×Bool)}
variable{k':IntKind}{m n:Nat}{t t':TypeId}
def tB(m n:Nat):Nat:=m ^^^ (m&&&n)
theorem i6(m n i:Nat):(tB m n).testBit i=(m.testBit i&& !n.testBit i):=by
 unfold tB;rw[Nat.testBit_xor,Nat.testBit_and];cases m.testBit i<;>cases n.testBit i<;>rfl
theorem J5(m n:Nat):tB m n≤m:=by
 apply Nat.le_of_testBit;intro i hi;rw[i6]at hi;simp at hi;exact hi.1
theorem vF{m:Nat}(h:m<9223372036854775808):(BitVec.ofInt IntKind.i64.bits (m:Int)).toNat=m:=by
 rw[BitVec.ofInt_natCast,BitVec.toNat_ofNat];exact Nat.mod_eq_of_lt (by show m<2^64;omega)
theorem aUB{m n:Nat}(h:m<9223372036854775808):m&&&n<9223372036854775808:=Nat.lt_of_le_of_lt Nat.and_le_left h
theorem aWW{m n:Nat}(h:m<9223372036854775808)(h':n<9223372036854775808):m|||n<9223372036854775808:=Nat.or_lt_two_pow (n:=63) h h'
theorem aVX(ho:all[ix]?= some ⟨some d,.binOp .and t x y t',ty,pos,aft,g⟩)(hx:ev σ x=some (qI (m:Int)))(hy:ev σ y=some (qI (n:Int)))(hm:m<9223372036854775808)(hn:n<9223372036854775808)(hN:Nat.blt d X.N=true)(hg:dE all σ g)
  (kk:WL P X bad all K Q os ((d,qI ((m&&&n:Nat):Int))::σ) μ Ds):WL P X bad all K Q ((fl,ix)::os) σ μ Ds:=
 bQ ho rfl rfl hN hg (fun ρ hρ w'=>lF Ye (by
  have e:(BitVec.ofInt IntKind.i64.bits (m:Int)&&&BitVec.ofInt IntKind.i64.bits (n:Int)).toNat=m&&&n:=by rw[BitVec.toNat_and,vF hm,vF hn]
  have h2:=aUB (n:=n) hm;have h3:uN .i64 ((m&&&n:Nat):Int):=by simp only[uN];omega
  simp only[binOp,ne_eq,not_true_eq_false,bBH,Op.intBits,e,rM h3];rfl) (hρ x _ hx) (hρ y _ hy)) kk
theorem UH(ho:all[ix]?= some ⟨some d,.binOp .or t x y t',ty,pos,aft,g⟩)(hx:ev σ x=some (qI (m:Int)))(hy:ev σ y=some (qI (n:Int)))(hm:m<9223372036854775808)(hn:n<9223372036854775808)(hN:Nat.blt d X.N=true)(hg:dE all σ g)
  (kk:WL P X bad all K Q os ((d,qI ((m|||n:Nat):Int))::σ) μ Ds):WL P X bad all K Q ((fl,ix)::os) σ μ Ds:=
 bQ ho rfl rfl hN hg (fun ρ hρ w'=>lF Ye (by
  have e:(BitVec.ofInt IntKind.i64.bits (m:Int)|||BitVec.ofInt IntKind.i64.bits (n:Int)).toNat=m|||n:=by rw[BitVec.toNat_or,vF hm,vF hn]
  have h2:=aWW hm hn;have h3:uN .i64 ((m|||n:Nat):Int):=by simp only[uN];omega
  simp only[binOp,ne_eq,not_true_eq_false,bBH,Op.intBits,e,rM h3];rfl) (hρ x _ hx) (hρ y _ hy)) kk
theorem aIN(ho:all[ix]?= some ⟨some d,.binOp .andNot t x y t',ty,pos,aft,g⟩)(hx:ev σ x=some (qI (m:Int)))(hy:ev σ y=some (qI (n:Int)))(hm:m<9223372036854775808)(hn:n<9223372036854775808)(hN:Nat.blt d X.N=true)(hg:dE all σ g)
  (kk:WL P X bad all K Q os ((d,qI ((tB m n:Nat):Int))::σ) μ Ds):WL P X bad all K Q ((fl,ix)::os) σ μ Ds:=
 bQ ho rfl rfl hN hg (fun ρ hρ w'=>lF Ye (by
  have e:(BitVec.ofInt IntKind.i64.bits (m:Int)&&& ~~~ BitVec.ofInt IntKind.i64.bits (n:Int)).toNat=tB m n:=by
   apply Nat.eq_of_testBit_eq;intro i;rw[i6,BitVec.testBit_toNat,BitVec.getLsbD_and,BitVec.getLsbD_not,←BitVec.testBit_toNat,←BitVec.testBit_toNat,vF hm,vF hn];by_cases hi:i<IntKind.i64.bits
   ·simp[hi]
   ·have:m.testBit i=false:=Nat.testBit_lt_two_pow (bBC hm (bBE (show 9223372036854775808≤2^64 by decide) (bCE Yy (show 64≤i from Nat.le_of_not_lt hi))));simp[this]
  have h2:=J5 m n;have h3:uN .i64 ((tB m n:Nat):Int):=by simp only[uN];omega
  simp only[binOp,ne_eq,not_true_eq_false,bBH,Op.intBits,e,rM h3];rfl) (hρ x _ hx) (hρ y _ hy)) kk
theorem PW{a b:Int}(ho:all[ix]?= some ⟨some d,.binOp .or t x y t',ty,pos,aft,g⟩)(hx:ev σ x=some (qI a))(hy:ev σ y=some (qI b))(ha:0≤a∧a≤1)(hb:0≤b∧b≤1)(hN:Nat.blt d X.N=true)(hg:dE all σ g)
  (kk:WL P X bad all K Q os ((d,qI (max a b))::σ) μ Ds):WL P X bad all K Q ((fl,ix)::os) σ μ Ds:=by
 have h1:a=((a.toNat:Nat):Int):=by omega
 have h2:b=((b.toNat:Nat):Int):=by omega
 have h3:max a b=((a.toNat|||b.toNat:Nat):Int):=by
  have ha':a=0∨a=1:=by omega
  have hb':b=0∨b=1:=by omega
  rcases ha' with rfl|rfl<;>rcases hb' with rfl|rfl<;>decide
 rw[h3]at kk;rw[h1]at hx;rw[h2]at hy;exact UH ho hx hy Yd Yd hN hg kk
theorem aSH{k:IntKind}{a:Int}(ho:all[ix]?= some ⟨some d,.unOp .neg t x,ty,pos,aft,g⟩)(hx:ev σ x=some (.int k a))(hr:uN k (-a))(hN:Nat.blt d X.N=true)(hg:dE all σ g)
  (kk:WL P X bad all K Q os ((d,.int k (-a))::σ) μ Ds):WL P X bad all K Q ((fl,ix)::os) σ μ Ds:=
 bQ ho rfl rfl hN hg (fun ρ hρ w'=>by
  have h2:(0:Int)-a= -a:=by omega
  simp only[execOp,hρ x _ hx,Op.unary,Op.intArith,h2,rM hr];rfl) kk
theorem AI{t e:TypeId}{n sz:Nat}{parts:Array (Nat×Operand)}{us:List (Nat×Value)}{zs cs:List Value}(ho:all[ix]?= some ⟨some d,.build t parts,ty,pos,aft,g⟩)(ht:P.underlying t=some (.array n e))(hs:TS P e sz)(hz:TZ P t (.agg zs.toArray))(hu:BQ σ parts.toList=some us)
  (hf:Instr.fill (fun i=>some (i*sz,sz)) zs.toArray us=some cs.toArray) (hN:Nat.blt d X.N=true) (hg:dE all σ g) (kk:WL P X bad all K Q os ((d,.agg cs.toArray)::σ) μ Ds):WL P X bad all K Q ((fl,ix)::os) σ μ Ds:=
 bQ ho rfl rfl hN hg (fun ρ hρ w'=>by
  have e:(parts.map fun(i,x)=>(i,ρ x)).toList=us:=by rw[←B8 hρ hu];simp
  simp only[execOp,Instr.build,Sem.run_bind,hz w',Result.andThen_ok,TU.of ht w',hs w',Value.cells,e,hf,Sem.run_pure]) kk
theorem ZZ{op:BinOp}(he:op=.shl∨op=.shr){k:IntKind}{a b:Int}{w:World}{r:Value}(h:(Op.shift op k a k' b).run P w=.ok r w){ρ:Operand→Value}(hx:ρ x=.int k a)(hy:ρ y=.int k' b):
  (execOp ρ ⟨some d,.binOp op t x y t',ty,pos,aft,g⟩).run P w=.ok (.value r) w:=by
 rcases he with rfl|rfl<;>simp[execOp,hx,hy,binOp,h,go_sem]
theorem s4(ho:all[ix]?= some ⟨some d,.binOp .shr t x y t',ty,pos,aft,g⟩)(hx:ev σ x=some (qI (m:Int)))(hy:ev σ y=some (.int k' (n:Int)))(hn:n≤62)(hN:Nat.blt d X.N=true)(hg:dE all σ g)
  (kk:WL P X bad all K Q os ((d,qI ((m >>> n:Nat):Int))::σ) μ Ds):WL P X bad all K Q ((fl,ix)::os) σ μ Ds:=
 bQ ho rfl rfl hN hg (fun ρ hρ w'=>ZZ (aYZ rfl) (by
  have h1:¬((n:Int)<0):=by omega
  have h2:min (n:Int).toNat IntKind.i64.bits=n:=by rw[bAK];exact bCW (bBE hn Yy)
  have h3:(m:Int).fdiv (2^n)=((m >>> n:Nat):Int):=by
   rw[Nat.shiftRight_eq_div_pow,Int.fdiv_eq_ediv_of_nonneg _ (by exact_mod_cast Nat.zero_le (2^n))];simp
  simp only[Op.shift,h1,bBH,h2,h3];rfl) (hρ x _ hx) (hρ y _ hy)) kk
theorem nG(m n:Nat):((m >>> n:Nat):Int)%2=if m.testBit n then 1 else 0:=by
 rw[Nat.testBit,Nat.one_and_eq_mod_two];have:=Nat.mod_two_eq_zero_or_one (m >>> n);rcases this with h|h
 ·have:((m >>> n:Nat):Int)%2=0:=by omega
  rw[this];simp[h]
 ·have:((m >>> n:Nat):Int)%2=1:=by omega
  rw[this];simp[h]
namespace C7
structure Pt where
 a:Int
 b:Int
 c:Int
deriving DecidableEq
structure Ch where
 size:Int
 parts:Pt
structure bC where
 chairs:List Ch
 fit:Int
 claims:List (Int×Int)
def Pt.l(p:Pt):List Int:=[p.a,p.b,p.c]
def gW(n lo hi:Int):Bool:=decide (lo≤n)&&decide (n≤hi)
theorem bX{n lo hi:Int}:gW n lo hi=true ↔ lo≤n∧n≤hi:=by simp[gW]
def TB(p:Pt)(m:Int):Bool:=p.l.all fun n=>gW n 0 m
def kC(c:Ch):Bool:=gW c.size 0 9&&TB c.parts 2
def oH(r:Int×Int):Bool:=(decide (0≤r.1)&&decide (r.1≤r.2))&&decide (r.2≤7)
def aTG(p:Pt):Nat:=(p.l.filter fun n=>decide (n=2)).length
def lB(l:List Ch):Nat:=(l.map fun c=>aTG c.parts).sum
def G8(y:bC):Bool:=(gW y.fit 0 9&&y.chairs.all kC)&&y.claims.all oH
def aV(y:bC):Int:=if 7<y.chairs.length∨5<y.claims.length then 3 else if G8 y=false then 1 else if 8<lB y.chairs then 3 else 0
def J8(n t:Int):Bool:=gW t 0 1&&(decide (n=2)||decide (t=n))
def IV(p t:Pt):Bool:=(p.l.zip t.l).all fun x=>J8 x.1 x.2
def kZ(y:bC)(t:List Pt):Bool:=decide (t.length=y.chairs.length)&&(y.chairs.zip t).all fun x=>IV x.1.parts x.2
def lG(p:Pt):Bool:=decide (p=⟨1,1,1⟩)
def whole(t:List Pt):Nat:=(t.filter lG).length
end C7
open C7
def aXW(p:Pt):Value:=.agg #[qI p.a,qI p.b,qI p.c]
def aWG(c:Ch):Value:=.agg #[qI c.size,qI c.parts.a,qI c.parts.b,qI c.parts.c]
def RP:Rd Pt:=fun _ p cs=>cs=[qI p.a,qI p.b,qI p.c]
theorem RP.up:RP.Up:=fun _ _ _ h=>h
def wZ:Rd Ch:=fun _ c cs=>cs=[qI c.size,qI c.parts.a,qI c.parts.b,qI c.parts.c]
theorem wZ.up:wZ.Up:=fun _ _ _ h=>h
def R2:Rd (Int×Int):=fun _ p cs=>cs=[qI p.1,qI p.2]
theorem R2.up:R2.Up:=fun _ _ _ h=>h
def nM(D:aC)(v:Value)(y:bC):Prop:=∃cv rv,v=.agg #[cv,qI y.fit,rv]∧Sl D wZ 4 cv y.chairs∧Sl D R2 2 rv y.claims
theorem nM.up{D D':aC}{v:Value}{y:bC}(h:nM D v y)(hl:Le D D'):nM D' v y:=by
 obtain⟨cv,rv,hv,hc,hr⟩:=h;exact⟨cv,rv,hv,hc.up wZ.up hl,hr.up R2.up hl⟩
abbrev aD.ks(μ:aD):List Nat:=μ.map fun p=>p.1
def AN(P:Program)(f:FuncId)(args:List Value)(D:aC)(ν:aD)(post:aC→Value→aD→Prop):Prop:=
 EF P f∧∀w,eX D w→(∀p∈ν,w.heap[p.1]?= some p.2∧D p.1=[]∧dB p.2)→ν.ks.Nodup→Calls P f args.toArray w fun e w'=>∃v D' ν',e=.returned v∧ν'.ks=ν.ks∧iD (hd w) w.heap.size D ν.ks ν' D' w'∧post D' v ν'
theorem iD.afterM{h0:H0}{lo:Nat}{D0 D D':aC}{mods:List Nat}{A B ν ν':aD}{w w':World}(h:iD h0 lo D0 mods (A++ν++B) D w)(hk:ν'.ks=ν.ks)(hs:iD (hd w) w.heap.size D ν.ks ν' D' w'):iD h0 lo D0 mods (A++ν'++B) D' w':=by
 have hle:=bBE h.hlo h.size;have hin:∀c∈ν.ks,∃o,(c,o)∈ν:=fun c hc=>by
  obtain⟨p,hp,rfl⟩:=GT.1 hc;exact⟨p.2,hp⟩
 have hbx:∀p∈ν,_:=fun p hp=>h.box p (aYX _ (GE _ hp))
 have hnd:=h.nd;simp only[aZH]at hnd;have keys:(A++ν'++B).map (fun p=>p.1)=(A++ν++B).map (fun p=>p.1):=by
  simp only[aZH];rw[show ν'.map (fun p=>p.1)=ν.map (fun p=>p.1)from hk]
 refine⟨h.hlo,bBE h.size hs.size,fun c hc hm=>?_,fun c hc=>?_,hs.agr,fun p hp=>?_,by rw[keys];exact h.nd,fun p hp=>?_,fun e he=>(hs.env _ rfl).trans (h.env e he)⟩
 ·have hne:c∉ν.ks:=by
   intro hcm;obtain⟨o,ho⟩:=hin c hcm;rcases(hbx _ ho).2.2 with h'|h'
   ·have:=h.hlo;simp at h';omega
   ·exact hm h'
  rw[hs.old c (bBC hc hle) hne];exact h.old c hc hm
 ·rw[hs.dold c (bBC hc hle)];exact h.dold c hc
 ·rcases aZF.1 hp with hp|hp
  ·rcases aZF.1 hp with hp|hp
   ·obtain⟨h1,h2,h3⟩:=h.box p (aYX _ (aYX _ hp));have hl:=bH h1;have hne:p.1∉ν.ks:=fun hm=>(aZC.1 (aZC.1 hnd).1).2.2 p.1 (GT.2 ⟨p,hp,rfl⟩) p.1 hm rfl
    exact⟨by rw[hs.old _ hl hne];exact h1,by rw[hs.dold _ hl];exact h2,h3⟩
   ·obtain⟨q1,q2,_⟩:=hs.box p hp;have hm:p.1∈ν.ks:=by rw[←hk];exact GT.2 ⟨p,hp,rfl⟩
    obtain⟨o,ho⟩:=hin p.1 hm;exact⟨q1,q2,(hbx _ ho).2.2⟩
  ·obtain⟨h1,h2,h3⟩:=h.box p (GE _ hp);have hl:=bH h1;have hne:p.1∉ν.ks:=fun hm=>(aZC.1 hnd).2.2 p.1 (GE _ hm) p.1 (GT.2 ⟨p,hp,rfl⟩) rfl
   exact⟨by rw[hs.old _ hl hne];exact h1,by rw[hs.dold _ hl];exact h2,h3⟩
 ·rcases aZF.1 hp with hp|hp
  ·rcases aZF.1 hp with hp|hp
   ·exact h.fz p (aYX _ (aYX _ hp))
   ·exact hs.fz p hp
  ·exact h.fz p (GE _ hp)
theorem fK{c:Operand}{xs:Array Operand}{ats:Array TypeId}{f:FuncId}{c1 c2:List Value}{vs:List Value}{A B ν:aD}{post:aC→Value→aD→Prop}(ho:all[ix]?= some ⟨some d,.call {callee:=.value c,args:=xs,argTypes:=ats},ty,pos,aft,g⟩)(hc:ev σ c=some (.func (.func f) c1.toArray c2.toArray))(hxs:X7 σ xs.toList=some vs)
  (hex:X.ex=none) (hfl:fl=false∨∀p∈ν,p.1∈bad) (hu:∀p∈ν,dB p.2) (hf:∀D,(∀D₁∈Ds,Le D₁ D)→AN P f (c1++vs++c2) D ν post) (hN:Nat.blt d X.N=true) (hg:dE all σ g)
  (kk:∀v D ν',(∀D₁∈Ds,Le D₁ D)→post D v ν'→WL P X bad all K Q os ((d,v)::σ) (A++ν'++B) (D::Ds)):
  WL P X bad all K Q ((fl,ix)::os) σ (A++ν++B) Ds:=by
 refine eZ ho rfl rfl hg fun a w hh=>?_
 obtain⟨h1,h2,h3,D,h4,h5,G⟩:=id hh;have hF:=hf D h5;have hbx:∀p∈ν,_:=fun p hp=>h4.box p (aYX _ (GE _ hp))
 have hnd:=h4.nd;simp only[aZH]at hnd;rw[vC hF.1 (hh.eval hc) (kP (fun _ _ hx=>hh.eval hx) hxs)];refine⟨fun h=>by simp[FW]at h,dP.2 ((hF.2 w h4.agr (fun p hp=>⟨(hbx p hp).1,(hbx p hp).2.1,hu p hp⟩) (aZC.1 (aZC.1 hnd).1).2.1).mono ?_)⟩;rintro e w' ⟨v,D',ν',rfl,hk,hs,hpost⟩;have hle:=gH h4.agr hs;refine⟨fun hflt=>⟨hs.size,fun c hc hcb=>hs.old c hc (fun hm=>?_)⟩,kk v D' ν' (fun D₁ hD₁=>(h5 D₁ hD₁).trans hle) hpost _ _ ?_⟩
 ·obtain⟨p,hp,rfl⟩:=GT.1 hm;rcases hfl with h|h
  ·rw[hflt]at h;cases h
  ·exact hcb (h p hp)
 ·refine Hl.put ⟨h1,h2,h3,D',h4.afterM hk hs,fun D₁ hD₁=>?_,by unfold C4;rw[hex];trivial⟩ hN v;rcases n4.1 hD₁ with rfl|hD₁
  ·exact Le.refl _
  ·exact(h5 D₁ hD₁).trans hle
theorem AC{c:Operand}{xs:Array Operand}{ats:Array TypeId}{f:FuncId}{c1 c2:List Value}{vs:List Value}{A ν:aD}{post:aC→Value→aD→Prop}(ho:all[ix]?= some ⟨some d,.call {callee:=.value c,args:=xs,argTypes:=ats},ty,pos,aft,g⟩)(hc:ev σ c=some (.func (.func f) c1.toArray c2.toArray))(hxs:X7 σ xs.toList=some vs)
  (hex:X.ex=none) (hfl:fl=false∨∀p∈ν,p.1∈bad) (hu:∀p∈ν,dB p.2) (hf:∀D,(∀D₁∈Ds,Le D₁ D)→AN P f (c1++vs++c2) D ν post) (hN:Nat.blt d X.N=true) (hg:dE all σ g)
  (kk:∀v D ν',(∀D₁∈Ds,Le D₁ D)→post D v ν'→WL P X bad all K Q os ((d,v)::σ) (A++ν') (D::Ds)):
  WL P X bad all K Q ((fl,ix)::os) σ (A++ν) Ds:=by
 have:=fK (A:=A) (B:=[]) ho hc hxs hex hfl hu hf hN hg (fun v D ν' h1 h2=>by rw[aZA];exact kk v D ν' h1 h2)
 rwa [aZA]at this
def lP(X:Cx)(ks:List Nat)(post:aC→Value→aD→Prop):Ending→World→Prop:=fun e w'=>∃v D' ν',e=.returned v∧ν'.ks=ks∧iD X.h0 X.lo X.D0 X.mods ν' D' w'∧post D' v ν'
theorem jA{fn:Func}{ks:List Nat}{post:aC→Value→aD→Prop}:NP (bodyPost P fn (lP X ks post)):=by
 rintro c a w ⟨_,v,D',μ',h,_⟩;cases h
def qR(N:Nat)(h0:H0)(D:aC)(ks:List Nat):Cx:=⟨none,N,[],h0,h0.size,D,ks,none⟩
theorem iL{f:FuncId}{fn:Func}{c:Code}{args:List Value}{D:aC}{ν:aD}{post:aC→Value→aD→Prop}(N:Nat)(hf:P.funcs[f]?= some fn)(hn:(fn.name== "runtime.NumGoroutine")=false)(hb:fn.body=some c)(hN:fn.ntmps=N)(hsz:Nat.ble args.length N=true)
  (h:∀h0:H0,(∀p∈ν,p.1<h0.size)→ν.ks.Nodup→WC P (qR N h0 D ν.ks) (bodyPost P fn (lP (qR N h0 D ν.ks) ν.ks post)) c (iS 0 args) ν [D]):AN P f args D ν post:=by
 refine⟨EF.of hf hn hb,fun w hw hν hnd=>?_⟩;subst hN;have hsz:=bAZ hsz;refine(dP (r:=none) (n:=0)).1 ((callsIn_of_wp (R:=lP (qR fn.ntmps (hd w) D ν.ks) ν.ks post) hf hb bDY (h (hd w) (fun p hp=>bH (hν p hp).1) hnd _ w ⟨?_,fun s v hs=>?_,rfl,D,⟨aZL _,aZL _,fun _ _ _=>rfl,fun _ _=>rfl,hw,(fun p hp=>?_),hnd,(fun p hp=>(hν p hp).2.2),fun e he=>aZO he⟩,fun D₁ h1=>?_,bDY⟩) rfl).mono ?_)
 ·simp[qR];omega
 ·obtain⟨_,h2⟩:=fQ args 0 s v hs;have hl:=(aYV.1 h2).1;simp only[bCM]at h2 hl;show(args.toArray++_)[s]?= some v;rw[bBD Yan];simpa using h2
 ·exact⟨(hν p hp).1,(hν p hp).2.1,aYZ (GT.2 ⟨p,hp,rfl⟩)⟩
 ·simp only[aZM]at h1;subst h1;exact Le.refl _
 ·rintro e w' ⟨v,D',ν',rfl,hk,hs,hp⟩;exact⟨v,D',ν',rfl,hk,hs,hp⟩
theorem A6{fn:Func}{ks:List Nat}{A B ν':aD}{post:aC→Value→aD→Prop}{e:Exit}(he:(match e with|.normal=>true|.ret=>true|_=>false)=true){rs:List ResultVar}{vs:List Value}(hds:X.ds=[])(hr:fn.results=rs.toArray)(h:xT P X σ (A++ν'++B) rs vs)
  (hk:ν'.ks=ks) (hp:∀D,(∀D₁∈Ds,Le D₁ D)→post D (qE vs) ν'):∀a w,Hl X σ (A++ν'++B) Ds a w→bodyPost P fn (lP X ks post) e a w:=by
 intro a w hh;have hrun:=iK hh hr h;obtain⟨h1,h2,h3,D,h4,h5,h6⟩:=hh;have hnd:=h4.nd;simp only[aZH]at hnd;have:a.defers=[]∧∃v,(results fn a.tmps).run P w=.ok v w∧lP X ks post (.returned v) w:=⟨h3.trans hds,_,hrun,_,D,ν',rfl,hk,h4.sub (fun p hp=>aYX _ (GE _ hp)) (aZC.1 (aZC.1 hnd).1).2.1,hp D h5⟩
 cases e<;>first|exact this|cases he
theorem _root_.Go.Fs.Zac{fn:Func}{ks:List Nat}(A:aD)(B:aD)(ν':aD){post:aC→Value→aD→Prop}{e:Exit}{rs:List ResultVar}(vs:List Value)(e9:((match e with|.normal=>true|.ret=>true|_=>false),X.ds,fn.results)=(true,[],rs.toArray))(h:xT P X σ (A++ν'++B) rs vs)(hk:ν'.ks=ks)(hp:∀D,(∀D₁∈Ds,Le D₁ D)→post D (qE vs) ν'):∀a w,Hl X σ (A++ν'++B) Ds a w→bodyPost P fn (lP X ks post) e a w:=A6 (A:=A) (B:=B) (ν':=ν') (vs:=vs) (aYY (fun z=>z.1) e9) (aYY (fun z=>z.2.1) e9) (aYY (fun z=>z.2.2) e9) h hk hp
end Go.Fs
