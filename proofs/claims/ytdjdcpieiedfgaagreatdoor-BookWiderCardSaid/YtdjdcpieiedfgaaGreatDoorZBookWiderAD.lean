/- Of the proof of BookWider: Show, ShowT, Lent, Panic, Diary, AW1, AW2, BW1, AW3, AW4. -/
import Derived.Test.YtdjdcpieiedfgaaGreatDoorZBookWiderAC
import Derived.Test.YtdjdcpieiedfgaaGreatDoorZBookWiderAB
namespace Go.Fs
variable{P:Program}{X:Cx}{γb:Type}[Membership Nat γb]{bad:γb}{all:Array Oper}{K:Act→World→Prop}{Q:Exit→Act→World→Prop}
variable{σ:bO}{μ:aD}{Ds:List aC}{os:List (Bool×Nat)}{fl:Bool}{ix:Nat}
variable{d:Nat}{x y z:Operand}{u v:Value}{ty:TypeId}{pos:String}{aft:Array Edge}{g:Option (Nat×Bool)}
def DM(β:List Nat)(D:aC)(w:World)(bo:Nat)(cs:List Value):Prop:=bo∈β∧D bo=[]∧∃e fz,w.heap[bo]?= some (.cells cs.toArray e fz)
def hC(D:aC)(bo:Nat)(cs:List Value):aC:=fun c=>if c=bo then cs else D c
theorem M8{D:aC}{bo:Nat}{cs:List Value}(h:D bo=[])(h0:bo≠0):Le D (hC D bo cs):=⟨fun c=>by
 unfold hC;split
 ·rename_i e;subst e;rw[h];exact bDP
 ·exact List.prefix_refl _,by unfold hC;rw[aZB (Ne.symm h0)]⟩
theorem IG(D:aC)(bo:Nat)(cs:List Value):At (hC D bo cs) bo 0 cs:=fun j v hj=>by unfold hC;simpa using hj
theorem CY{D:aC}{w:World}{bo:Nat}{cs:List Value}{e:TypeId}{fz:Nat×Nat}(h:eX D w)(hb:w.heap[bo]?= some (.cells cs.toArray e fz))(hD:D bo=[]):eX (hC D bo cs) w:=h.of (fun c hc=>by
 unfold hC at hc ⊢
 split
 ·rename_i ec;subst ec;exact⟨_,_,_,hb,List.prefix_refl _⟩
 ·rename_i ec;rw[aZB ec]at hc;exact h.1 c hc) (by unfold hC;rw[aZB (Ne.symm (h.ne0 hD))]) rfl
theorem iD.hide{w w':World}{D D':aC}{mods:List Nat}{μ:aD}{bo:Nat}{cs:List Value}(h:iD (hd w) w.heap.size (hC D bo cs) mods μ D' w')(hD:D bo=[])(G:bo≠0):iD (hd w) w.heap.size D mods μ (hC D' bo []) w':=by
 refine⟨h.hlo,h.size,h.old,fun b hb=>?_,h.agr.of (fun b hb=>?_) (by unfold hC;rw[aZB (Ne.symm G)]) rfl,fun p hp=>?_,h.nd,h.fz,h.env⟩
 ·unfold hC;split
  ·rename_i e;subst e;exact hD.symm
  ·rename_i e;rw[h.dold b hb];unfold hC;rw[aZB e]
 ·unfold hC at hb ⊢
  split
  ·rename_i e;rw[aZK e]at hb;exact absurd rfl hb
  ·rename_i e;rw[aZB e]at hb;exact h.agr.1 b hb
 ·obtain⟨h1,h2,h3⟩:=h.box p hp;refine⟨h1,?_,h3⟩;unfold hC;split
  ·rfl
  ·exact h2
def aSO{α:Type}(P:Program)(f:FuncId)(cap:List Value)(Dr:aC)(xs:List α)(enc:Nat→List Value)(cells:α→List Value):Prop:=
 EF P f∧∀(lo l:Nat) (J Jx:List α→tL),(∀pre,I8 lo (J pre))→(∀pre,I8 lo (Jx pre))→
  (∀pre x β D w bo,(∃r,xs=pre++x::r)→zF lo D w→J pre β D w→(∀b∈β,b<w.heap.size)→Le Dr D→DM β D w bo (cells x)→
   iM P l (enc bo) w fun b D' w'=>zF lo D' w'∧zK β D w D' w'∧(if b then J (pre++[x]) β D' w' else Jx (pre++[x]) β D' w'))→
  ∀D w,zF lo D w→Le Dr D→J [] [] D w→Calls P f (.func (.yield l) #[] #[]::cap).toArray w fun e w'=>∃v D',e=.returned v∧zF lo D' w'∧(J xs [] D' w'∨∃pre,Jx pre [] D' w')
theorem aIC{J J1 J0:tL}{l:Nat}{c:Operand}{xs:Array Operand}{ats:Array TypeId}{vs:List Value}(ho:all[ix]?= some ⟨some d,.call {callee:=.value c,args:=xs,argTypes:=ats},ty,pos,aft,g⟩)
  (hc:ev σ c=some (.func (.yield l) #[] #[])) (hxs:X7 σ xs.toList=some vs) (hex:X.ex=some J) (hfl:fl=false) (h0:X.h0=⟨#[],none⟩) (hm:X.mods=[]) (G:I8 X.lo J1) (I:I8 X.lo J0)
  (hY:∀D w,zF X.lo D w→J (μ.map (·.1)) D w→(∀p∈μ,w.heap[p.1]?= some p.2∧D p.1=[])→(∀D₁∈Ds,Le D₁ D)→iM P l vs w fun b D' w'=>zF X.lo D' w'∧zK (μ.map (·.1)) D w D' w'∧(if b then J1 (μ.map (·.1)) D' w' else J0 (μ.map (·.1)) D' w'))
  (hN:Nat.blt d X.N=true) (hg:dE all σ g)
  (O:WL P (X.withEx J1) bad all K Q os ((d,.bool true)::σ) μ Ds) (R:WL P (X.withEx J0) bad all K Q os ((d,.bool false)::σ) μ Ds):WL P X bad all K Q ((fl,ix)::os) σ μ Ds:=by
 refine eZ ho rfl rfl hg fun a w hh=>?_
 obtain⟨h1,h2,h3,D,h4,h5,M⟩:=id hh;have hJ:J (μ.map (·.1)) D w:=by unfold C4 at M;rw[hex]at M;exact M.2
 obtain⟨fn,tmps,assign,body,hy,hr⟩:=hY D w h4.dom hJ (fun p hp=>⟨(h4.box p hp).1,(h4.box p hp).2.1⟩) h5;have e:xs.map a.eval=vs.toArray:=by rw[←kP (fun _ _ hx=>hh.eval hx) hxs,←bDM]
 have hrun:(execOp a.eval ⟨some d,.call {callee:=.value c,args:=xs,argTypes:=ats},ty,pos,aft,g⟩).run P w=.ok (.round l fn tmps assign body) w:=by
  simp only[execOp,resolve,hh.eval hc,Deferred.ofValue,pure_bind,invoke,e];rw[←hy];simp
 rw[hrun];refine⟨fun h=>by simp[FW]at h,(s7 hr).mono ?_⟩;rintro e' w' ⟨b,D',rfl,hd',hh',hb⟩;have hst:iD X.h0 X.lo X.D0 X.mods μ D' w':=by
  refine⟨h4.hlo,hd'.2,(fun b hb=>by rw[h0]at hb;exact absurd hb (bCV _)),(fun b hb=>by rw[h0]at hb;exact absurd hb (bCV _)),hd'.1,fun p hp=>?_,h4.nd,h4.fz,fun e he=>by rw[h0]at he;cases he⟩;obtain⟨p1,p2,U⟩:=h4.box p hp;obtain⟨q1,q2⟩:=hh'.2.2 p.1 (GT.2 ⟨p,hp,rfl⟩);exact⟨q1.trans p1,q2.trans p2,U⟩
 have hds:∀D₁∈Ds,Le D₁ D':=fun D₁ hD₁=>(h5 D₁ hD₁).trans hh'.2.1
 refine⟨(fun h=>by rw[hfl]at h;cases h),?_⟩;cases b with
 |true=>
  refine O _ _ (Hl.put (X:=X.withEx J1) ⟨h1,h2,h3,D',hst,hds,⟨G,hb⟩⟩ hN _)
 |false=>
  refine R _ _ (Hl.put (X:=X.withEx J0) ⟨h1,h2,h3,D',hst,hds,⟨I,hb⟩⟩ hN _)
theorem ED{J J1 J0:tL}{l N lo:Nat}{c:Operand}{xs:Array Operand}{ats:Array TypeId}{vs:List Value}(ho:all[ix]?= some ⟨some d,.call {callee:=.value c,args:=xs,argTypes:=ats},ty,pos,aft,g⟩)
  (hc:ev σ c=some (.func (.yield l) #[] #[])) (hxs:X7 σ xs.toList=some vs) (hfl:fl=false) (G:I8 lo J1) (I:I8 lo J0)
  (hY:∀D w,zF lo D w→J (μ.map (·.1)) D w→(∀p∈μ,w.heap[p.1]?= some p.2∧D p.1=[])→(∀D₁∈Ds,Le D₁ D)→iM P l vs w fun b D' w'=>zF lo D' w'∧zK (μ.map (·.1)) D w D' w'∧(if b then J1 (μ.map (·.1)) D' w' else J0 (μ.map (·.1)) D' w'))
  (hN:Nat.blt d N=true) (hg:dE all σ g)
  (kk:∀b J',J'=(if b=true then J1 else J0)→WL P (Xj N lo J') bad all K Q os ((d,.bool b)::σ) μ Ds):WL P (Xj N lo J) bad all K Q ((fl,ix)::os) σ μ Ds:=
 aIC (X:=Xj N lo J) ho hc hxs rfl hfl rfl rfl G I hY hN hg (kk true J1 rfl) (kk false J0 rfl)
def aHE{γ:Type}(h0:H0)(lo:Nat)(D0:aC)(mods:List Nat)(Ds:List aC)(Φ:γ→Prop)(Mx:γ→aD):tL:=fun β D w=>
 ∃g,Φ g∧iD h0 lo D0 mods (Mx g) D w∧(∀D₁∈Ds,Le D₁ D)∧(∀b∈β,h0.size≤b∧∀D₁∈Ds,D₁ b=[])∧(∀p∈Mx g,p.1∉β)∧∀k∈mods,k∈(Mx g).ks
theorem Q9{γ:Type}{h0:H0}{lo:Nat}{D0:aC}{mods:List Nat}{Ds:List aC}{Φ:γ→Prop}{Mx:γ→aD}:I8 lo (aHE h0 lo D0 mods Ds Φ Mx):=by
 constructor
 ·rintro β D w D' w' ⟨g,hg,hs,hD,hβ,hM,hmk⟩ ⟨hl1,G,I⟩ hd;have box':∀p∈Mx g,w'.heap[p.1]?= w.heap[p.1]?∧D' p.1=D p.1:=fun p hp=>G p.1 (bH (hs.box p hp).1) (hM p hp)
  refine⟨g,hg,⟨hs.hlo,hd.2,fun b hb hm=>?_,fun b hb=>?_,hd.1,fun p hp=>?_,hs.nd,hs.fz,fun e he=>I.trans (hs.env e he)⟩,fun D₁ hD₁=>⟨fun b=>?_,?_⟩,hβ,hM,hmk⟩
  ·have hlt:b<w.heap.size:=by have:=hs.hlo;have:=hs.size;omega
   have hn:b∉β:=fun h=>by have:=(hβ b h).1;omega
   rw[(G b hlt hn).1];exact hs.old b hb hm
  ·have hlt:b<w.heap.size:=by have:=hs.hlo;have:=hs.size;omega
   have hn:b∉β:=fun h=>by have:=(hβ b h).1;omega
   rw[(G b hlt hn).2];exact hs.dold b hb
  ·obtain⟨p1,p2,M⟩:=hs.box p hp;obtain⟨q1,q2⟩:=box' p hp;exact⟨q1.trans p1,q2.trans p2,M⟩
  ·by_cases hb:b∈β
   ·rw[(hβ b hb).2 D₁ hD₁];exact bDP
   ·by_cases hlt:b<w.heap.size
    ·rw[(G b hlt hb).2];exact(hD D₁ hD₁).1 b
    ·have:=(hD D₁ hD₁).1 b;rw[hs.agr.fresh (Nat.le_of_not_lt hlt)]at this;rw[List.prefix_nil.1 this];exact bDP
  ·have h0:(0:Nat)∉β:=fun hm=>hs.agr.2.1 ((hD D₁ hD₁).2.trans ((hβ 0 hm).2 D₁ hD₁))
   rw[(G 0 hs.agr.pos h0).2];exact(hD D₁ hD₁).2
 ·rintro β β' D w ⟨g,hg,hs,hD,hβ,hM,hmk⟩ hb';refine⟨g,hg,hs,hD,fun b hb=>?_,fun p hp hb=>?_,hmk⟩
  ·rcases hb' b hb with h|h
   ·exact hβ b h
   ·refine⟨by have:=hs.hlo;have:=hs.size;omega,fun D₁ hD₁=>?_⟩;have:=(hD D₁ hD₁).1 b;rw[hs.agr.fresh h]at this;exact List.prefix_nil.1 this
  ·rcases hb' _ hb with h|h
   ·exact hM p hp h
   ·have:=bH (hs.box p hp).1;omega
theorem iD.roundM{h0:H0}{lo:Nat}{D0 D D':aC}{mods:List Nat}{μ μ':aD}{w w':World}(h:iD h0 lo D0 mods μ D w)(hmk:∀k∈mods,k∈μ.ks)(hs:iD (hd w) w.heap.size D (μ.map (·.1)) μ' D' w'):iD h0 lo D0 mods μ' D' w':=by
 have hle:=bBE h.hlo h.size;have hkey:∀b∈μ.map (·.1),lo≤b∨b∈mods:=by
  intro b hb;obtain⟨p,hp,rfl⟩:=GT.1 hb;exact(h.box p hp).2.2
 refine⟨h.hlo,bBE h.size hs.size,fun b hb hm=>?_,fun b hb=>?_,hs.agr,fun p hp=>?_,hs.nd,hs.fz,fun e he=>(hs.env _ rfl).trans (h.env e he)⟩
 ·rw[hs.old b (bBC hb hle) (fun hk=>by
   rcases hkey b hk with h1|h1
   ·have:=h.hlo;omega
   ·exact hm h1)]
  exact h.old b hb hm
 ·rw[hs.dold b (bBC hb hle)];exact h.dold b hb
 ·obtain⟨p1,p2,G⟩:=hs.box p hp;refine⟨p1,p2,?_⟩;rcases G with G|G
  ·exact aZE (by have:=h.size;omega)
  ·exact hkey _ G
theorem aPR{α γ:Type}{xs:List α}{enc:Nat→List Value}{cells:α→List Value}{Dr:aC}{f:FuncId}{cap:List Value}{gop:Operand}{ps:Array Tmp}{assign body:Code}
  (Φ:List α→γ→Prop) (Ψ:List α→Code→γ→Prop) (M:γ→aD) (g₀:γ) (hr:X.r=none) (hex:X.ex=none) (hmods:∀g,∀k∈X.mods,k∈(M g).ks)
  (hg:ev σ gop=some (.func (.func f) #[] cap.toArray)) (hit:aSO P f cap Dr xs enc cells) (hDr:Dr∈Ds) (hps:∀b,(enc b).length=ps.size) (hpN:(ps.toList.all fun p=>Nat.blt p X.N)=true) (h₀:Φ [] g₀) (hμ:M g₀=μ)
  (hround:∀pre x g,(∃r,xs=pre++x::r)→Φ pre g→∀(l bd bo:Nat) (rec:Loop) (h0:H0) (D:aC),(∀D₁∈Ds,Le D₁ D)→At D bo 0 (cells x)→rec.state=.ready→rec.pending=none→
   WC P (Xr l X.N h0 D ((M g++(l,Obj.loop rec)::[(bd,Obj.deferred (some []))]).map (·.1)))
    (Exit.then (fun a₁ w₁=>∃w₂,(Instr.beginRound l).run P w₁=.ok () w₂∧body.wpIn ((FW none).inRound l) 0 P (roundPost P l (zA h0 D ((M g++(l,Obj.loop rec)::[(bd,Obj.deferred (some []))]).map (·.1)) (Φ (pre++[x])) (Ψ (pre++[x]))
     (fun g=>M g++(l,Obj.loop {rec with state:=.ready,pending:=none})::[(bd,Obj.deferred (some []))]) (fun c g=>M g++(l,Obj.loop {rec with state:=.done,pending:=some c})::[(bd,Obj.deferred (some []))]))) a₁ w₂) (fun _ _ _=>False))
    assign (xZ ps.toList (enc bo) σ) (M g++(l,Obj.loop rec)::[(bd,Obj.deferred (some []))]) (D::Ds))
  (hdone:∀g bd,Φ xs g→∀a w,Hl (X.withDs bd) σ (M g++[(bd,Obj.deferred (some []))]) Ds a w→Q .normal a w)
  (hstop:∀pre c g bd,Ψ pre c g→WC P (X.withDs bd) Q c σ (M g++[(bd,Obj.deferred (some []))]) Ds):WC P X Q (.rangeFunc gop ps assign body) σ μ Ds:=by
 intro a w hh;subst hμ;have hev:=hh.eval hg;obtain⟨h1,h2,h3,D,h4,h5,V⟩:=hh;refine wpIn_rangeFunc fun fn _=>?_
 have hround':(FW X.r).round=none:=hr;rw[hround'];have hmk:∀g (B:aD),∀k∈X.mods,k∈(M g++B).ks:=fun g B k hk=>by
  show k∈(M g++B).map _;rw[aZH];exact aYX _ (hmods g k hk)
 let bd:=w.heap.size
 let l:=w.heap.size+1
 let G:Loop:={state:=.ready,pending:=none,fn,tmps:=a.tmps,params:=ps,assign,body,defers:=bd}
 let w1:World:={w with heap:=w.heap.push (.deferred (some []))}
 let w2:World:={w1 with heap:=w1.heap.push (.loop G)}
 have O:iD X.h0 X.lo X.D0 X.mods ((bd,Obj.deferred (some []))::M g₀) D w1:=h4.push (.deferred (some [])) trivial;have I:iD X.h0 X.lo X.D0 X.mods ((l,Obj.loop G)::(bd,Obj.deferred (some []))::M g₀) D w2:=by
  have:=O.push (.loop G) trivial;have e:w1.heap.size=l:=by simp[w1,l]
  rw[e]at this;exact this
 have hperm:iD X.h0 X.lo X.D0 X.mods (M g₀++(l,Obj.loop G)::[(bd,Obj.deferred (some []))]) D w2:=by
  refine I.sub (fun p hp=>?_) ?_
  ·simp only[aZF,n4,n3,bBB]at hp ⊢
   rcases hp with hp|hp|hp
   ·exact aYZ (aYZ hp)
   ·exact aZE hp
   ·exact aYZ (aZE hp)
  ·have hn:=I.nd;simp only[aZR,bAO,n4,not_or]at hn;simp only[aZH,aZR,bCT,aZC,bAO,n4,n3,bBB,bDD,bAV,and_true];refine⟨hn.2.2,hn.1.1,fun q hq r hr'=>?_⟩;rcases hr' with rfl|rfl
   ·rintro rfl;exact hn.1.2 hq
   ·rintro rfl;exact hn.2.1 hq
 refine⟨l,[mH bd],w2,{target:=.fn (.func f) cap.toArray,args:=#[.func (.yield l) #[] #[]]},w2,f,(.func (.yield l) #[] #[]::cap).toArray,w2,run_enterLoop_outer fn a.tmps ps assign body,?_,fun _ _=>trivial,?_,fun h=>by simp[FW]at h,?_⟩
 ·simp only[resolve,Deferred.ofValue];have e:Array.map a.eval #[Operand.const (Value.func (Fn.yield l) #[] #[])]=#[.func (.yield l) #[] #[]]:=by simp[Act.eval]
  rw[e,hev];rfl
 ·simp only[invoke];rw[hit.1];simp
 ·refine dP.2 ((hit.2 X.lo l
   (fun pre=>aHE X.h0 X.lo X.D0 X.mods Ds (Φ pre) fun g=>M g++(l,Obj.loop G)::[(bd,Obj.deferred (some []))])
   (fun pre=>aHE X.h0 X.lo X.D0 X.mods Ds (fun cg:Code×γ=>Ψ pre cg.1 cg.2) fun cg=>M cg.2++(l,Obj.loop {G with state:=.done,pending:=some cg.1})::[(bd,Obj.deferred (some []))])
   (fun _=>Q9) (fun _=>Q9) ?_ D w2 I.dom (h5 Dr hDr) ⟨g₀,h₀,hperm,h5,(fun _ h=>by cases h),(fun _ _ h=>by cases h),hmk g₀ _⟩).mono ?_)
  ·rintro pre x β Dx wx bo hx hdx ⟨g,hΦ,hst,hDs,hβ,hM,hmg⟩ hβs hle ⟨hbo,hbD,be,bfz,hbw⟩;have hbox:=(hst.box (l,Obj.loop G) Ye).1;refine⟨fn,_,assign,body,run_yield hbox (by simpa using hps bo),?_⟩;refine(roundIn_of_wpIn (F:=FW none) bDY (R:=zA (hd wx) (hC Dx bo (cells x)) ((M g++(l,Obj.loop G)::[(bd,Obj.deferred (some []))]).map (·.1)) (Φ (pre++[x])) (Ψ (pre++[x]))
     (fun g=>M g++(l,Obj.loop {G with state:=.ready,pending:=none})::[(bd,Obj.deferred (some []))]) (fun c g=>M g++(l,Obj.loop {G with state:=.done,pending:=some c})::[(bd,Obj.deferred (some []))])) ?_).mono ?_
   ·have hw:=hround pre x g hx hΦ l bd bo G (hd wx) (hC Dx bo (cells x)) (fun D₁ h=>(hDs D₁ h).trans (M8 hbD (hst.agr.ne0 hbD))) (IG _ _ _) rfl rfl;have ht:(ps.zip (enc bo).toArray).foldl (fun tmps (t,a)=>tmps.setIfInBounds t a) a.tmps=(ps.toList.zip (enc bo)).foldl (fun tmps (p:Tmp×Value)=>tmps.setIfInBounds p.1 p.2) a.tmps:=by
     rw[←Array.foldl_toList];simp
    have hpN':∀p∈ps.toList,p<a.tmps.size:=fun p hp=>by rw[h1];simpa [Nat.blt_eq]using aZN.1 hpN p hp
    refine hw {tmps:=_,defers:=[]} wx ⟨?_,fun s v hs=>?_,rfl,hC Dx bo (cells x),⟨aZL _,aZL _,fun _ _ _=>rfl,fun _ _=>rfl,CY hst.agr hbw hbD,fun p hp=>?_,hst.nd,hst.fz,fun e he=>aZO he⟩,fun D₁ hD₁=>?_,bDY⟩
    ·show((ps.zip (enc bo).toArray).foldl _ a.tmps).size=X.N;rw[ht,O0];exact h1
    ·show((ps.zip (enc bo).toArray).foldl _ a.tmps)[s]?= some v;rw[ht];exact N8 _ _ _ _ h2 hpN' s v hs
    ·obtain⟨p1,p2,Y⟩:=hst.box p hp;exact⟨p1,by unfold hC;rw[aZB (fun e=>hM p hp (by rw[e];exact hbo))];exact p2,aYZ (GT.2 ⟨p,hp,rfl⟩)⟩
    ·rcases n4.1 hD₁ with rfl|hD₁
     ·exact Le.refl _
     ·exact(hDs D₁ hD₁).trans (M8 hbD (hst.agr.ne0 hbD))
   ·rintro e w' ⟨b,D',rfl,hb⟩;have fin:∀μ',iD (hd wx) wx.heap.size (hC Dx bo (cells x)) ((M g++(l,Obj.loop G)::[(bd,Obj.deferred (some []))]).map (·.1)) μ' D' w'→iD X.h0 X.lo X.D0 X.mods μ' (hC D' bo []) w'∧zK β Dx wx (hC D' bo []) w'∧(∀D₁∈Ds,Le D₁ (hC D' bo []))∧(∀p∈μ',p.1∉β):=by
     intro μ' U;have hs':=U.hide hbD (hst.agr.ne0 hbD);refine⟨hst.roundM hmg hs',iD.roundHigh hst.agr hs' hβs hM,fun D₁ hD₁=>(hDs D₁ hD₁).trans (gH hst.agr hs'),fun p hp hpb=>?_⟩;rcases(hs'.box p hp).2.2 with h|h
     ·have:=hβs _ hpb;omega
     ·obtain⟨q,hq,he⟩:=GT.1 h;exact hM q hq (by rw[he];exact hpb)
    refine⟨b,hC D' bo [],rfl,?_⟩;cases b with
    |true=>
     obtain⟨g',hg',hs'⟩:=hb;obtain⟨f1,f2,f3,f4⟩:=fin _ hs';exact⟨f1.dom,f2,g',hg',f1,f3,hβ,f4,hmk g' _⟩
    |false=>
     obtain⟨c',g',hg',hs'⟩:=hb;obtain⟨f1,f2,f3,f4⟩:=fin _ hs';exact⟨f1.dom,f2,(c',g'),hg',f1,f3,hβ,f4,hmk g' _⟩
  ·rintro e w' ⟨v,D',rfl,hd,hend⟩;have post:∀(g:γ) (r:Loop),iD X.h0 X.lo X.D0 X.mods (M g++(l,Obj.loop r)::[(bd,Obj.deferred (some []))]) D' w'→(∀D₁∈Ds,Le D₁ D')→
     Hl (X.withDs bd) σ (M g++[(bd,Obj.deferred (some []))]) Ds {a with defers:=[mH bd]++a.defers} (w'.putObj l (.loop {r with state:=.exhausted})):=by
    intro g r hs hD';have hHas:bR (M g++(l,Obj.loop r)::[(bd,Obj.deferred (some []))]) l (.loop r) (.loop {r with state:=.exhausted}) (M g++(l,Obj.loop {r with state:=.exhausted})::[(bd,Obj.deferred (some []))]):=.app .head;have hs':=hs.set (w':=w'.putObj l (.loop {r with state:=.exhausted})) hHas ⟨rfl,rfl⟩ trivial;have hs'':=hs'.sub (μ':=M g++[(bd,Obj.deferred (some []))]) (fun p hp=>by
     rcases aZF.1 hp with hp|hp
     ·exact aYX _ hp
     ·exact GE _ (n5 _ hp)) (by
     have hn:=hs'.nd;rw[aZH,aZC]at hn ⊢
     simp only[aZR]at hn;exact⟨hn.1,(bAO.1 hn.2.1).2,fun q hq r hr=>hn.2.2 q hq r (n5 _ hr)⟩)
    exact⟨h1,h2,aYY (mH bd:: ·) h3,D',hs'',hD',by unfold C4;show(match X.ex with|none=>True|some J=>_);rw[hex];trivial⟩
   rcases hend with⟨g,hΦ,hs,hDs,_,_,_⟩|⟨pre,⟨c,g⟩,hΨ,hs,hDs,_,_,_⟩
   ·have hb:=(hs.box (l,Obj.loop G) Ye).1;exact⟨none,_,run_endLoop hb (by simp[G]),hdone g bd hΦ _ _ (post g G hs hDs)⟩
   ·have hb:=(hs.box (l,Obj.loop {G with state:=.done,pending:=some c}) Ye).1;refine⟨some c,_,run_endLoop hb Ye,?_⟩;have:=hstop pre c g bd hΨ _ _ (post g _ hs hDs);exact this

theorem aTJ{α:Type}{f:FuncId}{fn:Func}{c:Code}{cap:List Value}{Dr:aC}{xs:List α}{enc:Nat→List Value}{cells:α→List Value}(N:Nat)(hf:P.funcs[f]?= some fn)(hn:(fn.name== "runtime.NumGoroutine")=false)(hb:fn.body=some c)(hN:fn.ntmps=N)(hsz:Nat.ble (cap.length+1) N=true)
  (h:∀(lo l:Nat) (J Jx:List α→tL),(∀pre,I8 lo (J pre))→(∀pre,I8 lo (Jx pre))→
   (∀pre x β D w bo,(∃r,xs=pre++x::r)→zF lo D w→J pre β D w→(∀b∈β,b<w.heap.size)→Le Dr D→DM β D w bo (cells x)→
    iM P l (enc bo) w fun b D' w'=>zF lo D' w'∧zK β D w D' w'∧(if b then J (pre++[x]) β D' w' else Jx (pre++[x]) β D' w'))→
   WC P (Xj N lo (J [])) (bodyPost P fn (Y2 lo [Dr] fun _ J' _=>J'=J xs∨∃pre,J'=Jx pre)) c (iS 0 (.func (.yield l) #[] #[]::cap)) [] [Dr]):aSO P f cap Dr xs enc cells:=by
 refine⟨EF.of hf hn hb,fun lo l J Jx hs hsx hY D w hd hle hJ=>?_⟩;have hF:=H7 (μ:=[]) N hf hn hb hN (by simpa using hsz) (h lo l J Jx hs hsx hY);refine(hF.2 w ⟨D,⟨Nat.zero_le _,hd.2,fun b hb=>absurd hb (bCV _),fun b hb=>absurd hb (bCV _),hd.1,Yi,bAV,Yi,fun e he=>by cases he⟩,fun D₁ h1=>?_,hs [],hJ⟩).mono ?_
 ·simp only[aZM]at h1;subst h1;exact hle
 ·rintro e w' ⟨v,J',μ',rfl,⟨D',hst,hds,hex⟩,hpost⟩;refine⟨v,D',rfl,hst.dom,?_⟩;have hJ':J' [] D' w':=hex.1.own _ [] D' w' hex.2 (fun b hb=>by cases hb);rcases hpost with rfl|⟨pre,rfl⟩
  ·exact aZE hJ'
  ·exact aYZ ⟨pre,hJ'⟩
theorem rI{t e:TypeId}{sz n:Nat}{z0:Value}{zs cs:List Value}{k k':IntKind}(ho:all[ix]?= some ⟨some d,.makeSlice t x y,ty,pos,aft,g⟩)(ht:P.underlying t=some (.slice e))(hs:TS P e sz)(hz:TZ P e z0)(hzc:z0.cells=zs.toArray)(hi:(P.info? e).map (fun i=>Nat.ble 1 i.bytes&&Nat.ble i.bytes 4096)=some true)
  (hx:ev σ x=some (.int k n)) (hy:ev σ y=some (.int k' n)) (hn:n≤10000) (hcs:((Array.range (n*sz)).map (zs.toArray[· %zs.toArray.size]!)).toList=cs) (hN:Nat.blt d X.N=true) (hg:dE all σ g)
  (kk:∀b,WL P X bad all K Q os ((d,qS b n n)::σ) ((b,.cells cs.toArray e (0,0))::μ) Ds):WL P X bad all K Q ((fl,ix)::os) σ μ Ds:=by
 refine eZ ho rfl rfl hg fun a w hh=>?_
 obtain⟨h1,h2,h3,D,h4,h5,R⟩:=id hh;have hn':=hn;obtain⟨i0,I,hb⟩:=bBS.1 hi;simp only[aYT]at hb;have U:=bAZ hb.1;have M:=bAZ hb.2;have hti:∀w,(typeInfo e).run P w=.ok i0 w:=fun w=>by simp[typeInfo,program,Sem.run,I,go_sem]
 have hw:IntKind.i64.wrap (n:Int)=n:=rM Yf;have hbn:i0.bytes*n≤4096*10000:=Nat.mul_le_mul M hn';have hlarge:(((n:Int)<0)||decide ((i0.bytes:Int)*n>2^48))=false:=by
  have:((i0.bytes*n:Nat):Int)≤40960000:=by omega
  rw[Int.natCast_mul]at this;simp only[bAU,bAH];constructor
  ·omega
  ·omega
 have hzz:∀w,(zeroValue e).run P w=.ok z0 w:=hz;have hrun:(execOp a.eval ⟨some d,.makeSlice t x y,ty,pos,aft,g⟩).run P w=.ok (.value (.slice (some ⟨w.heap.size,0,none⟩) n n)) {w with heap:=w.heap.push (.cells cs.toArray e (0,0))}:=by
  have hcs':(Array.range (n*sz)).map (zs.toArray[· %zs.toArray.size]!)=cs.toArray:=by rw[←hcs]
  have hai:∀(k:IntKind) (m:Int) (w:World),(asInt (.int k m)).run P w=.ok m w:=fun _ _ _=>rfl
  simp only[execOp,Instr.makeSlice,hh.eval hx,hh.eval hy,hai,Sem.run_bind,TU.of ht w,Result.andThen_ok,Sem.run_pure,hti,hw,pure_bind];rw[aZB (by simp only[bAD,aZI,not_or];exact⟨⟨by simpa using hlarge,by omega⟩,by omega⟩)]
  simp only[Sem.run_bind,Y1,Result.andThen_ok,hs w,bAK];by_cases hnz:n*sz=0
  ·rw[aZK hnz];have G:∀f:Nat→Value,(Array.range 0).map f=#[]:=fun f=>by simp
   have O:cs.toArray=#[]:=by rw[←hcs',hnz];exact G _
   simp only[Sem.run_pure,Sem.run_bind,O];rw[hnz];simp only[G,lW,Result.andThen_ok]
  ·rw[aZB hnz];simp only[Sem.run_bind,hzz,Result.andThen_ok,Sem.run_pure,hzc,hcs',lW]
 rw[hrun];have hs':=h4.push (.cells cs.toArray e (0,0)) rfl;refine⟨fun _=>pJ _ _ _,kk w.heap.size _ _ (Hl.put ⟨h1,h2,h3,D,hs',h5,R.step (fun _ p hp=>?_) (fun _=>⟨by simp,fun b hb _=>⟨dI hb,rfl⟩,rfl⟩) hs'.dom⟩ hN _)⟩;rcases n4.1 hp with rfl|hp
 ·exact aYZ (aZL _)
 ·exact aZE (GT.2 ⟨p,hp,rfl⟩)
theorem G9{n sz:Nat}{zs:List Value}(h:∀u∈zs,u=qI 0)(hl:zs.length=sz):((Array.range (n*sz)).map (zs.toArray[· %zs.toArray.size]!)).toList=ints (List.replicate (n*sz) 0):=by
 apply bDE;intro i;simp only[bDM,Array.toList_range,aZT,ints,List.map_replicate,List.getElem?_replicate];by_cases hi:i<n*sz
 ·rw[bDI hi,aZK hi];have hpos:0<sz:=by
   rcases Nat.eq_zero_or_pos sz with h0|h0
   ·subst h0;simp at hi
   ·exact h0
  have hm:i%zs.toArray.size<zs.length:=by simp only[aZV,hl];exact Nat.mod_lt _ hpos
  simp only[aZX];congr 1;rw[getElem!_pos _ _ (by simpa using hm)];exact h _ Ye
 ·rw[bBX Yal,aZB hi];rfl

theorem Hl.freezeM{A B ν:aD}{e sz n:Nat}{cells:List Value}{a:Act}{w:World}(hacc:bS e sz v n cells ν)(hmods:∀k∈X.mods,k∈(A++B).ks)(hh:Hl X σ (A++ν++B) Ds a w):
  ∃D',(∀D₁∈Ds,Le D₁ D')∧mK D' v n cells∧Hl X σ (A++B) (D'::Ds) a w:=by
 obtain⟨h1,h2,h3,D,h4,h5,G⟩:=hh;rcases hacc with⟨old,hv,hn,hc,hν⟩|⟨b,cap,junk,hv,hncap,hν,hl1,I⟩
 ·subst hν;refine⟨D,h5,aZE ⟨old,hv,hn,hc⟩,h1,h2,h3,D,by simpa using h4,fun D₁ hD₁=>?_,by simpa using G⟩;rcases n4.1 hD₁ with rfl|hD₁
  ·exact Le.refl _
  ·exact h5 D₁ hD₁
 ·subst hν;have hb:=(h4.box (b,.cells (cells++junk).toArray e (0,0)) Ye).2.2;have hnb:b∉(A++B).ks:=fun hm=>by
   have hnd:=h4.nd;simp only[aZH,aZR,aZD,bCK]at hnd;have:=aZC.1 hnd;have h2':=bAO.1 this.2.1;simp only[aD.ks,aZH,aZF]at hm;rcases hm with hm|hm
   ·exact this.2.2 b hm b LT rfl
   ·exact h2'.1 hm
  have hb':=hb.resolve_right (fun h=>hnb (hmods b h));obtain⟨D',hle,hD',hDo,hs⟩:=h4.freeze hb';refine⟨D',fun D₁ hD₁=>(h5 D₁ hD₁).trans hle,aYZ ⟨b,cap,hv,hncap,fun j u hj=>by rw[hD',bCB];exact hj⟩,h1,h2,h3,D',hs,fun D₁ hD₁=>?_,G.step (fun _ p hp=>aZE (GT.2 ⟨p,by rcases aZF.1 hp with hp|hp;exact aYX _ (aYX _ hp);exact GE _ hp,rfl⟩)) (fun _=>⟨aZL _,fun c _ hn=>⟨rfl,hDo c (by rintro rfl;exact hn Ye)⟩,rfl⟩) hs.dom⟩
  rcases n4.1 hD₁ with rfl|hD₁
  ·exact Le.refl _
  ·exact(h5 D₁ hD₁).trans hle
theorem uX{A B ν:aD}{e sz n:Nat}{cells:List Value}(hacc:bS e sz v n cells ν)(hmods:∀k∈X.mods,k∈(A++B).ks)(kk:∀D,(∀D₁∈Ds,Le D₁ D)→mK D v n cells→WL P X bad all K Q os σ (A++B) (D::Ds)):WL P X bad all K Q os σ (A++ν++B) Ds:=by
 intro a w hh;obtain⟨D',h1,h2,h3⟩:=hh.freezeM hacc hmods;exact kk D' h1 h2 a w h3
theorem CS{T:Act→World→Prop}{A B ν:aD}{e sz n:Nat}{cells:List Value}(hacc:bS e sz v n cells ν)(hmods:∀k∈X.mods,k∈(A++B).ks)(kk:∀D,(∀D₁∈Ds,Le D₁ D)→mK D v n cells→∀a w,Hl X σ (A++B) (D::Ds) a w→T a w):∀a w,Hl X σ (A++ν++B) Ds a w→T a w:=by
 intro a w hh;obtain⟨D',h1,h2,h3⟩:=hh.freezeM hacc hmods;exact kk D' h1 h2 a w h3
theorem Hl.apart{a:Act}{w:World}{D₁:aC}{b o:Nat}{c:Value}{cs:List Value}(hh:Hl X σ μ Ds a w)(hA:At D₁ b o (c::cs))(hD:D₁∈Ds):b∉μ.ks:=by
 obtain⟨h1,h2,h3,D,h4,h5,G⟩:=hh;intro hm;obtain⟨p,hp,rfl⟩:=GT.1 hm;have h0:=(h5 D₁ hD).get (hA 0 c rfl);rw[(h4.box p hp).2.1]at h0;simp at h0
theorem lA{c':Code}{D₁:aC}{b o:Nat}{c:Value}{cs:List Value}(hA:At D₁ b o (c::cs))(hD:D₁∈Ds)(k:b∉μ.ks→WC P X Q c' σ μ Ds):WC P X Q c' σ μ Ds:=fun a w hh=>k (hh.apart hA hD) a w hh
theorem At.tail{D:aC}{b o:Nat}{c:Value}{cs:List Value}(h:At D b o (c::cs)):At D b (o+1) cs:=fun j v hj=>by
 have:=h (j+1) v (by simpa using hj);rw[show o+1+j=o+(j+1) by omega];exact this

theorem OC{f:FuncId}{fn:Func}{c:Code}{args:List Value}{D:aC}{ν:aD}{post:aC→Value→aD→Prop}(N:Nat)(hf:P.funcs[f]?= some fn)(hn:(fn.name== "runtime.NumGoroutine")=false)(hb:fn.body=some c)(hN:fn.ntmps=N)(hsz:Nat.ble args.length N=true)
  (h:∀h0:H0,(∀p∈ν,p.1<h0.size)→ν.ks.Nodup→WC P (qR N h0 D ν.ks) (G0 P fn (lP (qR N h0 D ν.ks) ν.ks post)) c (iS 0 args) ν [D]):AN P f args D ν post:=by
 refine⟨EF.of hf hn hb,fun w hw hν hnd=>?_⟩;subst hN;have hsz:=bAZ hsz;have hq:∀e a w',G0 P fn (lP (qR fn.ntmps (hd w) D ν.ks) ν.ks post) e a w'→bodyPostM (FW none) 0 P fn (lP (qR fn.ntmps (hd w) D ν.ks) ν.ks post) e a w':=by
  intro e a w' he;cases e<;>first|exact he|exact he.elim
 have hwp:=h (hd w) (fun p hp=>bH (hν p hp).1) hnd {tmps:=args.toArray++Array.replicate (fn.ntmps-args.toArray.size) undef,defers:=[]} w ⟨by simp[qR];omega,fun s v hs=>by
  obtain⟨_,h2⟩:=fQ args 0 s v hs;have hl:=(aYV.1 h2).1;simp only[bCM]at h2 hl;show(args.toArray++_)[s]?= some v;rw[bBD Yan];simpa using h2,rfl,D,⟨aZL _,aZL _,(fun _ _ _=>rfl),(fun _ _=>rfl),hw,(fun p hp=>⟨(hν p hp).1,(hν p hp).2.1,aYZ (GT.2 ⟨p,hp,rfl⟩)⟩),hnd,(fun p hp=>(hν p hp).2.2),fun e he=>aZO he⟩,(fun D₁ h1=>by simp only[aZM]at h1;subst h1;exact Le.refl _),bDY⟩
 refine(dP (r:=none) (n:=0)).1 ((callsIn_of_wp_marks hf hb bDY (wpIn_mono hwp hq) rfl).mono ?_);rintro e w' ⟨v,D',ν',rfl,hk,hs,hp⟩;exact⟨v,D',ν',rfl,hk,hs,hp⟩
theorem JJ{fn:Func}{bd:Nat}{ks:List Nat}{post:aC→Value→aD→Prop}{e:Exit}(he:(match e with|.normal=>true|.ret=>true|_=>false)=true){rs:List ResultVar}{vs:List Value}{A B ν':aD}(hds:X.ds=[])(hr:fn.results=rs.toArray)(h:xT P X σ (A++ν'++B++[(bd,Obj.deferred none)]) rs vs)
  (hk:ν'.ks=ks) (hp:∀D,(∀D₁∈Ds,Le D₁ D)→post D (qE vs) ν'):∀a w,Hl (X.withDs bd) σ (A++ν'++B++[(bd,Obj.deferred (some []))]) Ds a w→G0 P fn (lP X ks post) e a w:=by
 intro a w hh;obtain⟨h1,h2,h3,D,h4,h5,G⟩:=hh;have hHas:bR (A++ν'++B++[(bd,Obj.deferred (some []))]) bd (.deferred (some [])) (.deferred none) (A++ν'++B++[(bd,Obj.deferred none)]):=.app .head;have hs:=h4.set (w':=w.putObj bd (.deferred none)) hHas ⟨rfl,rfl⟩ trivial;have hh':Hl X σ (A++ν'++B++[(bd,Obj.deferred none)]) Ds {a with defers:=[]} (w.putObj bd (.deferred none)):=
  ⟨h1,h2,hds.symm,D,hs,h5,G.step (X:=X.withDs bd) (fun _ p hp=>aZE Yq) (fun _=>kI ⟨rfl,rfl⟩ (GT.2 ⟨_,hHas.mem,rfl⟩)) hs.dom⟩
 have hrun:=iK hh' hr h;have hb:=(h4.box (bd,Obj.deferred (some [])) Ye).1;have hnd:=h4.nd;simp only[aZH]at hnd;have hsub:=hs.sub (μ':=ν') (fun p hp=>aYX _ (aYX _ (GE _ hp))) (aZC.1 (aZC.1 (aZC.1 hnd).1).1).2.1;have:LeavesInM (FW none) 0 P fn a.tmps (lP X ks post) a.defers .returning w:=by
  have h3':a.defers=[mH bd]:=h3.trans (by show mH bd::X.ds=_;rw[hds]);rw[h3'];exact⟨by simp,aZE ⟨bd,_,rfl,run_takeDeferred hb,_,hrun,_,D,ν',rfl,hk,hsub,hp D h5⟩⟩
 cases e<;>first|exact this|cases he
theorem aTS{γ:Type}(I:γ→Prop)(S:γ→Bool)(M:γ→aD)(xs ys:List (Bool×Nat)){s p:Nat}{b:Bool}(ho:os=xs++ys)(hs:look σ s=some (.bool b))
  (hyes:b=true→WL P X bad all (fun a w=>∃g,I g∧Hl X ((p,.bool (S g))::(s,.bool true)::σ) (M g) Ds a w) Q xs ((s,.bool true)::σ) μ Ds)
  (hno:b=false→WL P X bad all (fun a w=>∃g,I g∧Hl X ((p,.bool (S g))::(s,.bool false)::σ) (M g) Ds a w) Q xs ((s,.bool false)::σ) μ Ds)
  (k:∀g,I g→WL P X bad all K Q ys ((p,.bool (S g))::σ) (M g) Ds):WL P X bad all K Q os σ μ Ds:=by
 have hsub:∀u,Value.bool b=u→∀a w,Hl X σ μ Ds a w→Hl X ((s,u)::σ) μ Ds a w:=by
  rintro _ rfl a w ⟨h1,h2,h3⟩;refine⟨h1,fun t v ht=>?_,h3⟩;simp only[look]at ht;cases hb:Nat.beq s t with
  |true=>rw[hb]at ht;cases ht;obtain rfl:=bAF hb;exact h2 _ _ hs
  |false=>rw[hb]at ht;exact h2 _ _ ht
 have hback:∀u v μ',Value.bool b=u→∀a w,Hl X ((p,v)::(s,u)::σ) μ' Ds a w→Hl X ((p,v)::σ) μ' Ds a w:=by
  rintro _ v μ' rfl a w ⟨h1,h2,h3⟩;refine⟨h1,fun t v' ht=>?_,h3⟩;refine h2 t v' ?_;simp only[look]at ht ⊢
  cases hp:Nat.beq p t with
  |true=>rw[hp]at ht;exact ht
  |false=>
   rw[hp]at ht;cases hb:Nat.beq s t with
   |true=>obtain rfl:=bAF hb;rw[←ht,hs]
   |false=>exact ht
 subst ho;intro a w hh;cases b
 ·refine WL.append (hno rfl a w (hsub _ rfl a w hh)) ?_;rintro a w ⟨g,hI,h⟩;exact k g hI a w (hback _ _ _ rfl a w h)
 ·refine WL.append (hyes rfl a w (hsub _ rfl a w hh)) ?_;rintro a w ⟨g,hI,h⟩;exact k g hI a w (hback _ _ _ rfl a w h)
theorem vI{t:TypeId}{b k:Nat}{l:List Int}{n:Int}{e:TypeId}{μ':aD}(ho:all[ix]?= some ⟨none,.store t x y,ty,pos,aft,g⟩)(hs:TS P t 1)(hx:ev σ x=some (.pointer (some ⟨b,k,none⟩)))(hy:ev σ y=some (qI n))
  (hm:bR μ b (.cells (ints l).toArray e (0,0)) (.cells (ints (l.set k n)).toArray e (0,0)) μ') (hl:k<l.length) (hg:dE all σ g)
  (kk:WL P X bad all K Q os σ μ' Ds):WL P X bad all K Q ((false,ix)::os) σ μ Ds:=by
 have hil:(ints l).length=l.length:=aO l;refine bG (off:=k) (us:=[qI n]) (vs:=ints l) (ws:=ints (l.set k n)) ho hx hy rfl hs hm (by simp[hil];omega) ?_ (fun u hu=>by simp at hu;subst hu;rfl) hg kk
 rw[show ints (l.set k n)=(ints l).set k (qI n) by simp[ints,List.map_set],List.set_eq_take_append_cons_drop,aZK (by rw[hil];exact hl)];simp
theorem kW{t e tr:TypeId}{a:Option Addr}{n c:Nat}{ats:Array TypeId}(ho:all[ix]?= some ⟨some d,.call {callee:=.builtin .len,args:=#[x],argTypes:=ats},tr,pos,aft,g⟩)(ht:P.underlying t=some (.slice e))(hx:ev σ x=some (.slice a n c))(hat:ats[0]?= some t)
  (hN:Nat.blt d X.N=true) (hg:dE all σ g) (kk:WL P X bad all K Q os ((d,qI (n:Int))::σ) μ Ds):WL P X bad all K Q ((fl,ix)::os) σ μ Ds:=
 bQ ho rfl rfl hN hg (fun ρ hρ w'=>by
  have hx':=hρ x _ hx;simp[Builtin.len_,hat,hx',Sem.run_bind,TU.of ht w',goInt,Sem.run_pure,go_sem]) kk
theorem Hl.boxesEq{a:Act}{w:World}{μ':aD}(hh:Hl X σ μ Ds a w)(h:μ=μ'):Hl X σ μ' Ds a w:=h▸hh
theorem V1{T:Act→World→Prop}(μ':aD)(h:μ=μ')(k:∀a w,Hl X σ μ' Ds a w→T a w):∀a w,Hl X σ μ Ds a w→T a w:=h▸k
theorem oB{t t' e:TypeId}{a:Option Addr}{n c:Nat}(ho:all[ix]?= some ⟨some d,.binOp .eql t x y t',ty,pos,aft,g⟩)(ht:P.underlying t=some (.slice e))(hx:ev σ x=some (.slice a n c))(hy:ev σ y=some (qN))(hN:Nat.blt d X.N=true)(hg:dE all σ g)
  (kk:WL P X bad all K Q os ((d,.bool (a.isNone))::σ) μ Ds):WL P X bad all K Q ((fl,ix)::os) σ μ Ds:=
 J9 ho (fun w=>by
  have hgd:(eqGuard .eql t x y (.slice a n c) (qN)).run P w=.ok () w:=by
   simp only[eqGuard];simp[go_sem]
  have heq:(Op.equal t (.slice a n c) (qN)).run P w=.ok a.isNone w:=by
   show(Op.equalIn (9999+1) t (.slice a n c) (qN)).run P w=_;rw[Op.equalIn,Sem.run_bind,TU.of ht w];cases a<;>rfl
  rw[Sem.run_bind,hgd];show((do Pure.pure (Value.bool (←Op.equal t (.slice a n c) (qN)))):Sem Value).run P w=_;rw[Sem.run_bind,heq];rfl) hx hy hN hg kk
theorem MP{t:TypeId}{b off:Nat}{vs us:List Value}{e:TypeId}{μ':aD}(ho:all[ix]?= some ⟨none,.store t x y,ty,pos,aft,g⟩)(hx:ev σ x=some (.pointer (some ⟨b,off,none⟩)))(hy:ev σ y=some v)(hv:v.cells=us.toArray)(hs:TS P t us.length)
  (hm:bR μ b (.cells vs.toArray e (0,0)) (.cells vs.toArray e (0,0)) μ') (hl:off+us.length≤vs.length) (hw:vs.take off++us++vs.drop (off+us.length)=vs) (G:∀u∈us,cell1 u=true) (hg:dE all σ g)
  (kk:WL P X bad all K Q os σ μ' Ds):WL P X bad all K Q ((fl,ix)::os) σ μ Ds:=by
 refine eZ ho rfl rfl hg fun a w hh=>?_
 obtain⟨h1,h2,h3,D,h4,h5,I⟩:=id hh;obtain⟨w',hr,hw'⟩:=xY (P:=P) hs hv (h4.box _ hm.mem).1 hl G;have:(execOp a.eval ⟨none,.store t x y,ty,pos,aft,g⟩).run P w=.ok .skip w':=by
  simp only[execOp,hh.eval hx,hh.eval hy,Sem.run_bind,hr,Result.andThen_ok,Sem.run_pure]
 rw[this];rw[hw]at hw';refine⟨fun _=>⟨by rw[hw'.1];simp,fun c _ _=>?_⟩,kk _ _ ⟨h1,h2,h3,D,h4.set hm hw' rfl,h5,I.step (fun _ p hp=>aZE Yar) (fun _=>kI hw' (GT.2 ⟨_,hm.mem,rfl⟩)) (h4.set hm hw' rfl).dom⟩⟩
 have hb:=(h4.box _ hm.mem).1;rw[hw'.1];by_cases hc:b=c
 ·subst hc;rw[Array.getElem?_setIfInBounds_self_of_lt (bH hb)];exact hb.symm
 ·rw[bBG hc]

theorem lC{D₁:aC}{b o:Nat}{c:Value}{cs:List Value}(hA:At D₁ b o (c::cs))(hD:D₁∈Ds)(k:b∉μ.ks→WL P X bad all K Q os σ μ Ds):WL P X bad all K Q os σ μ Ds:=fun a w hh=>k (hh.apart hA hD) a w hh
theorem aMA{e sz b:Nat}{cells:List Value}(h:cells.length=sz):bS e sz (qS b 1 1) 1 cells [(b,.cells cells.toArray e (0,0))]:=
 aYZ ⟨b,1,[],rfl,aZL _,by simp,by omega,by simp;omega⟩
theorem aJH{D:aC}{b:Nat}{cells:List Value}(h:mK D (qS b 1 1) 1 cells):At D b 0 cells:=by
 rcases h with⟨a,_,h0,_⟩|⟨b',cap,hv,_,hA⟩
 ·omega
 ·cases hv;exact hA
theorem xX{c:Code}{A B:aD}{b:Nat}{cells:List Value}{e:TypeId}(hmods:X.mods=[])(kk:∀D,(∀D₁∈Ds,Le D₁ D)→At D b 0 cells→WC P X Q c σ (A++B) (D::Ds)):WC P X Q c σ (A++(b,.cells cells.toArray e (0,0))::B) Ds:=by
 have:=R0 (A:=A) (B:=B) (ν:=[(b,.cells cells.toArray e (0,0))]) (c:=c) (P:=P) (X:=X) (Q:=Q) (σ:=σ) (Ds:=Ds) (aMA (e:=e) (b:=b) (cells:=cells) rfl) hmods fun D hD hF=>kk D hD (aJH hF)
 simpa using this
theorem UE{α:Type}{D:aC}{b sz:Nat}{cells:α→List Value}(hsz:∀x,(cells x).length=sz):∀{xs:List α} {o:Nat},(∀i x,xs[i]?= some x→At D b (o+i*sz) (cells x))→At D b o (xs.flatMap cells)
 | [],o,_=>fun j v hj=>by simp at hj
 |x::xs,o,h=>fun j v hj=>by
  rw[bAC]at hj;have h0:=h 0 x rfl;rw[bCS,Nat.add_zero]at h0;have hr:=UE hsz (xs:=xs) (o:=o+sz) fun i y hy=>by
   have:=h (i+1) y (by simpa using hy);rw[show o+sz+i*sz=o+(i+1)*sz by rw[bBU];omega];exact this
  rcases Nat.lt_or_ge j (cells x).length with hl|hl
  ·rw[bBR hl]at hj;exact h0 j v hj
  ·rw[bCZ hl]at hj;have:=hr _ v hj;rw[hsz]at this;rw[show o+j=o+sz+(j-sz) by rw[hsz]at hl;omega];exact this
theorem mI.of{α:Type}{R:Rd α}{D:aC}{sz:Nat}{xs:List α}{cells:α→List Value}(hR:∀D x cs,R D x cs→cs=cells x)(hsz:∀x,(cells x).length=sz)(h:Sl D R sz v xs):mI D v xs.length (xs.flatMap cells):=by
 obtain⟨a,cap,rfl,h1,h2,h3⟩:=h;rcases h3 with rfl|⟨b,o,rfl,h3⟩
 ·exact aZE ⟨a,cap,rfl,rfl,rfl⟩
 ·refine aYZ ⟨b,o,cap,rfl,UE hsz fun i x hx=>?_⟩;obtain⟨cs,hr,hc,hA⟩:=h3 i x hx;rw[hR _ _ _ hr]at hA;exact hA
theorem rL{α:Type}{R:Rd α}{D:aC}{sz n c:Nat}{xs:List α}(h:Sl D R sz (.slice none n c) xs):xs=[]:=by
 obtain⟨a,cap,hv,h1,h2,h3⟩:=h;rcases h3 with h3|⟨b,o,ha,_⟩
 ·exact h3
 ·rw[ha]at hv;cases hv
theorem aJM{α:Type}{R:Rd α}{D₁:aC}{sz:Nat}{t e:TypeId}{xs:List α}{k:IntKind}{i:Int}{el:α}{bt ot ct:Nat}(ho:all[ix]?= some ⟨some d,.indexAddr t x y,ty,pos,aft,g⟩)(ht:P.underlying t=some (.slice e))(hs:TS P e sz)(hx:ev σ x=some (.slice (some ⟨bt,ot,none⟩) xs.length ct))(hS:Sl D₁ R sz (.slice (some ⟨bt,ot,none⟩) xs.length ct) xs)
  (hy:ev σ y=some (.int k i)) (h0:0≤i) (hi:xs[i.toNat]?= some el) (hN:Nat.blt d X.N=true) (hg:dE all σ g)
  (kk:∀cs,R D₁ el cs→cs.length=sz→At D₁ bt (ot+i.toNat*sz) cs→WL P X bad all K Q os ((d,.pointer (some ⟨bt,ot+i.toNat*sz,none⟩))::σ) μ Ds):WL P X bad all K Q ((fl,ix)::os) σ μ Ds:=by
 obtain⟨a,cap,hv,h1,h2,h3⟩:=hS;cases hv;have hlt:=(aYV.1 hi).1;rcases h3 with h3|⟨b,o,ha,h3⟩
 ·subst h3;simp at hi
 ·cases ha;obtain⟨cs,hr,hc,hA⟩:=h3 _ _ hi;exact gO ho ht hs hx hy h0 Yd hN hg (kk cs hr hc hA)
section
variable{t e t2:TypeId}{D₁:aC}{xs:List Int}{k:IntKind}{i el:Int}{ix2 d2:Nat}{x2:Operand}{ty2:TypeId}{pos2:String}{aft2:Array Edge}{g2:Option (Nat×Bool)}{fl2:Bool}
theorem cW{bt ot ct:Nat}(e9:(all[ix]?,all[ix2]?,ev σ x,ev σ y,xs[i.toNat]?,ev ((d,.pointer (some ⟨bt,ot+i.toNat*1,none⟩))::σ) x2)=(some ⟨some d,.indexAddr t x y,ty,pos,aft,g⟩,some ⟨some d2,.load t2 x2,ty2,pos2,aft2,g2⟩,some (.slice (some ⟨bt,ot,none⟩) xs.length ct),some (.int k i),some el,some (.pointer (some ⟨bt,ot+i.toNat*1+0,none⟩))))(hS:Sl D₁ RI 1 (.slice (some ⟨bt,ot,none⟩) xs.length ct) xs)
  (kk:WL P X bad all K Q os ((d2,qI el)::(d,.pointer (some ⟨bt,ot+i.toNat*1,none⟩))::σ) μ Ds) (h0:0≤i:=by omega) (ht:P.underlying t=some (.slice e):=by exact U25) (hs:TS P e 1:=by exact aM) (ha:TA P t2 false:=by exact aJ) (hD:D₁∈Ds:=by first|simp|assumption) (hb:bt∉bad:=by first|exact n3|assumption|simp)
  (hN:Nat.blt d X.N=true:=by exact rfl) (hg:dE all σ g:=by exact bDY) (hN2:Nat.blt d2 X.N=true:=by exact rfl) (hg2:dE all ((d,.pointer (some ⟨bt,ot+i.toNat*1,none⟩))::σ) g2:=by exact bDY):WL P X bad all K Q ((fl,ix)::(fl2,ix2)::os) σ μ Ds:=
 aJM (aYY (fun z=>z.1) e9) ht hs (aYY (fun z=>z.2.2.1) e9) hS (aYY (fun z=>z.2.2.2.1) e9) h0 (aYY (fun z=>z.2.2.2.2.1) e9) hN hg fun cs hr hcl hA=>by
  obtain rfl:cs=[qI _]:=hr;exact dU (k:=0) (aYY (fun z=>z.2.1) e9) ha (aYY (fun z=>z.2.2.2.2.2) e9) hA hD rfl hb hN2 hg2 kk
end
theorem kK{α:Type}{R:Rd α}{D:aC}{sz:Nat}{xs:List α}{v:Value}(h:Sl D R sz v xs)(hne:xs≠[]):∃bt ot ct,v=.slice (some ⟨bt,ot,none⟩) xs.length ct:=by
 obtain⟨a,cap,hv,h1,h2,h3⟩:=h;rcases h3 with h3|⟨b,o,ha,_⟩
 ·exact absurd h3 hne
 ·exact⟨b,o,cap,by rw[hv,ha]⟩
theorem sW{t:TypeId}{b off:Nat}{vs us ws:List Value}{e:TypeId}{μ':aD}(ho:all[ix]?= some ⟨none,.store t x y,ty,pos,aft,g⟩)(hx:ev σ x=some (.pointer (some ⟨b,off,none⟩)))(hy:ev σ y=some v)(hv:v.cells=us.toArray)(hs:TS P t us.length)
  (hm:bR μ b (.cells vs.toArray e (0,0)) (.cells ws.toArray e (0,0)) μ') (hl:off+us.length≤vs.length) (hw:vs.take off++us++vs.drop (off+us.length)=ws) (G:∀u∈us,cell1 u=true) (hfl:fl=false∨b∈bad) (hg:dE all σ g)
  (kk:WL P X bad all K Q os σ μ' Ds):WL P X bad all K Q ((fl,ix)::os) σ μ Ds:=by
 refine eZ ho rfl rfl hg fun a w hh=>?_
 obtain⟨h1,h2,h3,D,h4,h5,I⟩:=id hh;obtain⟨w',hr,hw'⟩:=xY (P:=P) hs hv (h4.box _ hm.mem).1 hl G;have:(execOp a.eval ⟨none,.store t x y,ty,pos,aft,g⟩).run P w=.ok .skip w':=by
  simp only[execOp,hh.eval hx,hh.eval hy,Sem.run_bind,hr,Result.andThen_ok,Sem.run_pure]
 rw[this];rw[hw]at hw';refine⟨fun h=>⟨by rw[hw'.1];simp,fun c _ hn=>?_⟩,kk _ _ ⟨h1,h2,h3,D,h4.set hm hw' rfl,h5,I.step (fun _ p hp=>aZE Yar) (fun _=>kI hw' (GT.2 ⟨_,hm.mem,rfl⟩)) (h4.set hm hw' rfl).dom⟩⟩
 rcases hfl with hf|hf
 ·rw[hf]at h;cases h
 ·rw[hw'.1,bBG (by rintro rfl;exact hn hf)]
def BZ{α:Type}(P:Program)(f:FuncId)(cap:List Value)(Dr:aC)(xs:List α)(enc:Nat→List Value→Prop)(cells:α→List Value):Prop:=
 EF P f∧∀(lo l:Nat) (J Jx:List α→tL),(∀pre,I8 lo (J pre))→(∀pre,I8 lo (Jx pre))→
  (∀pre x β D w bo vs,(∃r,xs=pre++x::r)→zF lo D w→J pre β D w→(∀b∈β,b<w.heap.size)→Le Dr D→enc bo vs→DM β D w bo (cells x)→
   iM P l vs w fun b D' w'=>zF lo D' w'∧zK β D w D' w'∧(if b then J (pre++[x]) β D' w' else Jx (pre++[x]) β D' w'))→
  ∀D w,zF lo D w→Le Dr D→J [] [] D w→Calls P f (.func (.yield l) #[] #[]::cap).toArray w fun e w'=>∃v D',e=.returned v∧zF lo D' w'∧(J xs [] D' w'∨∃pre,Jx pre [] D' w')
theorem N0{α γ:Type}{xs:List α}{enc:Nat→List Value→Prop}{cells:α→List Value}{Dr:aC}{f:FuncId}{cap:List Value}{gop:Operand}{ps:Array Tmp}{assign body:Code}
  (Φ:List α→γ→Prop) (Ψ:List α→Code→γ→Prop) (M:γ→aD) (g₀:γ) (hr:X.r=none) (hex:X.ex=none) (hmods:∀g,∀k∈X.mods,k∈(M g).ks)
  (hg:ev σ gop=some (.func (.func f) #[] cap.toArray)) (hit:BZ P f cap Dr xs enc cells) (hDr:Dr∈Ds) (hps:∀b vs,enc b vs→vs.length=ps.size) (hpN:(ps.toList.all fun p=>Nat.blt p X.N)=true) (h₀:Φ [] g₀) (hμ:M g₀=μ)
  (hround:∀pre x g,(∃r,xs=pre++x::r)→Φ pre g→∀(l bd bo:Nat) (vs:List Value) (rec:Loop) (h0:H0) (D:aC),(∀D₁∈Ds,Le D₁ D)→enc bo vs→At D bo 0 (cells x)→rec.state=.ready→rec.pending=none→
   WC P (Xr l X.N h0 D ((M g++(l,Obj.loop rec)::[(bd,Obj.deferred (some []))]).map (·.1)))
    (Exit.then (fun a₁ w₁=>∃w₂,(Instr.beginRound l).run P w₁=.ok () w₂∧body.wpIn ((FW none).inRound l) 0 P (roundPost P l (zA h0 D ((M g++(l,Obj.loop rec)::[(bd,Obj.deferred (some []))]).map (·.1)) (Φ (pre++[x])) (Ψ (pre++[x]))
     (fun g=>M g++(l,Obj.loop {rec with state:=.ready,pending:=none})::[(bd,Obj.deferred (some []))]) (fun c g=>M g++(l,Obj.loop {rec with state:=.done,pending:=some c})::[(bd,Obj.deferred (some []))]))) a₁ w₂) (fun _ _ _=>False))
    assign (xZ ps.toList vs σ) (M g++(l,Obj.loop rec)::[(bd,Obj.deferred (some []))]) (D::Ds))
  (hdone:∀g bd,Φ xs g→∀a w,Hl (X.withDs bd) σ (M g++[(bd,Obj.deferred (some []))]) Ds a w→Q .normal a w)
  (hstop:∀pre c g bd,Ψ pre c g→WC P (X.withDs bd) Q c σ (M g++[(bd,Obj.deferred (some []))]) Ds):WC P X Q (.rangeFunc gop ps assign body) σ μ Ds:=by
 intro a w hh;subst hμ;have hev:=hh.eval hg;obtain⟨h1,h2,h3,D,h4,h5,V⟩:=hh;refine wpIn_rangeFunc fun fn _=>?_
 have hround':(FW X.r).round=none:=hr;rw[hround'];have hmk:∀g (B:aD),∀k∈X.mods,k∈(M g++B).ks:=fun g B k hk=>by
  show k∈(M g++B).map _;rw[aZH];exact aYX _ (hmods g k hk)
 let bd:=w.heap.size
 let l:=w.heap.size+1
 let G:Loop:={state:=.ready,pending:=none,fn,tmps:=a.tmps,params:=ps,assign,body,defers:=bd}
 let w1:World:={w with heap:=w.heap.push (.deferred (some []))}
 let w2:World:={w1 with heap:=w1.heap.push (.loop G)}
 have O:iD X.h0 X.lo X.D0 X.mods ((bd,Obj.deferred (some []))::M g₀) D w1:=h4.push (.deferred (some [])) trivial;have I:iD X.h0 X.lo X.D0 X.mods ((l,Obj.loop G)::(bd,Obj.deferred (some []))::M g₀) D w2:=by
  have:=O.push (.loop G) trivial;have e:w1.heap.size=l:=by simp[w1,l]
  rw[e]at this;exact this
 have hperm:iD X.h0 X.lo X.D0 X.mods (M g₀++(l,Obj.loop G)::[(bd,Obj.deferred (some []))]) D w2:=by
  refine I.sub (fun p hp=>?_) ?_
  ·simp only[aZF,n4,n3,bBB]at hp ⊢
   rcases hp with hp|hp|hp
   ·exact aYZ (aYZ hp)
   ·exact aZE hp
   ·exact aYZ (aZE hp)
  ·have hn:=I.nd;simp only[aZR,bAO,n4,not_or]at hn;simp only[aZH,aZR,bCT,aZC,bAO,n4,n3,bBB,bDD,bAV,and_true];refine⟨hn.2.2,hn.1.1,fun q hq r hr'=>?_⟩;rcases hr' with rfl|rfl
   ·rintro rfl;exact hn.1.2 hq
   ·rintro rfl;exact hn.2.1 hq
 refine⟨l,[mH bd],w2,{target:=.fn (.func f) cap.toArray,args:=#[.func (.yield l) #[] #[]]},w2,f,(.func (.yield l) #[] #[]::cap).toArray,w2,run_enterLoop_outer fn a.tmps ps assign body,?_,fun _ _=>trivial,?_,fun h=>by simp[FW]at h,?_⟩
 ·simp only[resolve,Deferred.ofValue];have e:Array.map a.eval #[Operand.const (Value.func (Fn.yield l) #[] #[])]=#[.func (.yield l) #[] #[]]:=by simp[Act.eval]
  rw[e,hev];rfl
 ·simp only[invoke];rw[hit.1];simp
 ·refine dP.2 ((hit.2 X.lo l
   (fun pre=>aHE X.h0 X.lo X.D0 X.mods Ds (Φ pre) fun g=>M g++(l,Obj.loop G)::[(bd,Obj.deferred (some []))])
   (fun pre=>aHE X.h0 X.lo X.D0 X.mods Ds (fun cg:Code×γ=>Ψ pre cg.1 cg.2) fun cg=>M cg.2++(l,Obj.loop {G with state:=.done,pending:=some cg.1})::[(bd,Obj.deferred (some []))])
   (fun _=>Q9) (fun _=>Q9) ?_ D w2 I.dom (h5 Dr hDr) ⟨g₀,h₀,hperm,h5,(fun _ h=>by cases h),(fun _ _ h=>by cases h),hmk g₀ _⟩).mono ?_)
  ·rintro pre x β Dx wx bo vs hx hdx ⟨g,hΦ,hst,hDs,hβ,hM,hmg⟩ hβs hle henc ⟨hbo,hbD,be,bfz,hbw⟩;have hbox:=(hst.box (l,Obj.loop G) Ye).1;refine⟨fn,_,assign,body,run_yield hbox (by simpa using hps bo vs henc),?_⟩;refine(roundIn_of_wpIn (F:=FW none) bDY (R:=zA (hd wx) (hC Dx bo (cells x)) ((M g++(l,Obj.loop G)::[(bd,Obj.deferred (some []))]).map (·.1)) (Φ (pre++[x])) (Ψ (pre++[x]))
     (fun g=>M g++(l,Obj.loop {G with state:=.ready,pending:=none})::[(bd,Obj.deferred (some []))]) (fun c g=>M g++(l,Obj.loop {G with state:=.done,pending:=some c})::[(bd,Obj.deferred (some []))])) ?_).mono ?_
   ·have hw:=hround pre x g hx hΦ l bd bo vs G (hd wx) (hC Dx bo (cells x)) (fun D₁ h=>(hDs D₁ h).trans (M8 hbD (hst.agr.ne0 hbD))) henc (IG _ _ _) rfl rfl;have ht:(ps.zip vs.toArray).foldl (fun tmps (t,a)=>tmps.setIfInBounds t a) a.tmps=(ps.toList.zip vs).foldl (fun tmps (p:Tmp×Value)=>tmps.setIfInBounds p.1 p.2) a.tmps:=by
     rw[←Array.foldl_toList];simp
    have hpN':∀p∈ps.toList,p<a.tmps.size:=fun p hp=>by rw[h1];simpa [Nat.blt_eq]using aZN.1 hpN p hp
    refine hw {tmps:=_,defers:=[]} wx ⟨?_,fun s v hs=>?_,rfl,hC Dx bo (cells x),⟨aZL _,aZL _,fun _ _ _=>rfl,fun _ _=>rfl,CY hst.agr hbw hbD,fun p hp=>?_,hst.nd,hst.fz,fun e he=>aZO he⟩,fun D₁ hD₁=>?_,bDY⟩
    ·show((ps.zip vs.toArray).foldl _ a.tmps).size=X.N;rw[ht,O0];exact h1
    ·show((ps.zip vs.toArray).foldl _ a.tmps)[s]?= some v;rw[ht];exact N8 _ _ _ _ h2 hpN' s v hs
    ·obtain⟨p1,p2,Y⟩:=hst.box p hp;exact⟨p1,by unfold hC;rw[aZB (fun e=>hM p hp (by rw[e];exact hbo))];exact p2,aYZ (GT.2 ⟨p,hp,rfl⟩)⟩
    ·rcases n4.1 hD₁ with rfl|hD₁
     ·exact Le.refl _
     ·exact(hDs D₁ hD₁).trans (M8 hbD (hst.agr.ne0 hbD))
   ·rintro e w' ⟨b,D',rfl,hb⟩;have fin:∀μ',iD (hd wx) wx.heap.size (hC Dx bo (cells x)) ((M g++(l,Obj.loop G)::[(bd,Obj.deferred (some []))]).map (·.1)) μ' D' w'→iD X.h0 X.lo X.D0 X.mods μ' (hC D' bo []) w'∧zK β Dx wx (hC D' bo []) w'∧(∀D₁∈Ds,Le D₁ (hC D' bo []))∧(∀p∈μ',p.1∉β):=by
     intro μ' U;have hs':=U.hide hbD (hst.agr.ne0 hbD);refine⟨hst.roundM hmg hs',iD.roundHigh hst.agr hs' hβs hM,fun D₁ hD₁=>(hDs D₁ hD₁).trans (gH hst.agr hs'),fun p hp hpb=>?_⟩;rcases(hs'.box p hp).2.2 with h|h
     ·have:=hβs _ hpb;omega
     ·obtain⟨q,hq,he⟩:=GT.1 h;exact hM q hq (by rw[he];exact hpb)
    refine⟨b,hC D' bo [],rfl,?_⟩;cases b with
    |true=>
     obtain⟨g',hg',hs'⟩:=hb;obtain⟨f1,f2,f3,f4⟩:=fin _ hs';exact⟨f1.dom,f2,g',hg',f1,f3,hβ,f4,hmk g' _⟩
    |false=>
     obtain⟨c',g',hg',hs'⟩:=hb;obtain⟨f1,f2,f3,f4⟩:=fin _ hs';exact⟨f1.dom,f2,(c',g'),hg',f1,f3,hβ,f4,hmk g' _⟩
  ·rintro e w' ⟨v,D',rfl,hd,hend⟩;have post:∀(g:γ) (r:Loop),iD X.h0 X.lo X.D0 X.mods (M g++(l,Obj.loop r)::[(bd,Obj.deferred (some []))]) D' w'→(∀D₁∈Ds,Le D₁ D')→
     Hl (X.withDs bd) σ (M g++[(bd,Obj.deferred (some []))]) Ds {a with defers:=[mH bd]++a.defers} (w'.putObj l (.loop {r with state:=.exhausted})):=by
    intro g r hs hD';have hHas:bR (M g++(l,Obj.loop r)::[(bd,Obj.deferred (some []))]) l (.loop r) (.loop {r with state:=.exhausted}) (M g++(l,Obj.loop {r with state:=.exhausted})::[(bd,Obj.deferred (some []))]):=.app .head;have hs':=hs.set (w':=w'.putObj l (.loop {r with state:=.exhausted})) hHas ⟨rfl,rfl⟩ trivial;have hs'':=hs'.sub (μ':=M g++[(bd,Obj.deferred (some []))]) (fun p hp=>by
     rcases aZF.1 hp with hp|hp
     ·exact aYX _ hp
     ·exact GE _ (n5 _ hp)) (by
     have hn:=hs'.nd;rw[aZH,aZC]at hn ⊢
     simp only[aZR]at hn;exact⟨hn.1,(bAO.1 hn.2.1).2,fun q hq r hr=>hn.2.2 q hq r (n5 _ hr)⟩)
    exact⟨h1,h2,aYY (mH bd:: ·) h3,D',hs'',hD',by unfold C4;show(match X.ex with|none=>True|some J=>_);rw[hex];trivial⟩
   rcases hend with⟨g,hΦ,hs,hDs,_,_,_⟩|⟨pre,⟨c,g⟩,hΨ,hs,hDs,_,_,_⟩
   ·have hb:=(hs.box (l,Obj.loop G) Ye).1;exact⟨none,_,run_endLoop hb (by simp[G]),hdone g bd hΦ _ _ (post g G hs hDs)⟩
   ·have hb:=(hs.box (l,Obj.loop {G with state:=.done,pending:=some c}) Ye).1;refine⟨some c,_,run_endLoop hb Ye,?_⟩;have:=hstop pre c g bd hΨ _ _ (post g _ hs hDs);exact this
theorem s9{α:Type}{f:FuncId}{fn:Func}{c:Code}{cap:List Value}{Dr:aC}{xs:List α}{enc:Nat→List Value→Prop}{cells:α→List Value}(N:Nat)(hf:P.funcs[f]?= some fn)(hn:(fn.name== "runtime.NumGoroutine")=false)(hb:fn.body=some c)(hN:fn.ntmps=N)(hsz:Nat.ble (cap.length+1) N=true)
  (h:∀(lo l:Nat) (J Jx:List α→tL),(∀pre,I8 lo (J pre))→(∀pre,I8 lo (Jx pre))→
   (∀pre x β D w bo vs,(∃r,xs=pre++x::r)→zF lo D w→J pre β D w→(∀b∈β,b<w.heap.size)→Le Dr D→enc bo vs→DM β D w bo (cells x)→
    iM P l vs w fun b D' w'=>zF lo D' w'∧zK β D w D' w'∧(if b then J (pre++[x]) β D' w' else Jx (pre++[x]) β D' w'))→
   WC P (Xj N lo (J [])) (bodyPost P fn (Y2 lo [Dr] fun _ J' _=>J'=J xs∨∃pre,J'=Jx pre)) c (iS 0 (.func (.yield l) #[] #[]::cap)) [] [Dr]):BZ P f cap Dr xs enc cells:=by
 refine⟨EF.of hf hn hb,fun lo l J Jx hs hsx hY D w hd hle hJ=>?_⟩;have hF:=H7 (μ:=[]) N hf hn hb hN (by simpa using hsz) (h lo l J Jx hs hsx hY);refine(hF.2 w ⟨D,⟨Nat.zero_le _,hd.2,fun b hb=>absurd hb (bCV _),fun b hb=>absurd hb (bCV _),hd.1,Yi,bAV,Yi,fun e he=>by cases he⟩,fun D₁ h1=>?_,hs [],hJ⟩).mono ?_
 ·simp only[aZM]at h1;subst h1;exact hle
 ·rintro e w' ⟨v,J',μ',rfl,⟨D',hst,hds,hex⟩,hpost⟩;refine⟨v,D',rfl,hst.dom,?_⟩;have hJ':J' [] D' w':=hex.1.own _ [] D' w' hex.2 (fun b hb=>by cases hb);rcases hpost with rfl|⟨pre,rfl⟩
  ·exact aZE hJ'
  ·exact aYZ ⟨pre,hJ'⟩
theorem Hl.subB{μ':aD}{a:Act}{w:World}(h:Hl X σ μ Ds a w)(hμ:μ'.Sublist μ):Hl X σ μ' Ds a w:=by
 obtain⟨g1,g2,g3,D,h4,h5,G⟩:=h;exact⟨g1,g2,g3,D,h4.sub (fun p hp=>hμ.subset hp) (h4.nd.sublist (hμ.map _)),h5,G.step (fun _ p hp=>aZE (GT.2 ⟨p,hμ.subset hp,rfl⟩)) (fun _=>aKU.refl _ _ _) h4.dom⟩
theorem o9{μ':aD}(hμ:μ'.Sublist μ)(h:WL P X bad all K Q os σ μ' Ds):WL P X bad all K Q os σ μ Ds:=fun a w hh=>h a w (hh.subB hμ)
theorem Hl.perm{μ':aD}{a:Act}{w:World}(h:Hl X σ μ Ds a w)(h1:∀r∈μ',r∈μ)(h2:(μ.map (·.1)).Nodup→(μ'.map (·.1)).Nodup):Hl X σ μ' Ds a w:=by
 obtain⟨g1,g2,g3,D,h4,h5,G⟩:=h;exact⟨g1,g2,g3,D,h4.sub h1 (h2 h4.nd),h5,G.step (fun _ r hr=>aZE (GT.2 ⟨r,h1 r hr,rfl⟩)) (fun _=>aKU.refl _ _ _) h4.dom⟩
def oC(v:Value):List PanicEntry:=[{v,recovered:=false}]
def lH(P:Program)(f:FuncId)(args:List Value)(D:aC)(ν:aD)(post:aC→Value→aD→Prop)(pan:Value→Prop):Prop:=
 EF P f∧∀w,eX D w→(∀p∈ν,w.heap[p.1]?= some p.2∧D p.1=[]∧dB p.2)→ν.ks.Nodup→Calls P f args.toArray w fun e w'=>
  (∃v D' ν',e=.returned v∧iD (hd w) w.heap.size D ν.ks ν' D' w'∧post D' v ν')∨(∃v D',e=.panicked (oC v)∧iD (hd w) w.heap.size D ν.ks [] D' w'∧pan v)
theorem iD.afterG{h0:H0}{lo:Nat}{D0 D D':aC}{mods:List Nat}{A B ν ν':aD}{w w':World}(h:iD h0 lo D0 mods (A++ν++B) D w)(hs:iD (hd w) w.heap.size D ν.ks ν' D' w'):iD h0 lo D0 mods (A++ν'++B) D' w':=by
 have hle:=bBE h.hlo h.size;have hin:∀c∈ν.ks,∃o,(c,o)∈ν:=fun c hc=>by
  obtain⟨p,hp,rfl⟩:=GT.1 hc;exact⟨p.2,hp⟩
 have hbx:∀p∈ν,_:=fun p hp=>h.box p (aYX _ (GE _ hp))
 have hnd:=h.nd;simp only[aZH]at hnd;have hA:∀p∈A,p.1∉ν.ks∧p.1<w.heap.size:=fun p hp=>⟨fun hm=>(aZC.1 (aZC.1 hnd).1).2.2 p.1 (GT.2 ⟨p,hp,rfl⟩) p.1 hm rfl,bH (h.box p (aYX _ (aYX _ hp))).1⟩
 have hB:∀p∈B,p.1∉ν.ks∧p.1<w.heap.size:=fun p hp=>⟨fun hm=>(aZC.1 hnd).2.2 p.1 (GE _ hm) p.1 (GT.2 ⟨p,hp,rfl⟩) rfl,bH (h.box p (GE _ hp)).1⟩
 have hN:∀p∈ν',p.1∈ν.ks∨w.heap.size≤p.1:=fun p hp=>((hs.box p hp).2.2).symm
 refine⟨h.hlo,bBE h.size hs.size,fun c hc hm=>?_,fun c hc=>?_,hs.agr,fun p hp=>?_,?_,fun p hp=>?_,fun e he=>(hs.env _ rfl).trans (h.env e he)⟩
 ·have hne:c∉ν.ks:=by
   intro hcm;obtain⟨o,ho⟩:=hin c hcm;rcases(hbx _ ho).2.2 with h'|h'
   ·have:=h.hlo;simp at h';omega
   ·exact hm h'
  rw[hs.old c (bBC hc hle) hne];exact h.old c hc hm
 ·rw[hs.dold c (bBC hc hle)];exact h.dold c hc
 ·rcases aZF.1 hp with hp|hp
  ·rcases aZF.1 hp with hp|hp
   ·obtain⟨h1,h2,h3⟩:=h.box p (aYX _ (aYX _ hp));obtain⟨hne,hl⟩:=hA p hp;exact⟨by rw[hs.old _ hl hne];exact h1,by rw[hs.dold _ hl];exact h2,h3⟩
   ·obtain⟨q1,q2,G⟩:=hs.box p hp;refine⟨q1,q2,?_⟩;rcases G with G|G
    ·exact aZE (bBE h.size G)
    ·obtain⟨o,ho⟩:=hin p.1 G;exact(hbx _ ho).2.2
  ·obtain⟨h1,h2,h3⟩:=h.box p (GE _ hp);obtain⟨hne,hl⟩:=hB p hp;exact⟨by rw[hs.old _ hl hne];exact h1,by rw[hs.dold _ hl];exact h2,h3⟩
 ·simp only[aZH];rw[aZC,aZC];refine⟨⟨(aZC.1 (aZC.1 hnd).1).1,hs.nd,fun a ha b hb e=>?_⟩,(aZC.1 hnd).2.1,fun a ha b hb e=>?_⟩
  ·obtain⟨p,hp,rfl⟩:=GT.1 ha;obtain⟨q,hq,rfl⟩:=GT.1 hb;obtain⟨h1,h2⟩:=hA p hp;rcases hN q hq with h3|h3
   ·exact h1 (e▸h3)
   ·omega
  ·rcases aZF.1 ha with ha|ha
   ·exact(aZC.1 hnd).2.2 a (aYX _ ha) b hb e
   ·obtain⟨p,hp,rfl⟩:=GT.1 ha;obtain⟨q,hq,rfl⟩:=GT.1 hb;obtain⟨h1,h2⟩:=hB q hq;rcases hN p hp with h3|h3
    ·exact h1 (e▸h3)
    ·omega
 ·rcases aZF.1 hp with hp|hp
  ·rcases aZF.1 hp with hp|hp
   ·exact h.fz p (aYX _ (aYX _ hp))
   ·exact hs.fz p hp
  ·exact h.fz p (GE _ hp)
theorem fE{c:Operand}{xs:Array Operand}{ats:Array TypeId}{f:FuncId}{c1 c2:List Value}{vs:List Value}{A B ν:aD}{post:aC→Value→aD→Prop}{pan:Value→Prop}(ho:all[ix]?= some ⟨some d,.call {callee:=.value c,args:=xs,argTypes:=ats},ty,pos,aft,g⟩)(hc:ev σ c=some (.func (.func f) c1.toArray c2.toArray))(hxs:X7 σ xs.toList=some vs)
  (hex:X.ex=none) (hfl:fl=false∨∀p∈ν,p.1∈bad) (hu:∀p∈ν,dB p.2) (hf:∀D,(∀D₁∈Ds,Le D₁ D)→lH P f (c1++vs++c2) D ν post pan) (hN:Nat.blt d X.N=true) (hg:dE all σ g)
  (kp:∀v D,(∀D₁∈Ds,Le D₁ D)→pan v→∀a w,Hl X σ (A++B) (D::Ds) a w→Q (.panic (oC v)) a w)
  (kk:∀v D ν',(∀D₁∈Ds,Le D₁ D)→post D v ν'→WL P X bad all K Q os ((d,v)::σ) (A++ν'++B) (D::Ds)):
  WL P X bad all K Q ((fl,ix)::os) σ (A++ν++B) Ds:=by
 refine eZ ho rfl rfl hg fun a w hh=>?_
 obtain⟨h1,h2,h3,D,h4,h5,h6⟩:=id hh;have hF:=hf D h5;have hbx:∀p∈ν,_:=fun p hp=>h4.box p (aYX _ (GE _ hp))
 have hnd:=h4.nd;simp only[aZH]at hnd;rw[vC hF.1 (hh.eval hc) (kP (fun _ _ hx=>hh.eval hx) hxs)];refine⟨fun h=>by simp[FW]at h,dP.2 ((hF.2 w h4.agr (fun p hp=>⟨(hbx p hp).1,(hbx p hp).2.1,hu p hp⟩) (aZC.1 (aZC.1 hnd).1).2.1).mono ?_)⟩;rintro e w' (⟨v,D',ν',rfl,hs,hpost⟩|⟨v,D',rfl,hs,hpan⟩)
 ·have hle:=gH h4.agr hs;refine⟨fun hflt=>⟨hs.size,fun c hc hcb=>hs.old c hc (fun hm=>?_)⟩,kk v D' ν' (fun D₁ hD₁=>(h5 D₁ hD₁).trans hle) hpost _ _ ?_⟩
  ·obtain⟨p,hp,rfl⟩:=GT.1 hm;rcases hfl with h|h
   ·rw[hflt]at h;cases h
   ·exact hcb (h p hp)
  ·refine Hl.put ⟨h1,h2,h3,D',h4.afterG hs,fun D₁ hD₁=>?_,by unfold C4;rw[hex];trivial⟩ hN v;rcases n4.1 hD₁ with rfl|hD₁
   ·exact Le.refl _
   ·exact(h5 D₁ hD₁).trans hle
 ·have hle:=gH h4.agr hs;have h7:=h4.afterG hs;rw[aZA]at h7;exact kp v D' (fun D₁ hD₁=>(h5 D₁ hD₁).trans hle) hpan a w' ⟨h1,h2,h3,D',h7,fun D₁ hD₁=>by
   rcases n4.1 hD₁ with rfl|hD₁
   ·exact Le.refl _
   ·exact(h5 D₁ hD₁).trans hle,by unfold C4;rw[hex];trivial⟩
theorem _root_.Go.Fs.Ze{c:Operand}{xs:Array Operand}{ats:Array TypeId}{f:FuncId}{c1:List Value}{c2:List Value}{vs:List Value}(A:aD)(B:aD)(ν:aD){post:aC→Value→aD→Prop}{pan:Value→Prop}(e9:(all[ix]?,ev σ c,X7 σ xs.toList,X.ex)=(some ⟨some d,.call {callee:=.value c,args:=xs,argTypes:=ats},ty,pos,aft,g⟩,some (.func (.func f) c1.toArray c2.toArray),some vs,none))(hfl:fl=false∨∀p∈ν,p.1∈bad)(hf:∀D,(∀D₁∈Ds,Le D₁ D)→lH P f (c1++vs++c2) D ν post pan)(kp:∀v D,(∀D₁∈Ds,Le D₁ D)→pan v→∀a w,Hl X σ (A++B) (D::Ds) a w→Q (.panic (oC v)) a w)(kk:∀v D ν',(∀D₁∈Ds,Le D₁ D)→post D v ν'→WL P X bad all K Q os ((d,v)::σ) (A++ν'++B) (D::Ds))(hu:∀p∈ν,dB p.2:=by exact Yi)(hN:Nat.blt d X.N=true:=by exact rfl)(hg:dE all σ g:=by exact bDY):WL P X bad all K Q ((fl,ix)::os) σ (A++ν++B) Ds:=fE (A:=A) (B:=B) (ν:=ν) (aYY (fun z=>z.1) e9) (aYY (fun z=>z.2.1) e9) (aYY (fun z=>z.2.2.1) e9) (aYY (fun z=>z.2.2.2) e9) hfl hu hf hN hg kp kk

def m6(X:Cx)(post:aC→Value→aD→Prop)(pan:Value→Prop):Ending→World→Prop:=fun e w'=>
 (∃v D' ν',e=.returned v∧iD X.h0 X.lo X.D0 X.mods ν' D' w'∧post D' v ν')∨(∃v D',e=.panicked (oC v)∧iD X.h0 X.lo X.D0 X.mods [] D' w'∧pan v)
theorem VH{fn:Func}{R:Ending→World→Prop}:PI (bodyPost P fn R):=fun _ _ _ _ he h=>⟨he.trans h.1,h.2⟩
theorem eQ{f:FuncId}{fn:Func}{c:Code}{args:List Value}{D:aC}{ν:aD}{post:aC→Value→aD→Prop}{pan:Value→Prop}(N:Nat)(hf:P.funcs[f]?= some fn)(hn:(fn.name== "runtime.NumGoroutine")=false)(hb:fn.body=some c)(hN:fn.ntmps=N)(hsz:Nat.ble args.length N=true)
  (h:∀h0:H0,(∀p∈ν,p.1<h0.size)→ν.ks.Nodup→WC P (qR N h0 D ν.ks) (bodyPost P fn (m6 (qR N h0 D ν.ks) post pan)) c (iS 0 args) ν [D]):lH P f args D ν post pan:=by
 refine⟨EF.of hf hn hb,fun w hw hν hnd=>?_⟩;subst hN;have hsz:=bAZ hsz;refine(dP (r:=none) (n:=0)).1 ((callsIn_of_wp (R:=m6 (qR fn.ntmps (hd w) D ν.ks) post pan) hf hb bDY (h (hd w) (fun p hp=>bH (hν p hp).1) hnd _ w ⟨?_,fun s v hs=>?_,rfl,D,⟨aZL _,aZL _,fun _ _ _=>rfl,fun _ _=>rfl,hw,(fun p hp=>?_),hnd,(fun p hp=>(hν p hp).2.2),fun e he=>aZO he⟩,fun D₁ h1=>?_,bDY⟩) rfl).mono ?_)
 ·simp[qR];omega
 ·obtain⟨_,h2⟩:=fQ args 0 s v hs;have hl:=(aYV.1 h2).1;simp only[bCM]at h2 hl;show(args.toArray++_)[s]?= some v;rw[bBD Yan];simpa using h2
 ·exact⟨(hν p hp).1,(hν p hp).2.1,aYZ (GT.2 ⟨p,hp,rfl⟩)⟩
 ·simp only[aZM]at h1;subst h1;exact Le.refl _
 ·rintro e w' (⟨v,D',ν',rfl,hs,hp⟩|⟨v,D',rfl,hs,hp⟩)
  ·exact aZE ⟨v,D',ν',rfl,hs,hp⟩
  ·exact aYZ ⟨v,D',rfl,hs,hp⟩
theorem kF{fn:Func}{A B ν':aD}{post:aC→Value→aD→Prop}{pan:Value→Prop}{e:Exit}(he:(match e with|.normal=>true|.ret=>true|_=>false)=true){rs:List ResultVar}{vs:List Value}(hds:X.ds=[])(hr:fn.results=rs.toArray)(h:xT P X σ (A++ν'++B) rs vs)
  (hp:∀D,(∀D₁∈Ds,Le D₁ D)→post D (qE vs) ν'):∀a w,Hl X σ (A++ν'++B) Ds a w→bodyPost P fn (m6 X post pan) e a w:=by
 intro a w hh;have hrun:=iK hh hr h;obtain⟨h1,h2,h3,D,h4,h5,h6⟩:=hh;have hnd:=h4.nd;simp only[aZH]at hnd;have:a.defers=[]∧∃v,(results fn a.tmps).run P w=.ok v w∧m6 X post pan (.returned v) w:=⟨h3.trans hds,_,hrun,aZE ⟨_,D,ν',rfl,h4.sub (fun p hp=>aYX _ (GE _ hp)) (aZC.1 (aZC.1 hnd).1).2.1,hp D h5⟩⟩
 cases e<;>first|exact this|cases he
theorem _root_.Go.Fs.Zag{fn:Func}(A:aD)(B:aD)(ν':aD){post:aC→Value→aD→Prop}{pan:Value→Prop}{e:Exit}{rs:List ResultVar}(vs:List Value)(e9:((match e with|.normal=>true|.ret=>true|_=>false),X.ds,fn.results)=(true,[],rs.toArray))(hp:∀D,(∀D₁∈Ds,Le D₁ D)→post D (qE vs) ν')(h:xT P X σ (A++ν'++B) rs vs:=by exact bDY):∀a w,Hl X σ (A++ν'++B) Ds a w→bodyPost P fn (m6 X post pan) e a w:=kF (A:=A) (B:=B) (ν':=ν') (vs:=vs) (aYY (fun z=>z.1) e9) (aYY (fun z=>z.2.1) e9) (aYY (fun z=>z.2.2) e9) h hp
theorem cJ{fn:Func}{post:aC→Value→aD→Prop}{pan:Value→Prop}{v:Value}(hds:X.ds=[])(hp:pan v):∀a w,Hl X σ μ Ds a w→bodyPost P fn (m6 X post pan) (.panic (oC v)) a w:=by
 rintro a w ⟨h1,h2,h3,D,h4,h5,G⟩;exact⟨h3.trans hds,aYZ ⟨v,D,rfl,h4.sub Yi bAV,hp⟩⟩
theorem aXQ{t:TypeId}{fs:Array Field}(ho:all[ix]?= some ⟨some d,.makeInterface t x,ty,pos,aft,g⟩)(ht:P.underlying t=some (.struct fs))(hx:ev σ x=some v)(hN:Nat.blt d X.N=true)(hg:dE all σ g)(k:WL P X bad all K Q os ((d,.iface t v)::σ) μ Ds):WL P X bad all K Q ((fl,ix)::os) σ μ Ds:=
 bQ ho rfl rfl hN hg (fun ρ hρ w'=>by
  simp only[execOp,hρ x _ hx];unfold Instr.makeInterface;rw[Sem.run_bind,Sem.run_bind,TU.of ht w'];rfl) k
theorem aOF{t:TypeId}{v:Value}(ho:all[ix]?= some ⟨none,.panic x,ty,pos,aft,g⟩)(hx:ev σ x=some (.iface t v))(hg:dE all σ g)(k:∀a w,Hl X σ μ Ds a w→Q (.panic (oC (.iface t v))) a w):WL P X bad all K Q ((fl,ix)::os) σ μ Ds:=by
 refine eZ ho rfl rfl hg fun a w hh=>?_
 have e:(execOp a.eval ⟨none,.panic x,ty,pos,aft,g⟩).run P w=.halt (.panic (.iface t v)) w:=by
  simp only[execOp,hh.eval hx,Instr.panic];rfl
 rw[e];exact k a w hh
theorem gQ{D:aC}{b:Nat}{l:List Bool}{R:Rd Bool}(hR:∀D x cs,cs=[Value.bool x]→R D x cs)(hA:At D b 0 (l.map Value.bool))(hl:l.length≤1000):Sl D R 1 (qS b l.length l.length) l:=by
 refine⟨_,_,rfl,aZL _,by omega,aYZ ⟨b,0,rfl,fun i x hi=>⟨_,hR _ _ _ rfl,rfl,fun j v hj=>?_⟩⟩⟩;cases j with
 |zero=>
  obtain rfl:Value.bool x=v:=by simpa using hj
  have h:=hA i (.bool x) (by rw[aZT,hi];rfl);simpa using h
 |succ j=>simp at hj
theorem lH.frame{f:FuncId}{args:List Value}{D:aC}{ν A B:aD}{post post':aC→Value→aD→Prop}{pan:Value→Prop}(h:lH P f args D ν post pan)(h1:∀D' v ν',Le D D'→post D' v ν'→post' D' v (A++ν'++B)):lH P f args D (A++ν++B) post' pan:=by
 refine⟨h.1,fun w hw hν hn=>?_⟩;have hnd:=hn;unfold aD.ks at hnd;simp only[aZH]at hnd;refine(h.2 w hw (fun p hp=>hν p (aYX _ (GE _ hp))) (aZC.1 (aZC.1 hnd).1).2.1).mono ?_;have hst:iD (hd w) w.heap.size D (A++ν++B).ks (A++ν++B) D w:=by
  refine⟨aZL _,aZL _,fun _ _ _=>rfl,fun _ _=>rfl,hw,fun p hp=>⟨(hν p hp).1,(hν p hp).2.1,aYZ (GT.2 ⟨p,hp,rfl⟩)⟩,hn,(fun p hp=>(hν p hp).2.2),fun e he=>aZO he⟩
 rintro e w' (⟨v,D',ν',he,hs,hp⟩|⟨v,D',he,hs,hp⟩)
 ·exact aZE ⟨v,D',A++ν'++B,he,hst.afterG hs,h1 _ _ _ (gH hw hs) hp⟩
 ·have G:=hst.afterG hs;exact aYZ ⟨v,D',he,G.sub Yi bAV,hp⟩
theorem aFQ{t e tr:TypeId}{a:Option Addr}{n c:Nat}{ats:Array TypeId}(ho:all[ix]?= some ⟨some d,.call {callee:=.builtin .len,args:=#[x],argTypes:=ats},tr,pos,aft,g⟩)(ht:P.underlying t=some (.slice e))(hx:ev σ x=some v)(hv:v=.slice a n c)(h0:ats[0]?= some t)
  (hN:Nat.blt d X.N=true) (hg:dE all σ g) (kk:WL P X bad all K Q os ((d,qI (n:Int))::σ) μ Ds):WL P X bad all K Q ((fl,ix)::os) σ μ Ds:=by
 subst hv;exact kW ho ht hx h0 hN hg kk
theorem iZ{t tr:TypeId}{b:ByteArray}{ats:Array TypeId}(ho:all[ix]?= some ⟨some d,.call {callee:=.builtin .len,args:=#[x],argTypes:=ats},tr,pos,aft,g⟩)(ht:P.underlying t=some .string)(hx:ev σ x=some (.string b))(hat:ats[0]?= some t)
  (hN:Nat.blt d X.N=true) (hg:dE all σ g) (kk:WL P X bad all K Q os ((d,qI (b.size:Int))::σ) μ Ds):WL P X bad all K Q ((fl,ix)::os) σ μ Ds:=
 bQ ho rfl rfl hN hg (fun ρ hρ w'=>by
  have hx':=hρ x _ hx;simp[Builtin.len_,hat,hx',Sem.run_bind,TU.of ht w',goInt,Sem.run_pure,go_sem]) kk
namespace C12
structure aN where
 row:C1.dG
 table:C2.aY
 book:C3.bA
 yard:C7.bC
end C12
open C12
def RB:Rd Bool:=fun _ b cs=>cs=[.bool b]
theorem RB.up:RB.Up:=fun _ _ _ h=>h
def RS:Rd ByteArray:=fun _ b cs=>cs=[.string b]
theorem RS.up:RS.Up:=fun _ _ _ h=>h
def dO(s:aN)(pv cv hv lv mv bl bc yc yq:Value):List Value:=
 [pv,cv,qI s.row.wrong,qI s.row.off,qI s.table.last,hv,qI s.table.step,lv,mv,qI s.book.chairs,qI s.book.coin,qI s.book.box,bl,bc,yc,qI s.yard.fit,yq]
@[simp] theorem stC_len(s:aN)(pv cv hv lv mv bl bc yc yq:Value):(dO s pv cv hv lv mv bl bc yc yq).length=17:=rfl
structure jM(D:aC)(s:aN)(pv cv hv lv mv bl bc yc yq:Value):Prop where
 pl:Sl D RI 1 pv s.row.places
 ct:Sl D RC 3 cv s.row.counts
 ht:Sl D Z7 2 hv s.table.heights
 lev:Sl D RI 1 lv s.table.levels
 mks:Sl D KX 4 mv s.table.marks
 ln:Sl D tN 3 bl s.book.lines
 cn:Sl D wC 3 bc s.book.counts
 ch:Sl D wZ 4 yc s.yard.chairs
 cl:Sl D R2 2 yq s.yard.claims
theorem jM.up{D D':aC}{s:aN}{pv cv hv lv mv bl bc yc yq:Value}(h:jM D s pv cv hv lv mv bl bc yc yq)(hl:Le D D'):jM D' s pv cv hv lv mv bl bc yc yq:=
 ⟨h.pl.up RI.up hl,h.ct.up RC.up hl,h.ht.up Z7.up hl,h.lev.up RI.up hl,h.mks.up KX.up hl,h.ln.up tN.up hl,h.cn.up wC.up hl,h.ch.up wZ.up hl,h.cl.up R2.up hl⟩
def iF(D:aC)(v:Value)(s:aN):Prop:=∃pv cv hv lv mv bl bc yc yq,v=.agg (dO s pv cv hv lv mv bl bc yc yq).toArray∧jM D s pv cv hv lv mv bl bc yc yq
theorem iF.up{D D':aC}{v:Value}{s:aN}(h:iF D v s)(hl:Le D D'):iF D' v s:=by
 obtain⟨pv,cv,hv,lv,mv,bl,bc,yc,yq,e,h1⟩:=h;exact⟨pv,cv,hv,lv,mv,bl,bc,yc,yq,e,h1.up hl⟩
theorem jM.row{D:aC}{s:aN}{pv cv hv lv mv bl bc yc yq:Value}(h:jM D s pv cv hv lv mv bl bc yc yq):pC D (.agg #[pv,cv,qI s.row.wrong,qI s.row.off]) s.row:=⟨pv,cv,rfl,h.pl,h.ct⟩
theorem jM.table{D:aC}{s:aN}{pv cv hv lv mv bl bc yc yq:Value}(h:jM D s pv cv hv lv mv bl bc yc yq):iJ D (.agg #[qI s.table.last,hv,qI s.table.step,lv,mv]) s.table:=⟨hv,lv,mv,rfl,h.ht,h.lev,h.mks⟩
theorem jM.book{D:aC}{s:aN}{pv cv hv lv mv bl bc yc yq:Value}(h:jM D s pv cv hv lv mv bl bc yc yq):gL D (.agg #[qI s.book.chairs,qI s.book.coin,qI s.book.box,bl,bc]) s.book:=⟨bl,bc,rfl,h.ln,h.cn⟩
theorem jM.yard{D:aC}{s:aN}{pv cv hv lv mv bl bc yc yq:Value}(h:jM D s pv cv hv lv mv bl bc yc yq):nM D (.agg #[yc,qI s.yard.fit,yq]) s.yard:=⟨yc,yq,rfl,h.ch,h.cl⟩
open Go.Proofs Tryz
namespace L1
open C1
theorem kA{α:Type}{p:α→Bool}{xs:List α}{k:Nat}{x:α}(hx:xs[k]?= some x)(h:(xs.take k).any p=false)(hp:p x=true):idxOf p xs=k:=by
 have hk:=(aYV.1 hx).1;have he:=(aYV.1 hx).2;have h1:xs.any p=true:=bDW.2 ⟨x,LE hx,hp⟩;have h2:xs.findIdx p=k:=by
  rw[List.findIdx_eq hk];refine⟨by rw[he];exact hp,fun j hj=>?_⟩
  have:=List.any_eq_false.1 h (xs[j]'Yd) (by
   rw[List.mem_take_iff_getElem];exact⟨j,by omega,rfl⟩)
  simpa using this
 simp[idxOf,h1,h2]
theorem gE{α:Type}{p:α→Bool}{xs:List α}(h:xs.any p=false):idxOf p xs= -1:=by simp[idxOf,h]
theorem jT{α:Type}{p:α→Bool}{xs:List α}:decide (0≤idxOf p xs)=xs.any p:=by
 unfold idxOf;cases h:xs.any p<;>simp
theorem nI{α:Type}{p:α→Bool}{xs:List α}:(!xs.any fun x=> !p x)=xs.all p:=by
 rw[List.all_eq_not_any_not]
theorem eP(n lo hi:Int)(D:aC):Fn prog 202 #[qI n,qI lo,qI hi] D (fun _ v=>v=.bool (gW n lo hi)):=by
 refine Zs 15 func202 rfl (fun h0=>aA<|Zg rfl<|aL<|Za rfl<|Za rfl<|lE rfl rfl rfl rfl bDY<|Za rfl ?_);refine' dJ 4 (s:=10) (p:=14) rfl (fun G=>?_) (fun G=>?_) ?_;rotate_left
 ·refine Zb rfl<|Zb rfl<|lE rfl rfl rfl rfl ⟨_,rfl,rfl⟩<|Zad rfl ?_;exact aQ 3
 ·refine Zf rfl<|Zf rfl<|Zf rfl<|Zae rfl ?_;exact aQ 3
 refine Zg rfl<|aG ?_;exact aE rfl (fun D hD=>rfl)
theorem aJO(n:Int)(D:aC):Fn prog 211 #[iV n] D (fun _ v=>v=.bool (rU n)):=by
 refine Zs 5 func211 rfl (fun h0=>aA<|Zg rfl<|aL<|Za rfl<|Zc rfl (fun I G=>eP _ _ _ _)<|Zg rfl<|aG ?_);exact aE rfl (fun D hD=>rfl)
theorem aGA(rv:Value)(r:dG)(c:xI)(D:aC)(hr:pC D rv r):Fn prog 209 #[rv,cV c] D (fun _ v=>v=.bool (qV r.places.length c)):=by
 obtain⟨pv,cv,rfl,hp,hc⟩:=hr;refine Zs 16 func209 rfl (fun h0=>aA<|Zu rfl (fun q1 Y O I=>Zu rfl (fun q2 Z R G=>Zg rfl<|aL<|Zh rfl S8 rfl<|Zj 1 rfl aJ rfl G rfl<|Zh rfl eB rfl<|Zj 0 rfl dN rfl I rfl<|cZ rfl U25 rfl Yl rfl rfl bDY<|Zc rfl (fun D1 U=>eP _ _ _ _) ?_)));refine Za rfl ?_;refine' dJ 4 (s:=11) (p:=15) rfl (fun M=>?_) (fun M=>?_) ?_;rotate_left
 ·refine Zi rfl vU rfl<|Zk 2 rfl aJ rfl G rfl<|Zd rfl (fun D2 V=>eP _ _ _ _)<|Zad rfl ?_;exact aQ 3
 ·refine Zf rfl<|Zf rfl<|Zf rfl<|Zae rfl ?_;exact aQ 3
 refine Zg rfl<|aG ?_;exact aE rfl (fun D hD=>rfl)
theorem uL(sv fv:Value)(xs:List Int)(p:Int→Bool)(D:aC)(hS:Sl D RI 1 sv xs)(hp:cX prog D iV fv p):
  Fn prog 364 #[sv,fv] D (fun _ v=>v=qI (idxOf p xs)):=by
 have hl:=hS.len;obtain⟨f,c1,c2,rfl,hf⟩:=hp;refine Zs 19 func364 rfl (fun h0=>aA<|Zg rfl<|bJ<|Za rfl<|cZ rfl U25 rfl Yl rfl rfl bDY<|Za rfl<|aF<|Zar<|Zl Nat (fun k=>xs.length-k) (fun k=>k≤xs.length∧(xs.take k).any p=false) (fun k=>[(8,qI k)]) [(7,_),(4,_),(0,_),(1,_)] (fun k=>[D]) 0 ⟨Yb,bDY⟩ ?_);rintro k ⟨h1,h2⟩;refine aA<|Zai rfl<|bT<|Zz rfl (fun G=>?_) (fun G=>?_)
 ·have hk:k<xs.length:=by omega
  obtain⟨x,hx⟩:=dV xs k;refine aT<|aS<|Zar<|aA<|Za rfl<|Zg rfl<|aL<|Za rfl<|Za rfl<|Za rfl<|eY rfl U25 aM rfl Yl rfl Yd Yl rfl bDY (fun V o1 I M U O=>?_);obtain rfl:I=[qI _]:=M;refine Zj 0 rfl aJ rfl O rfl<|Zc rfl (fun Y R=>hf x _ (R _ Ye))<|aF<|aP rfl (fun hc2=>?_) (fun hc2=>?_)
  ·refine aA<|Za rfl<|Zg rfl<|aG<|Zau<|Zap<|Zap<|Zau<|Zap ?_;exact aE rfl (fun D hD=>by show Value.int _ _=_;rw[kA hx h2 hc2])
  ·refine bM<|Zat<|Zaq<|aU<|Zaa rfl<|Za rfl<|Zah ?_;have hpx:p x=false:=hc2;have h3:(xs.take (k+1)).any p=false:=by rw[aZG,hx,bCF,h2];simp[hpx]
   exact aK 12 (k+1) ⟨by omega,h3⟩ Yd ⟨Yb,bDY⟩ rfl rfl Mm5 (aH)
 ·refine aW<|Zas<|Zas<|Zav<|Zaq<|aA<|Zg rfl<|aG ?_;exact aE rfl (fun D hD=>by show Value.int _ _=_;rw[gE Yab])
theorem mE(sv fv:Value)(xs:List Int)(p:Int→Bool)(D:aC)(hS:Sl D RI 1 sv xs)(hp:cX prog D iV fv p):
  Fn prog 309 #[sv,fv] D (fun _ v=>v=.bool (xs.any p)):=by
 refine Zs 9 func309 rfl (fun h0=>aA<|Zg rfl<|aL<|Za rfl<|Za rfl<|Zc rfl (fun I G=>uL _ _ xs p _ (Sl.at RI.up G Yl Ye) (hp.up (G _ Ye)))<|tC rfl rfl rfl rfl bDY<|Zg rfl<|aG ?_);exact aE rfl (fun D hD=>by show Value.bool (decide _)=_;rw[jT])
theorem yC(b:Nat)(fv:Value)(p:Int→Bool)(x:Int)(D:aC)(hp:cX prog D iV fv p)(hB:At D b 0 [fv]):
  Fn prog 310 #[iV x,qP b] D (fun _ v=>v=.bool (!p x)):=by
 obtain⟨f,c1,c2,rfl,hf⟩:=hp;refine Zs 8 func310 rfl (fun h0=>aA<|Zg rfl<|aL<|Zj 0 rfl oV rfl hB rfl<|Za rfl<|Zc rfl (fun I G=>hf x _ (G _ Ye))<|Zal rfl<|Zg rfl<|aG ?_);exact aE rfl (fun D hD=>rfl)
theorem O4(sv fv:Value)(xs:List Int)(p:Int→Bool)(D:aC)(hS:Sl D RI 1 sv xs)(hp:cX prog D iV fv p)(h1:fv.cells=#[fv]):
  Fn prog 210 #[sv,fv] D (fun _ v=>v=.bool (xs.all p)):=by
 refine Zs 9 func210 rfl (fun h0=>aA<|rC (vs:=[fv]) rfl rfl h1 rfl bDY (fun b I G hB=>Zg rfl<|aL<|Za rfl<|Zao rfl<|Zc rfl (fun I G=>mE _ _ xs (fun x=> !p x) _ (Sl.at RI.up G Yl Ye) ⟨_,[],[qP b],rfl,fun x M hl=>yC b fv p x M (hp.up ((G _ Ye).trans hl)) (hB.up ((G _ Ye).trans hl))⟩)<|Zal rfl<|Zg rfl<|aG ?_));exact aE rfl (fun D hD=>by show Value.bool (!_)=_;rw[nI])
theorem uT(sv fv:Value)(xs:List xI)(p:xI→Bool)(D:aC)(hS:Sl D RC 3 sv xs)(hp:cX prog D cV fv p):
  Fn prog 365 #[sv,fv] D (fun _ v=>v=qI (idxOf p xs)):=by
 have hl:=hS.len;obtain⟨f,c1,c2,rfl,hf⟩:=hp;refine Zs 19 func365 rfl (fun h0=>aA<|Zg rfl<|bJ<|Za rfl<|cZ rfl U26 rfl Yl rfl rfl bDY<|Za rfl<|aF<|Zar<|Zl Nat (fun k=>xs.length-k) (fun k=>k≤xs.length∧(xs.take k).any p=false) (fun k=>[(8,qI k)]) [(7,_),(4,_),(0,_),(1,_)] (fun k=>[D]) 0 ⟨Yb,bDY⟩ ?_);rintro k ⟨h1,h2⟩;refine aA<|Zai rfl<|bT<|Zz rfl (fun G=>?_) (fun G=>?_)
 ·have hk:k<xs.length:=by omega
  obtain⟨x,hx⟩:=dV xs k;refine aT<|aS<|Zar<|aA<|Za rfl<|Zg rfl<|aL<|Za rfl<|Za rfl<|Za rfl<|eY rfl U26 gV rfl Yl rfl Yd Yl rfl bDY (fun V o1 I M U O=>?_);obtain rfl:I=[.bool _,qI _,qI _]:=M;refine Zq rfl A7 rfl O gV<|Zc rfl (fun Y R=>hf x _ (R _ Ye))<|aF<|aP rfl (fun hc2=>?_) (fun hc2=>?_)
  ·refine aA<|Za rfl<|Zg rfl<|aG<|Zau<|Zap<|Zap<|Zau<|Zap ?_;exact aE rfl (fun D hD=>by show Value.int _ _=_;rw[kA hx h2 hc2])
  ·refine bM<|Zat<|Zaq<|aU<|Zaa rfl<|Za rfl<|Zah ?_;have hpx:p x=false:=hc2;have h3:(xs.take (k+1)).any p=false:=by rw[aZG,hx,bCF,h2];simp[hpx]
   exact aK 12 (k+1) ⟨by omega,h3⟩ Yd ⟨Yb,bDY⟩ rfl rfl Mm5 (aH)
 ·refine aW<|Zas<|Zas<|Zav<|Zaq<|aA<|Zg rfl<|aG ?_;exact aE rfl (fun D hD=>by show Value.int _ _=_;rw[gE Yab])
theorem pO(sv fv:Value)(xs:List xI)(p:xI→Bool)(D:aC)(hS:Sl D RC 3 sv xs)(hp:cX prog D cV fv p):
  Fn prog 311 #[sv,fv] D (fun _ v=>v=.bool (xs.any p)):=by
 refine Zs 9 func311 rfl (fun h0=>aA<|Zg rfl<|aL<|Za rfl<|Za rfl<|Zc rfl (fun I G=>uT _ _ xs p _ (Sl.at RC.up G Yl Ye) (hp.up (G _ Ye)))<|tC rfl rfl rfl rfl bDY<|Zg rfl<|aG ?_);exact aE rfl (fun D hD=>by show Value.bool (decide _)=_;rw[jT])
theorem AJ(b:Nat)(fv:Value)(p:xI→Bool)(x:xI)(D:aC)(hp:cX prog D cV fv p)(hB:At D b 0 [fv]):
  Fn prog 312 #[cV x,qP b] D (fun _ v=>v=.bool (!p x)):=by
 obtain⟨f,c1,c2,rfl,hf⟩:=hp;refine Zs 8 func312 rfl (fun h0=>aA<|Zu rfl (fun q1 O M G=>Zg rfl<|aL<|Zj 0 rfl aMT rfl hB rfl<|Zq rfl A7 rfl G gV<|Zc rfl (fun R I=>hf x _ (I _ Ye))<|Zal rfl<|Zg rfl<|aG ?_));exact aE rfl (fun D hD=>rfl)
theorem EZ(sv fv:Value)(xs:List xI)(p:xI→Bool)(D:aC)(hS:Sl D RC 3 sv xs)(hp:cX prog D cV fv p)(h1:fv.cells=#[fv]):
  Fn prog 212 #[sv,fv] D (fun _ v=>v=.bool (xs.all p)):=by
 refine Zs 9 func212 rfl (fun h0=>aA<|rC (vs:=[fv]) rfl rfl h1 rfl bDY (fun b I G hB=>Zg rfl<|aL<|Za rfl<|Zao rfl<|Zc rfl (fun I G=>pO _ _ xs (fun x=> !p x) _ (Sl.at RC.up G Yl Ye) ⟨_,[],[qP b],rfl,fun x M hl=>AJ b fv p x M (hp.up ((G _ Ye).trans hl)) (hB.up ((G _ Ye).trans hl))⟩)<|Zal rfl<|Zg rfl<|aG ?_));exact aE rfl (fun D hD=>by show Value.bool (!_)=_;rw[nI])
theorem m2(sv:Value)(x:Int)(xs:List Int)(D:aC)(hS:Sl D RI 1 sv (x::xs)):
  Fn prog 250 #[sv] D (fun _ v=>v=qI (xs.foldl min x)):=by
 have hl:=hS.len;simp only[aYW]at hl;refine Zs 25 func250 rfl (fun h0=>aA<|Zg rfl<|bJ<|Za rfl<|cZ rfl U25 rfl Yl rfl rfl bDY<|Zai rfl<|aF<|Zz rfl (fun G=>?_) (fun G=>?_))
 ·exact absurd G (by simp only[aYW];omega)
 ·refine aT<|aA<|Za rfl<|eY rfl U25 aM rfl Yl rfl Yd Yax rfl bDY (fun b1 o1 I M Y O=>?_);obtain rfl:I=[qI _]:=M;refine Zj 0 rfl aJ rfl O rfl<|Zg rfl<|bJ<|Zg rfl<|aF<|Zar<|gX (γ:=Nat) (fun k=>xs.length-k) (fun k=>k≤xs.length) (fun k=>[(3,qI ((xs.take k).foldl min x)),(4,qI (k+1:Int))]) [(2,_),(0,_)] (fun k=>[D]) 0 Yd ⟨Yb,Yb,bDY⟩ cQ (aH) ?_;rintro k h1;refine eH<|Za rfl<|Za rfl<|cZ rfl U25 rfl Yl rfl rfl bDY<|Zai rfl<|aF<|Zz rfl (fun hc2=>?_) (fun hc2=>?_)
  ·simp only[aYW]at hc2;have hk:k<xs.length:=by omega
   obtain⟨y,hy⟩:=dV xs k;have hB:(x::xs)[(k+1:Int).toNat]?= some y:=by rw[show((k:Int)+1).toNat=k+1 by omega];simpa using hy
   refine aT<|aS<|Zar<|aU<|Za rfl<|Za rfl<|Za rfl<|eY rfl U25 aM rfl Yl rfl Yd Yl rfl bDY (fun b2 o2 R U Z V=>?_);obtain rfl:R=[qI _]:=U;refine Zj 0 rfl aJ rfl V rfl<|OM rfl rfl rfl rfl bDY<|Zg rfl<|Zah<|Zat<|Zaq<|aU<|Za rfl<|Zaa rfl<|Zg rfl<|Zah ?_;have h3:(xs.take (k+1)).foldl min x=min ((xs.take k).foldl min x) y:=by rw[aZG,hy,bAN];rfl
   exact aK 16 (k+1) Yd Yd ⟨(by rw[h3];rfl),Yb,bDY⟩ rfl rfl Mm5 (aH)
  ·simp only[aYW]at hc2;refine aW<|Zas<|Zas<|Zav<|Zaq<|aA<|Za rfl<|Zg rfl<|aG ?_;exact aE rfl (fun D hD=>by show Value.int _ _=_;rw[aZP Yd])
theorem lR(sv:Value)(x:Int)(xs:List Int)(D:aC)(hS:Sl D RI 1 sv (x::xs)):
  Fn prog 216 #[sv] D (fun _ v=>v=qI (xs.foldl min x)):=by
 refine Zs 5 func216 rfl (fun h0=>aA<|Zg rfl<|aL<|Za rfl<|Zc rfl (fun I G=>m2 _ x xs _ (Sl.at RI.up G Yl Ye))<|Zg rfl<|aG ?_);exact aE rfl (fun D hD=>rfl)
end L1
namespace L1
open C1
theorem LH{r:dG}(h:(decide ((9:Int)<r.places.length)||decide ((6:Int)<r.counts.length))=true):aV r=3:=by
 simp only[bAD,aZI]at h;unfold aV;rw[aZK Yd]
theorem EE{r:dG}{b:Bool}(h:(decide ((9:Int)<r.places.length)||decide ((6:Int)<r.counts.length))=false)
  (h2:((((decide ((r.places.length:Int)=0)|| !gW r.wrong 0 6)|| !gW r.off 0 9)|| !r.places.all rU)|| !r.counts.all (qV r.places.length))=b):aV r=if b then 1 else 0:=by
 simp only[bAU,bAH]at h;unfold aV;rw[aZB Yd]
 subst h2;by_cases h1:r.places.length=0<;>cases gW r.wrong 0 6<;>cases gW r.off 0 9<;>cases r.places.all rU<;>cases r.counts.all (qV r.places.length)<;>simp[h1]
theorem T6{r:dG}(h:(decide ((9:Int)<r.places.length)||decide ((6:Int)<r.counts.length))=false)
  (h2:((((decide ((r.places.length:Int)=0)|| !gW r.wrong 0 6)|| !gW r.off 0 9)|| !r.places.all rU)|| !r.counts.all (qV r.places.length))=true):aV r=1:=EE h h2
theorem vL{r:dG}(h:(decide ((9:Int)<r.places.length)||decide ((6:Int)<r.counts.length))=false)
  (h2:((((decide ((r.places.length:Int)=0)|| !gW r.wrong 0 6)|| !gW r.off 0 9)|| !r.places.all rU)|| !r.counts.all (qV r.places.length))=false):aV r=0:=EE h h2
theorem JH{r:dG}{t:List Int}{k:Nat}{x:xI}(hx:r.counts[k]?= some x)(h2:(r.counts.take k).all (fun c=>decide (jH t c≤r.off))=true)(h:¬r.off<jH t x):(r.counts.take (k+1)).all (fun c=>decide (jH t c≤r.off))=true:=by
 rw[aZG,hx,List.all_append,h2];simp;omega
theorem LI{r:dG}{t:List Int}{k:Nat}{x:xI}(hx:r.counts[k]?= some x)(hb:0≤jH t x∧jH t x≤9):
  ((((r.counts.take (k+1)).filter fun c=>decide (0<jH t c)).length:Nat):Int)=((r.counts.take k).filter fun c=>decide (0<jH t c)).length+ [1].foldl min (jH t x):=by
 rw[aZG,hx,bBK,aYS];by_cases h:0<jH t x
 ·simp[h];omega
 ·simp[h];omega
theorem aGI{r:dG}{t:List Int}{x:xI}(hx:x∈r.counts)(h:r.off<jH t x):eN r t=false:=by
 unfold eN;rw[List.all_eq_false];exact⟨x,hx,by simp;omega⟩
theorem XI{r:dG}{t:List Int}(h:r.counts.all (fun c=>decide (jH t c≤r.off))=true):eN r t=true:=h
theorem Z0(rv:Value)(r:dG)(D:aC)(hr:pC D rv r):Fn prog 132 #[rv] D (fun _ v=>v=qI (aV r)):=by
 obtain⟨pv,cv,rfl,hp,hc⟩:=hr;refine Zs 47 func132 rfl (fun h0=>aA<|Zu rfl (fun q1 E1 hE G=>Zg rfl<|aL<|Zq rfl kD rfl G jX<|Zao rfl<|Zg rfl<|bT<|Zar<|aA<|Zh rfl eB rfl ?_));refine Zj 0 rfl dN rfl G rfl<|cZ rfl U25 rfl Yl rfl rfl bDY<|fI rfl rfl rfl rfl bDY<|Za rfl ?_;refine' cR 5 (s:=11) (p:=16) rfl (fun R=>?_) (fun R=>?_) ?_;rotate_left
 ·refine Zi rfl hP rfl<|Zk 1 rfl pT rfl G rfl<|cZ rfl U26 rfl Yl rfl rfl ⟨_,rfl,rfl⟩<|fI rfl rfl rfl rfl ⟨_,rfl,rfl⟩<|Zae rfl ?_;exact aQ 4
 ·refine Zf rfl<|Zf rfl<|Zf rfl<|Zf rfl<|Zad rfl ?_;exact aQ 4
 refine Zg rfl<|aF<|aP rfl (fun I=>?_) (fun I=>?_)
 ·refine aA<|Zg rfl<|aG<|Zau<|Zap ?_;exact aE rfl (fun D hD=>by show Value.int _ _=_;rw[LH I])
 ·refine aA<|Zh rfl eB rfl<|Zj 0 rfl dN rfl G rfl<|cZ rfl U25 rfl Yl rfl rfl bDY<|Zam rfl<|Za rfl ?_;refine' cR 5 (s:=22) (p:=27) rfl (fun U=>?_) (fun U=>?_) ?_;rotate_left
  ·refine Zi rfl yP rfl<|Zk 2 rfl aJ rfl G rfl<|Zd rfl (fun D1 hF=>eP _ _ _ _)<|lJ rfl rfl rfl ⟨_,rfl,rfl⟩<|Zae rfl ?_;exact aQ 4
  ·refine Zf rfl<|Zf rfl<|Zf rfl<|Zf rfl<|Zad rfl ?_;exact aQ 4
  refine Za rfl ?_;refine' cR 5 (s:=28) (p:=33) rfl (fun V=>?_) (fun V=>?_) ?_;rotate_left
  ·refine Zi rfl vS rfl<|Zk 3 rfl aJ rfl G rfl<|Zd rfl (fun O hH=>eP _ _ _ _)<|lJ rfl rfl rfl ⟨_,rfl,rfl⟩<|Zae rfl ?_;exact aQ 4
  ·refine Zf rfl<|Zf rfl<|Zf rfl<|Zf rfl<|Zad rfl ?_;exact aQ 4
  refine Za rfl ?_;refine' cR 5 (s:=34) (p:=39) rfl (fun Y=>?_) (fun Y=>?_) ?_;rotate_left
  ·refine Zi rfl eB rfl<|Zk 0 rfl dN rfl G rfl<|Zd rfl (fun D3 Z=>O4 _ _ _ rU _ (Sl.at RI.up Z Yl Ye) (.of fun x O=>aJO x O) rfl)<|lJ rfl rfl rfl ⟨_,rfl,rfl⟩<|Zae rfl ?_;exact aQ 4
  ·refine Zf rfl<|Zf rfl<|Zf rfl<|Zf rfl<|Zad rfl ?_;exact aQ 4
  refine Za rfl ?_;refine' cR 6 (s:=40) (p:=46) rfl (fun hB=>?_) (fun hB=>?_) ?_;rotate_left
  ·refine Zi rfl hP rfl<|Zk 1 rfl pT rfl G rfl<|Zb rfl<|Zd rfl (fun D4 M=>EZ _ _ _ (qV r.places.length) _ (Sl.at RC.up M Yl Ye) ⟨_,[_],[],rfl,fun c O hl=>aGA _ r c O ⟨_,_,rfl,hp.up RI.up ((M _ Ye).trans hl),hc.up RC.up ((M _ Ye).trans hl)⟩⟩ rfl)<|lJ rfl rfl rfl ⟨_,rfl,rfl⟩<|Zae rfl ?_;exact aQ 5
  ·refine Zf rfl<|Zf rfl<|Zf rfl<|Zf rfl<|Zf rfl<|Zad rfl ?_;exact aQ 5
  refine Zg rfl<|aF<|aP rfl (fun hc2=>?_) (fun hc2=>?_)
  ·refine aA<|Zg rfl<|aG<|Zau<|Zap ?_;exact aE rfl (fun D hD=>by show Value.int _ _=_;rw[T6 I hc2])
  ·refine bM<|Zat<|Zaq<|aA<|Zg rfl<|aG ?_;exact aE rfl (fun D hD=>by show Value.int _ _=_;rw[vL I hc2])
theorem aOM(c:List Int)(U:c.length=9)(hb:∀x∈c,0≤x∧x≤1)(D:aC):Fn prog 135 #[.agg (ints c).toArray] D (fun _ v=>v=.agg (ints (mJ c)).toArray):=by
 refine Zs 20 func135 rfl (fun h0=>aA<|Zu rfl (fun q1 M O G=>Zx rfl aQK rfl (fun q2=>bJ<|Zq rfl jO rfl G Yw<|Za rfl<|aF<|Zar<|dD (γ:=Nat) (fun k=>9-k) (fun k=>k≤9) (fun k=>[(6,qI (k:Int))]) [(5,_),(2,_)] (fun k=>[(q2,qC (ints (pZ c k)) 264)]) (fun k=>[M,D]) 0 Yd ⟨Yb,bDY⟩ cQ Mm5 (aH) ?_)));rintro k h1;refine aA<|Zai rfl<|bT<|Zz rfl (fun I=>?_) (fun I=>?_)
 ·have hk:k<9:=by omega
  obtain⟨x,hx⟩:=dV c k;have hx1:=hb x (LE hx);have hx2:=gJ hb 0 k;have R:=JZ c k Yd;have hlen:=AA c k;refine aT<|aS<|Zar<|aA<|Za rfl<|p5 rfl U258 aJ aM rfl rfl Yd Yd Yl rfl bDY<|Zg rfl<|Zg rfl<|aF<|aU<|Za rfl<|Zaa rfl ?_;refine Za rfl<|eM rfl U264 aM rfl rfl Yd Yd rfl bDY<|bZ rfl aJ rfl Mm0 (cD Yl) n3 rfl bDY<|Za rfl<|Zaa rfl<|eM rfl U264 aM rfl rfl Yd Yd rfl bDY<|x3 rfl aM rfl rfl (bR.head) (by simp only[*];omega) bDY<|Zah<|Zat<|Zaq<|aU<|Zaa rfl ?_;refine Za rfl<|Zah ?_;rw[←O6 (by simpa using hx),show((k:Int)+1).toNat=k+1 by omega,JF];exact aK 16 (k+1) Yd Yd ⟨Yb,bDY⟩ rfl rfl Mm5 (aH)
 ·obtain rfl:k=9:=by omega
  rw[HD];have hlen:=qD c;refine aW<|Zas<|Zas<|Zav<|Zaq<|aA<|Zy rfl d5 rfl Mm0 (by first|exact rW|(simp only[aO, *];exact rW))<|bD rfl rfl rfl rfl rW Ya Ya (bR.head) (dR _) bDY<|aG ?_
  exact cS (vs:=[_]) rfl rfl rfl ⟨⟨_,_,_,rfl,Mm0,aYZ ⟨d5,(by first|exact rW|(simp only[aZV,aO, *];exact rW)),rfl⟩⟩,bDY⟩ (fun D hD=>rfl)
theorem aUT(rv:Value)(r:dG)(c:xI)(t:List Int)(D:aC)(hr:pC D rv r)(hok:oQ r)(ht:qB r t)(hcm:c∈r.counts):
  Fn prog 313 #[rv,cV c,.agg (ints (mJ t)).toArray] D (fun _ v=>v=qI (jH t c)):=by
 obtain⟨pv,cv,rfl,hp,hc⟩:=hr;obtain⟨h1,h2,h3,h4⟩:=hok.cnt c hcm;have h9:=hok.len9;have hab:=Y8 ht h1 h2 h9;have I:=RY ht h1 h2;have R:=sU t c.many.toNat Yd;have U:=sU t r.places.length Yd;have V:=sU t (r.places.length-c.many.toNat) Yd;have Y:(mJ t)[(↑r.places.length-c.many).toNat]?= some (eD t 0 (r.places.length-c.many.toNat)):=by rw[show(↑r.places.length-c.many).toNat=r.places.length-c.many.toNat by omega];exact V
 rw[ht.1]at I;have hB:=gJ ht.2 0 r.places.length;have hE:=gJ ht.2 0 (r.places.length-c.many.toNat);have hF:=gJ ht.2 0 c.many.toNat;refine Zs 37 func313 rfl (fun h0=>aA<|Zu rfl (fun q1 E1 hH Z=>Zu rfl (fun q2 E2 hI G=>Zu rfl (fun q3 E3 hJ M=>Zg rfl<|aL<|Zh rfl S8 rfl<|Zj 1 rfl aJ rfl G rfl<|eM rfl U264 aM rfl rfl Yd Yd rfl bDY<|iW rfl aJ rfl M Ye (cD R) n3 rfl bDY<|Zg rfl ?_))));refine bJ<|Zh rfl eB rfl<|Zj 0 rfl dN rfl Z rfl<|cZ rfl U25 rfl Yl rfl rfl bDY<|Zg rfl<|aL<|Zh rfl YG rfl<|Zj 0 rfl BW rfl G rfl<|aF<|aP rfl (fun O=>?_) (fun O=>?_)
 ·rw[aZK O]at I;refine bW [] 5 11 504<|Za rfl<|eM rfl U264 aM rfl rfl Yd Yd rfl bDY<|iW rfl aJ rfl M Ye (cD U) n3 rfl bDY<|Za rfl<|Zh rfl S8 rfl<|Zj 1 rfl aJ rfl G rfl<|Zan rfl<|eM rfl U264 aM rfl rfl Yd Yd rfl bDY<|iW rfl aJ rfl M Ye (cD Y) n3 rfl bDY<|Zan rfl<|Zg rfl ?_;refine aL<|Za rfl<|Zh rfl vU rfl<|Zj 2 rfl aJ rfl G rfl<|Zan rfl<|Zh rfl vU rfl<|Zj 2 rfl aJ rfl G rfl<|Za rfl<|Zan rfl<|qW rfl rfl rfl rfl bDY<|Zg rfl<|aG ?_;exact aE rfl (fun D hD=>by show Value.int _ _=_;rw[←I];rfl)
 ·rw[aZB (by simp[O])]at I;refine aT<|aA<|Za rfl<|Zh rfl vU rfl<|Zj 2 rfl aJ rfl G rfl<|Zan rfl<|Zh rfl vU rfl<|Zj 2 rfl aJ rfl G rfl<|Za rfl<|Zan rfl<|qW rfl rfl rfl rfl bDY<|Zg rfl ?_;refine aG ?_;exact aE rfl (fun D hD=>by show Value.int _ _=_;rw[←I];rfl)
theorem aCA(rv:Value)(r:dG)(t:List Int)(D:aC)(hr:pC D rv r)(hok:oQ r)(ht:qB r t):
  Fn prog 215 #[rv,.agg (ints (mJ t)).toArray] D (fun D' v=>Sl D' RI 1 v (r.counts.map (jH t))):=by
 obtain⟨pv,cv,rfl,hp,hc⟩:=hr;have h6:=hok.cnt6;have hsl:=qD t;refine Zs 23 func215 rfl (fun h0=>aA<|Zu rfl (fun q1 E1 hM I=>Zu rfl (fun q2 E2 hN O=>Zg rfl<|bJ<|Zh rfl hP rfl<|Zj 1 rfl pT rfl I rfl<|cZ rfl U26 rfl Yl rfl rfl bDY<|Za rfl<|aF<|Zar ?_)));refine dD (γ:=Nat×Value×aD) (fun g=>r.counts.length-g.1) (fun g=>g.1≤r.counts.length∧bS 3 1 g.2.1 g.1 (ints ((r.counts.take g.1).map (jH t))) g.2.2) (fun g=>[(10,qI (g.1:Int)),(4,g.2.1)]) [(9,_),(8,_),(3,_),(2,_)] (fun g=>g.2.2++[]) (fun g=>[E2,E1,D]) (0,qN,[]) ⟨by simp,by simpa [ints]using bS.nil⟩ ⟨Yb,Yb,bDY⟩ cQ Mm5 (aH) ?_;rintro⟨k,v,ν⟩ ⟨h1,ha⟩;refine aA<|Zai rfl<|bT<|Zz rfl (fun R=>?_) (fun R=>?_)
 ·have hk:k<r.counts.length:=by omega
  obtain⟨x,hx⟩:=dV r.counts k;have hxm:=LE hx;refine aT<|aS<|Zar<|aA<|eY rfl U26 gV rfl Yl rfl Yd Yl rfl bDY (fun b1 o1 U V hI Y=>?_);obtain rfl:U=[.bool _,qI _,qI _]:=V;refine Zq rfl A7 rfl Y gV<|Zx rfl wJ rfl (fun q3=>Zt rfl gV (bR.head)<|aF<|aU<|Za rfl<|Zq rfl kD rfl I jX<|Zy rfl A7 rfl Mm0 gV<|dQ rfl d5 rfl O Yc (by first|exact rW|(simp only[aO, *];exact rW)) n3 rfl bDY<|Zc rfl (fun D1 M=>aUT _ r x t _ ⟨_,_,rfl,hp.up RI.up (M _ Ye),hc.up RC.up (M _ Ye)⟩ hok ht hxm)<|Zp rfl U25 aM dS rfl (.cons rfl rfl .nil) (fun hJ hK Z G=>?_))
  have hB:=Sl.ofInts (l:=[_]) (n:=1) (cap:=1) G rfl Yd Yd;refine bB (A:=[(_,_)]) (B:=_) rfl U25 rfl rfl aM dS rfl oD rfl rfl rfl ha (mI.lit G) Ye rfl Yaj Yk Yd (aZE rfl) rfl bDY (fun v1 ν1 hE=>?_);have hH:bS 3 1 v1 (k+1) (ints ((r.counts.take (k+1)).map (jH t))) ν1:=by rw[aZG,hx,bAR,aZH,←fV];exact hE
  refine Zg rfl<|Zah<|Zat<|Zaq<|aU<|Zaa rfl<|Za rfl<|Zah ?_;exact aK 16 (k+1,v1,ν1) ⟨by simp only;omega,hH⟩ Ym ⟨Yb,Yb,bDY⟩ rfl rfl (List.Sublist.cons _ Mm5) (fun D h=>⟨D,aZJ _ (h),Le.refl D⟩)
 ·obtain rfl:k=r.counts.length:=by omega
  rw[bAA]at ha;refine aW<|Zas<|Zas<|Zav<|Zaq<|aA<|Za rfl<|Zg rfl<|aG<|gC (A:=[]) (B:=[]) ha rfl (fun D2 hO hF=>?_);exact aE rfl (fun D hD=>(hF.ints Ye Yd).up RI.up (hD _ Ye))
theorem MO(rv:Value)(r:dG)(t:List Int)(D:aC)(hr:pC D rv r)(hok:oQ r)(ht:qB r t):
  Fn prog 134 #[rv,.agg (ints (mJ t)).toArray] D (fun _ v=>v=.tuple #[qI (if eN r t then(nR r t:Int)else 0),.bool (eN r t)]):=by
 obtain⟨pv,cv,rfl,hp,hc⟩:=hr;have h6:=hok.cnt6;have hsl:=qD t;refine Zs 27 func134 rfl (fun h0=>aA<|Zu rfl (fun q1 E1 hF R=>Zu rfl (fun q2 E2 hH V=>Zg rfl<|Zg rfl<|bJ<|Zq rfl kD rfl R jX<|dQ rfl d5 rfl V Yc (by first|exact rW|(simp only[aO, *];exact rW)) n3 rfl bDY<|Zv rfl (fun D1 G=>aCA _ r t _ ⟨_,_,rfl,hp.up RI.up (G _ Ye),hc.up RC.up (G _ Ye)⟩ hok ht) (fun v1 D1 G U=>Zab rfl U25 rfl U rfl<|Za rfl ?_))));refine aF<|Zar<|Zl Nat (fun k=>r.counts.length-k) (fun k=>k≤r.counts.length∧(r.counts.take k).all (fun c=>decide (jH t c≤r.off))=true) (fun k=>[(12,qI (k:Int)),(4,qI (((r.counts.take k).filter fun c=>decide (0<jH t c)).length:Int))]) [(11,_),(10,_),(5,_),(2,_)] (fun k=>[D1,E2,E1,D]) 0 ⟨Yb,Yb,bDY⟩ ?_;rintro k ⟨h1,h2⟩;refine aA<|Zai rfl<|bT<|Zz rfl (fun I=>?_) (fun I=>?_)
 ·simp only[bAY]at I;have hk:k<r.counts.length:=by omega
  obtain⟨x,hx⟩:=dV r.counts k;have hxm:=LE hx;have hx2:(r.counts.map (jH t))[k]?= some (jH t x):=by rw[aZT,hx];rfl
  have hxb:=IW hok ht hxm;have hlf:=bBO (fun c=>decide (0<jH t c)) (r.counts.take k);have hlt:(r.counts.take k).length≤k:=bDH _ _;refine aT<|aS<|Zar<|aA<|jZ rfl U rfl hx2 (fun b1 o1=>Zg rfl<|bJ<|Za rfl<|Zh rfl vS rfl<|Zj 3 rfl aJ rfl R rfl<|fI rfl rfl rfl rfl bDY<|aF ?_);refine Zz rfl (fun hc2=>?_) (fun hc2=>?_)
  ·refine aA<|Zg rfl<|Zg rfl<|aG<|Zap<|Zau<|Zap<|Zap<|Zau<|Zap ?_;exact cS (vs:=[_,_]) rfl rfl rfl cQ (fun D hD=>by show Value.tuple _=_;rw[aGI hxm hc2];rfl)
  ·refine aT<|aU<|Za rfl<|Za rfl<|Zp rfl U25 aM dS rfl (.cons rfl rfl (.cons rfl rfl .nil)) (fun hB hE Y M=>?_);have O:=Sl.ofInts (l:=[_,_]) (n:=2) (cap:=2) M rfl Yd Yd;refine Zc rfl (fun D2 Z=>lR _ (jH t x) [1] _ (O.up RI.up (Z _ Ye)))<|y7 rfl rfl rfl (by simp only[uN,bAG,List.foldl_nil];omega) rfl bDY<|Zg rfl<|Zah<|Zat<|Zaq<|aU<|Zaa rfl<|Za rfl<|Zah ?_
   exact aK 18 (k+1) ⟨by omega,JH hx h2 hc2⟩ Yd ⟨Yb,(by rw[LI hx hxb];rfl),bDY⟩ rfl rfl Mm5 (fun D h=>⟨D,aZJ _ (h),Le.refl D⟩)
 ·simp only[bAY]at I;obtain rfl:k=r.counts.length:=by omega
  rw[bAA]at h2;refine aW<|Zas<|Zas<|Zav<|Zaq<|aA<|Za rfl<|Zg rfl<|Zg rfl<|aG ?_;exact cS (vs:=[_,_]) rfl rfl rfl cQ (fun D hD=>by show Value.tuple _=_;rw[XI h2,bAA];rfl)
theorem P0(t:List Int)(D:aC)(h:t.length≤9)(hb:∀x∈t,0≤x∧x≤1):Fn prog 135 #[.agg (ints (fM t)).toArray] D (fun _ v=>v=.agg (ints (mJ t)).toArray):=
 (aOM (fM t) (gP h) (QG hb) D).mono fun _ v _ hv=>by rw[hv,OK]
end L1
namespace L12
def fD(code:Int):Value:=.iface 331 (.agg #[qI code])
theorem aBF(sv:Value)(xs:List Bool)(b:Bool)(D:aC)(hS:Sl D RB 1 sv xs):Fn prog 350 #[sv,.bool b] D (fun _ v=>v=qI (idxOf (fun x=>b==x) xs)):=by
 have hl:=hS.len;refine Zs 19 func350 rfl (fun h0=>aA<|Zg rfl<|bJ<|Za rfl<|cZ rfl U401 rfl Yl rfl rfl bDY<|Za rfl<|aF<|Zar<|Zl Nat (fun k=>xs.length-k) (fun k=>k≤xs.length∧(xs.take k).any (fun x=>b==x)=false) (fun k=>[(8,qI k)]) [(7,_),(4,_),(0,_),(1,_)] (fun k=>[D]) 0 ⟨Yb,bDY⟩ ?_);rintro k ⟨h1,h2⟩;refine aA<|Zai rfl<|bT<|Zz rfl (fun G=>?_) (fun G=>?_)
 ·have hk:k<xs.length:=by omega
  obtain⟨x,hx⟩:=dV xs k;refine aT<|aS<|Zar<|aA<|Za rfl<|Zg rfl<|aL<|Za rfl<|Za rfl<|Za rfl<|eY rfl U401 lT rfl Yl rfl Yd Yl rfl bDY (fun U o1 I M R O=>?_);obtain rfl:I=[.bool _]:=M;refine Zj 0 rfl BW rfl O rfl<|aUS rfl U4 rfl rfl rfl bDY<|aF<|aP rfl (fun hc2=>?_) (fun hc2=>?_)
  ·refine aA<|Za rfl<|Zg rfl<|aG<|Zau<|Zap<|Zap<|Zau<|Zap ?_;exact aE rfl (fun D hD=>by show Value.int _ _=_;rw[L1.kA hx h2 hc2])
  ·refine bM<|Zat<|Zaq<|aU<|Zaa rfl<|Za rfl<|Zah ?_;have h3:(xs.take (k+1)).any (fun x=>b==x)=false:=by rw[aZG,hx,bCF,h2];simpa using hc2
   exact aK 12 (k+1) ⟨by omega,h3⟩ Yd ⟨Yb,bDY⟩ rfl rfl Mm5 (aH)
 ·refine aW<|Zas<|Zas<|Zav<|Zaq<|aA<|Zg rfl<|aG ?_;exact aE rfl (fun D hD=>by show Value.int _ _=_;rw[L1.gE Yab])
theorem HK(sv:Value)(xs:List Bool)(b:Bool)(D:aC)(hS:Sl D RB 1 sv xs):Fn prog 288 #[sv,.bool b] D (fun _ v=>v=.bool (xs.any fun x=>b==x)):=by
 refine Zs 9 func288 rfl (fun h0=>aA<|Zg rfl<|aL<|Za rfl<|Za rfl<|Zc rfl (fun I G=>aBF _ xs b _ (Sl.at RB.up G Yl Ye))<|tC rfl rfl rfl rfl bDY<|Zg rfl<|aG ?_);exact aE rfl (fun D hD=>by show Value.bool (decide _)=_;rw[L1.jT])
theorem fH(code:Int)(cs:List Bool)(sv:Value)(D:aC)(hS:Sl D RB 1 sv cs):lH prog 190 [qI code,sv] D [] (fun _ _ ν'=>cs.any (fun x=>true==x)=false∧ν'=[]) (fun v=>cs.any (fun x=>true==x)=true∧v=fD code):=by
 refine eQ 9 func190 rfl rfl rfl rfl (fun h0 hwl hwn=>aA<|Za rfl<|Zc rfl (fun M I=>HK _ cs true _ (hS.up RB.up (I _ Ye)))<|aF<|aP rfl (fun G=>?_) (fun G=>?_))
 ·refine aU<|Za rfl<|Zr [qI code] rfl aND VU rfl<|aXQ rfl U331 rfl rfl bDY ?_;exact aOF rfl rfl bDY (cJ rfl ⟨G,rfl⟩)
 ·refine bM ?_;exact Zag [] [] [] [] rfl (fun D' hD=>⟨G,rfl⟩)
end L12
namespace L1
open C1
def iC(br bY bc bh:Nat)(c:List Int):aD:=[(bh,qC [.func (.func 214) #[] #[qP br,qP bY,qP bc,qP bh]] 182),(bc,qC (ints c) 258)]
theorem sP{c pre:List Int}{i:Nat}{k:Int}(h:c.take (i+1)=pre++[k])(hl:pre.length=i):c.take i=pre:=by
 have:=aYY (List.take i) h;rw[List.take_take,bCW (Nat.le_succ i)]at this;rw[this,bAB Yd,aZP Yd]
def HA(x:List Int):List Value:=[.agg (ints x).toArray]
def UM(P:Program)(Dr:aC)(lo l:Nat)(J Jx:List (List Int)→tL)(xs:List (List Int)):Prop:=∀pre x β D w,(∃r,xs=pre++x::r)→zF lo D w→J pre β D w→(∀b∈β,b<w.heap.size)→Le Dr D→
    iM P l (HA x) w fun b D' w'=>zF lo D' w'∧zK β D w D' w'∧(if b then J (pre++[x]) β D' w' else Jx (pre++[x]) β D' w')
def Q5(J Jx:List (List Int)→tL)(br bY bc bh:Nat)(places:List Int)(pre:List Int)(i:Nat)(done:List (List Int))(v:Value)(J':tL)(μ':aD):Prop:=
 ∃b c',v=.bool b∧c'.length=9∧c'.take i=pre∧c'.drop places.length=List.replicate (9-places.length) 0∧μ'=iC br bY bc bh c'∧(if b=true then J'=J (done++(cT (places.drop i)).map fun t=>fM (pre++t))else ∃p,J'=Jx p)
theorem wE{lo l:Nat}{J Jx:List (List Int)→tL}{places:List Int}{xs:List (List Int)}{Dr Dy:aC}{Ds:List aC}{br bY bc bh:Nat}{pv cv:Value}{w1 w2:Int}(U:places.length≤9)
  (hs:∀pre,I8 lo (J pre)) (hsx:∀pre,I8 lo (Jx pre)) (hY:UM prog Dr lo l J Jx xs) (hDr:Dr∈Ds) (hDy:Dy∈Ds) (hA:At Dr br 0 [pv,cv,qI w1,qI w2]) (hpl:Sl Dr RI 1 pv places) (hB:At Dy bY 0 [.func (.yield l) #[] #[]]):
  ∀(j i:Nat) (pre c:List Int) (done rest:List (List Int)) (iv:Int),iv=i→i+j=places.length→pre.length=i→c.length=9→c.take i=pre→c.drop places.length=List.replicate (9-places.length) 0→
   xs=done++(cT (places.drop i)).map (fun t=>fM (pre++t))++rest→
   aWF prog 214 [qI iv,qP br,qP bY,qP bc,qP bh] lo (J done) (iC br bY bc bh c) Ds (Q5 J Jx br bY bc bh places pre i done):=by
 intro j;induction j using Nat.strongRecOn with
 |_ j ih=>
 intro i pre c done rest iv hiv hij hl V hp hz hxs;subst hiv;have hmx:=hpl.len;refine H7 (μ:=iC br bY bc bh c) 41 func214 rfl rfl rfl rfl<|aA<|Zg rfl<|bJ<|Za rfl<|Zh rfl eB rfl<|Zj 0 rfl dN rfl hA rfl<|cZ rfl U25 rfl Yl rfl rfl bDY<|Zam rfl<|aF<|Zz rfl (fun Y=>?_) (fun Y=>?_)
 ·have hin:i=places.length:=by omega
  subst hin;have hleaf:=(IM V hp hl hz).symm;rw[List.drop_length]at hxs;simp only[cT,aZR,bCT,aZA]at hxs;rw[hleaf,aZD,bCK]at hxs;refine aA<|Zj 0 rfl aNA rfl hB rfl<|bK rfl jO rfl Mm1 Yw n3 rfl bDY<|II (l:=l) (J1:=J (done++[c])) (J0:=Jx (done++[c])) rfl rfl rfl rfl (hs _) (hsx _) (fun D w hd hJ hb hl=>hY done c _ D w ⟨rest,hxs⟩ hd hJ (fun b hbm=>by obtain⟨p,hp,rfl⟩:=GT.1 hbm;exact hb p hp) (hl _ hDr)) rfl bDY (fun Z J1 hD=>Zg rfl<|aG<|Zap ?_)
  exact lO (P:=prog) (fn:=f214) (N:=41) (vs:=[_]) rfl rfl ⟨rfl,bDY⟩ (fun D h=>⟨D,h,Le.refl D⟩) ⟨Z,c,rfl,V,hp,hz,rfl,by cases Z<;>simp only[hD,bAX,bAE,bBH];exact⟨_,rfl⟩;simp[cT,hleaf]⟩
 ·have hin:i<places.length:=by omega
  obtain⟨p,hpi⟩:=dV places i;have hd:places.drop i=p::places.drop (i+1):=by rw[bAM hin];congr 1;exact aZO ((aYU hin).symm.trans hpi)
  rw[hd,←SZ]at hxs;refine aT<|eH<|Za rfl<|aF<|Zar<|a7 (γ:=Nat×List Int) (fun g=>2-g.1) (fun g=>g.1≤2∧g.2.length=9∧g.2.take i=pre∧g.2.drop places.length=List.replicate (9-places.length) 0) (fun g=>J (done++NO p (places.drop (i+1)) pre g.1)) (fun g=>[(17,qI (g.1:Int))]) [(6,_),(0,_),(1,_),(3,_),(4,_)] (fun g=>iC br bY bc bh g.2) (fun g=>Ds) (0,c) ⟨by simp,V,hp,hz⟩ (by simp[aGW]) ⟨Yb,bDY⟩ cQ Mm5 (aH) ?_;rintro⟨k,c1⟩ ⟨hF,G,I,M⟩;refine aA<|Zai rfl<|bT<|Zz rfl (fun hc2=>?_) (fun hc2=>?_)
  ·refine aT<|aS<|Zar<|aA<|Za rfl<|Zg rfl<|aL<|Zh rfl eB rfl<|Zj 0 rfl dN rfl hA rfl<|Za rfl<|jZ rfl hpl rfl hpi (fun Z o1=>Zg rfl ?_);refine aL<|Za rfl<|Zam rfl<|Za rfl ?_;refine' cR 4 (s:=27) (p:=31) rfl (fun hE=>?_) (fun hE=>?_) ?_;rotate_left
   ·refine Zb rfl<|Zb rfl<|sJ rfl rfl rfl rfl ⟨_,rfl,rfl⟩<|Zae rfl ?_;exact aQ 3
   ·refine Zf rfl<|Zf rfl<|Zf rfl<|Zad rfl ?_;exact aQ 3
   refine aF<|aP rfl (fun O=>?_) (fun O=>?_)
   ·have hpk:p=2∨p=(k:Int):=by simpa using O
    obtain⟨rr,hr⟩:=aEN (p:=p) (ps:=places.drop (i+1)) (pre:=pre) (k:=k) Yd;have hset:=QE (k:=(k:Int)) G hin U I M;refine aA<|Za rfl<|Za rfl<|eM rfl U258 aM rfl rfl Yd Yd rfl bDY<|x3 rfl aM rfl rfl (.tail (bR.head)) (by simp only[*];omega) bDY<|aL<|Zm rfl oV rfl Mm0 rfl<|Za rfl<|Zaa rfl<|tY rfl rfl rfl rfl (ih (j-1) Yd (i+1) (pre++[(k:Int)]) (c1.set i k) (done++NO p (places.drop (i+1)) pre k) (rr++rest) (i+1:Int) Yd Yd Yaj hset.1 hset.2.1 hset.2.2 (by rw[hxs,hr,VN hpk];simp)) rfl bDY ?_
    rintro _ J2 _ ⟨b2,c2,rfl,h9',hp',hz',rfl,hJ2⟩;refine Zal rfl<|aF<|aP rfl (fun R=>?_) (fun R=>?_)
    ·obtain rfl:b2=false:=by simpa using R
     refine aA<|Zg rfl<|aG<|Zau<|Zap<|Zap<|Zau<|Zap ?_;exact lO (P:=prog) (fn:=f214) (N:=41) (vs:=[_]) rfl rfl ⟨rfl,bDY⟩ (fun D h=>⟨D,h,Le.refl D⟩) ⟨false,c2,rfl,h9',sP hp' hl,hz',rfl,by simpa using hJ2⟩
    ·obtain rfl:b2=true:=by simpa using R
     refine bM<|Zat<|Zaq<|aU<|Zaa rfl<|Za rfl<|Zah ?_;exact tG 24 (k+1,c2) ⟨by simp only;omega,h9',sP hp' hl,hz'⟩ Ym (by simpa only[bAX,VN hpk,aZD]using hJ2) ⟨Yb,bDY⟩ rfl rfl Mm5 (aH)
   ·have hpk:¬(p=2∨p=(k:Int)):=by simpa using O
    refine bM<|Zat<|Zaq<|aU<|Zaa rfl<|Za rfl<|Zah ?_;exact tG 16 (k+1,c1) ⟨by simp only;omega,G,I,M⟩ Ym (by rw[aTH hpk]) ⟨Yb,bDY⟩ rfl rfl Mm5 (aH)
  ·refine aW<|Zas<|Zas<|Zav<|Zaq<|aA<|Zg rfl<|aG ?_;exact lO (P:=prog) (fn:=f214) (N:=41) (vs:=[_]) rfl rfl ⟨rfl,bDY⟩ (fun D h=>⟨D,h,Le.refl D⟩) ⟨true,c1,rfl,G,I,M,rfl,by simp only[bAX];rw[hd,←SZ,show k=2 by omega]⟩
theorem aFU(places:List Int)(Dr:aC)(br:Nat)(pv cv:Value)(w1 w2:Int)(I:places.length≤9)(hA:At Dr br 0 [pv,cv,qI w1,qI w2])(hpl:Sl Dr RI 1 pv places):
  U7 prog 213 [qP br] Dr ((cT places).map fM) HA:=by
 refine CJ 8 func213 rfl rfl rfl rfl (fun lo l J Jx hs hsx hY=>aA<|Zu rfl (fun q1 O M G=>aL<|Zx rfl rR rfl (fun q2=>aL<|Zx rfl d4 rfl (fun R=>aL<|Zao rfl<|Zo rfl g7 (bR.head) rfl<|aF<|aU ?_))));refine Zm rfl oV rfl Mm0 rfl<|tY rfl rfl rfl rfl (wE (l:=l) Yd hs hsx hY Ye Ye hA hpl G places.length 0 [] (List.replicate 9 0) [] [] 0 rfl Yd rfl rfl rfl (List.drop_replicate ..) Ye) rfl bDY ?_;rintro _ U _ ⟨b2,c2,rfl,h9',hp',hz',rfl,hJ2⟩;refine Zah ?_;exact lO (P:=prog) (fn:=f213) (N:=8) (vs:=[]) rfl rfl bDY (fun D h=>⟨D,by simp only[aZM]at h;subst h;simp,Le.refl D⟩) Ya0
theorem WM(rv:Value)(r:dG)(D:aC)(hr:pC D rv r)(G:r.places.length≤9):
  Fn prog 133 #[rv] D (fun D' v=>∃br,v=.func (.func 213) #[] #[qP br]∧U7 prog 213 [qP br] D' ((cT r.places).map fM) HA):=by
 obtain⟨pv,cv,rfl,hp,hc⟩:=hr;refine Zs 4 func133 rfl (fun h0=>aA<|Zu rfl (fun q1 O M I=>Zg rfl<|aL<|Zao rfl<|Zg rfl<|aG ?_));exact aE rfl (fun D hD=>⟨_,rfl,aFU r.places _ q1 pv cv r.wrong r.off G (I.up (hD _ Ye)) (hp.up RI.up (hD _ Ye))⟩)
end L1
namespace L1
open C1
theorem LJ{c:List Int}{i j:Int}(h0:0≤i)(h1:i≤j):eD c 0 (j+1).toNat-eD c 0 i.toNat=oN c i.toNat j.toNat:=by
 unfold oN;have h:=G3 c 0 i.toNat (j.toNat+1-i.toNat);rw[show i.toNat+(j.toNat+1-i.toNat)=(j+1).toNat by omega,bCB]at h;omega
theorem aGN{r:dG}{t:List Int}(h:(eN r t&&decide ((if eN r t=true then(nR r t:Int)else 0)≤r.wrong))=true):fits r t=true:=by
 unfold fits;cases he:eN r t<;>simp[he]at h ⊢;exact h
theorem aLO{r:dG}{t:List Int}(h:(eN r t&&decide ((if eN r t=true then(nR r t:Int)else 0)≤r.wrong))=false):fits r t=false:=by
 unfold fits;cases he:eN r t<;>simp[he]at h ⊢;exact h
theorem aRL{r:dG}(h:oQ r)(k:Nat):(((cT r.places).take k).filter (fits r)).length≤512:=by
 have h1:=bBO (fits r) ((cT r.places).take k);have h2:=yI r.places;have h3:2^r.places.length≤2^9:=bCE Yd h.len9;have h4:((cT r.places).take k).length≤(cT r.places).length:=by rw[bBI];omega
 omega
theorem aNS{r:dG}(h:oQ r)(k:Nat):∀t∈((cT r.places).take k).filter (fits r),t.length≤9:=fun t ht=>by
 have:=(rF (bDU (List.mem_filter.1 ht).1)).1;have:=h.len9;omega
theorem AS{r:dG}(h:oQ r):(truths r).length≤512:=by
 have h1:=bBO (fits r) (cT r.places);have h2:=yI r.places;have h3:2^r.places.length≤2^9:=bCE Yd h.len9;show((cT r.places).filter (fits r)).length≤512;omega
theorem aPS(rv:Value)(r:dG)(i j:Int)(D:aC)(hr:pC D rv r):Fn prog 121 #[rv,qI i,qI j] D (fun _ v=>v=.bool (oG r i j)):=by
 obtain⟨pv,cv,rfl,hp,hc⟩:=hr;have hl:=hp.len;refine Zs 22 func121 rfl (fun h0=>aA<|Zu rfl (fun q1 U M G=>Zg rfl<|aL<|Za rfl<|Zh rfl eB rfl<|Zj 0 rfl dN rfl G rfl<|cZ rfl U25 rfl Yl rfl rfl bDY<|Zan rfl<|Zc rfl (fun V O=>eP _ _ _ _)<|Za rfl ?_));refine' dJ 8 (s:=13) (p:=21) rfl (fun I=>?_) (fun I=>?_) ?_;rotate_left
 ·refine Zb rfl<|Zb rfl<|Zi rfl eB rfl<|Zk 0 rfl dN rfl G rfl<|cZ rfl U25 rfl Yl rfl rfl ⟨_,rfl,rfl⟩<|P9 rfl rfl rfl Yf rfl ⟨_,rfl,rfl⟩<|Zd rfl (fun Y R=>eP _ _ _ _)<|Zad rfl ?_;exact aQ 7
 ·refine Zf rfl<|Zf rfl<|Zf rfl<|Zf rfl<|Zf rfl<|Zf rfl<|Zf rfl<|Zae rfl ?_;exact aQ 7
 refine Zg rfl<|aG ?_;exact aE rfl (fun D hD=>rfl)
theorem aSR(c:List Int)(i j:Int)(D:aC)(I:0≤i)(hij:i≤j)(R:j<9)(hb:∀x∈c,0≤x∧x≤1):Fn prog 203 #[.agg (ints (mJ c)).toArray,qI i,qI j] D (fun _ v=>v=qI (oN c i.toNat j.toNat)):=by
 have hsl:=qD c;have M:=sU c (j+1).toNat Yd;have O:=sU c i.toNat Yd;have U:=gJ hb 0 (j+1).toNat;have V:=gJ hb 0 i.toNat;refine Zs 15 func203 rfl (fun h0=>aA<|Zu rfl (fun q1 Z Y G=>Zg rfl<|bT<|bW [] 4 9 112<|Za rfl<|Zaa rfl<|eM rfl U264 aM rfl rfl Yd Yd rfl bDY<|iW rfl aJ rfl G Ye (cD M) n3 rfl bDY<|Za rfl<|eM rfl U264 aM rfl rfl Yd Yd rfl bDY ?_));refine iW rfl aJ rfl G Ye (cD O) n3 rfl bDY<|Zan rfl<|Zg rfl<|aG ?_;exact aE rfl (fun D hD=>by show Value.int _ _=_;rw[LJ I hij])
theorem sK(lo hi n:Int)(D:aC):Fn prog 204 #[.agg #[qI lo,qI hi],qI n] D (fun _ v=>v=.agg #[qI (min lo n),qI (max hi n)]):=by
 refine Zs 15 func204 rfl (fun h0=>aA<|Zu rfl (fun q1 Z Y M=>Zx rfl oA rfl (fun q2=>bT<|lI [] 4 [0,1,2,5,6,7,8,3,4,9,10] [false,false,true,true,true,true,true,true,true,false,false] [(false,0),(false,1),(true,2),(true,5),(true,6),(true,7),(true,8),(true,3),(true,4),(false,9),(false,10)] bI (fun _ _ _ h=>kL (P:=prog) (fn:=f204) _ _ _ h) Yg rfl<|Zh rfl L6 rfl<|Zj 0 rfl aJ rfl M rfl<|Za rfl<|Zh rfl K9 rfl<|Zj 1 rfl aJ rfl M rfl<|Za rfl ?_)));refine qW rfl rfl rfl rfl bDY<|Zp rfl U25 aM dS rfl (.cons rfl rfl (.cons rfl rfl .nil)) (fun U V O G=>?_);have I:=Sl.ofInts (l:=[_,_]) (n:=2) (cap:=2) G rfl Yd Yd;refine Zc rfl (fun D1 R=>lR _ lo [n] _ (I.up RI.up (R _ Ye)))<|Zr [qI (min lo n),qI (max hi n)] rfl x9 oA rfl<|Zt rfl gY (bR.head)<|aG ?_;exact cS (vs:=[_]) rfl rfl rfl ⟨⟨_,_,_,rfl,Mm0,aYZ ⟨wL,(by first|exact gY|(simp only[aZV,aO, *];exact gY)),rfl⟩⟩,bDY⟩ (fun D hD=>rfl)
theorem wA(rv:Value)(r:dG)(fine:Bool)(D:aC)(hr:pC D rv r):Fn prog 120 #[rv,.bool fine] D (fun D' v=>∃wv,v=.tuple #[wv,qI (cK r fine)]∧(cK r fine=0→oQ r∧aJW D' wv r)):=by
 have M:=hr;obtain⟨pv,cv,rfl,hp,hc⟩:=hr;refine GA 55 func120 rfl rfl rfl rfl fun h0=>aA<|Zu rfl (fun q1 E1 hS I=>Zg rfl<|Zg rfl<|bJ<|Zq rfl kD rfl I jX<|Zc rfl (fun D1 hB=>Z0 _ r _ (M.up (hB _ Ye)))<|Zg rfl<|aL<|Za rfl<|Zak rfl ?_);refine aF<|Zz rfl (fun G=>?_) (fun G=>?_)
 ·refine aA<|Za rfl<|Zg rfl<|Zg rfl<|aG<|Zap ?_;exact uC (vs:=[_,_]) rfl rfl rfl cQ (fun D hD=>⟨_,by rw[cK,aZK G];rfl,fun h=>by rw[cK,aZK G]at h;exact absurd h G⟩)
 ·have hok:oQ r:=sC.1 Yd;refine aT<|eH<|Za rfl<|Zal rfl<|aF<|aP rfl (fun hc2=>?_) (fun hc2=>?_)
  ·refine aA<|Zg rfl<|Zg rfl<|aG<|Zap ?_;exact uC (vs:=[_,_]) rfl rfl rfl cQ (fun D hD=>⟨_,by rw[cK,aZB G,aZK Yap];rfl,fun h=>by rw[cK,aZB G,aZK Yap]at h;omega⟩)
  ·refine aT<|aA<|Zq rfl kD rfl I jX<|Zr [pv,cv,qI r.wrong,qI r.off,qN] rfl aQH aPV rfl<|DK rfl (e:=251) rfl rfl rfl bDY (fun q2=>Zx rfl aPH rfl (fun q3=>Zo rfl aQW (bR.head) rfl<|bJ<|Zq rfl kD rfl I jX<|Zv rfl (fun D2 V=>WM _ r _ (M.up (V _ Ye)) hok.len9) (fun v2 D2 V hE=>aF<|Zar ?_)));obtain⟨br,rfl,hit⟩:=hE;refine uG (γ:=Value×aD) (xs:=(cT r.places).map fM) (enc:=HA) (Dr:=D2) (I0 258 r) (fun _ _ _=>False) (fun g=>[(q3,qC [qP q2] 244),(q2,qC [pv,cv,qI r.wrong,qI r.off,g.1] 251)]++g.2) (qN,[]) rfl rfl rfl rfl hit Ye (fun _=>rfl) rfl (by simpa [I0]using bS.nil) rfl ?_ ?_ (fun _ _ _ _ h=>h.elim)
   ·rintro pre x ⟨v,ν⟩ ⟨us,hx⟩ hΦ l bd rec hh D7 hX hst hpend;obtain⟨t,hk,rfl,htm,htake⟩:=zY hx;obtain⟨hlen,htb⟩:=rF htm;have htr:qB r t:=⟨hlen,htb⟩
    have Y:=gP (t:=t) (by have:=hok.len9;omega);refine aU<|Zx rfl rR rfl (fun q4=>Zt rfl dZ (bR.head)<|Zah ?_);refine fun a w hhh=>B2 (A:=[(_,_),(_,_),(_,_)]++ν) (B:=[(bd,.deferred (some []))]) (r:=rec) (l:=l) Yax hst ?_ a w hhh
    refine zB (fun hnd=>?_);simp only[aZR,aZH,bAO,aZC,bAW,aZU,n4,aZF,not_or]at hnd;have hY:=hnd.1.2.2.1;have rA:=hnd.2.1.2.1;have rB:=hnd.2.2.1.1;refine Zar<|aS<|rK [] 4 9 198 (fun _ _ _ h=>h)<|Zq rfl kD rfl I jX<|bK rfl jO rfl Mm0 Yw n3 rfl bDY<|Zc rfl (fun D3 hD3=>P0 t _ (by have:=hok.len9;omega) htb)<|Zc rfl (fun D4 hF=>MO _ r t _ (M.up (hF _ Ye)) hok htr)<|Za rfl<|Zaf rfl<|Zaf rfl<|Zg rfl<|Zg rfl ?_;refine aL<|Za rfl<|Za rfl ?_;refine' dJ 5 (s:=32) (p:=37) rfl (fun hH=>?_) (fun hH=>?_) ?_;rotate_left
    ·refine Zb rfl<|Zi rfl yP rfl<|Zk 2 rfl aJ rfl I rfl<|lE rfl rfl rfl rfl ⟨_,rfl,rfl⟩<|Zad rfl ?_;exact aQ 4
    ·refine Zf rfl<|Zf rfl<|Zf rfl<|Zf rfl<|Zae rfl ?_;exact aQ 4
    refine aF<|aP rfl (fun O=>?_) (fun O=>?_)
    ·have hfit:=aGN O;refine rK (ν.map (·.1)) 2 11 254 (fun _ _ _ h=>h)<|bZ rfl c7 rfl Mm1 rfl Yn rfl bDY<|bZ rfl c7 rfl Mm1 rfl Yn rfl bDY<|Zaj rfl<|Zh rfl pN rfl<|bZ rfl A9 rfl Mm2 rfl Yn rfl bDY<|bK rfl jO rfl Mm0 Yw Yn rfl bDY<|Zp rfl U249 dZ rR rfl (.cons rfl (by simpa using Y) .nil) (fun hO hR hI R=>bB (A:=[(_,_),(_,_),(_,_)]) (B:=[(l,_),(bd,_)]) rfl U249 rfl rfl dZ rR rfl aMN rfl rfl rfl hΦ (mI.lit R) Ye (by simp[Y]) (MK (aNS hok pre.length)) (by simpa using dR _) (by have:=aRL hok pre.length;omega) (aYZ (fun p hp=>GT.2 ⟨p,hp,rfl⟩)) rfl bDY (fun v1 ν1 U=>?_))
     have hJ:I0 258 r (pre++[fM t]) (v1,ν1):=by unfold I0;rw[htake,bBK,bCI,aZK hfit,List.filter_nil,aZS,bAJ];simpa using U
     simp only[bAW,aZU];refine Zaj rfl<|Zh rfl pN rfl<|bG rfl rfl rfl U.cells1 TE (.tail (.tail (bR.head))) Ye rfl U.cell1 bDY<|Zah<|Zat ?_;exact fun a w hh=>iN (A:=[(_,_),(_,_)]++ν1) (B:=[(bd,.deferred (some []))]) (v1,ν1) hJ rfl rfl a w (hh.dropBoxes 1)
    ·have hfit:=aLO O;have hK:I0 258 r (pre++[fM t]) (v,ν):=by unfold I0;rw[htake,bBK,bCI,aZB (by simp[hfit]),List.filter_nil,aZA];exact hΦ
     refine bM<|Zat ?_;exact fun a w hh=>iN (A:=[(_,_),(_,_)]++ν) (B:=[(bd,.deferred (some []))]) (v,ν) hK rfl rfl a w (hh.dropBoxes 1)
   ·rintro⟨v,ν⟩ bd hΦ;have hΦ':bS 258 9 v (truths r).length ((truths r).flatMap fun t=>ints (fM t)) ν:=by simpa [I0,truths]using hΦ
    have hall:∀t∈truths r,t.length≤9:=fun t ht=>by have:=(rF (List.mem_filter.1 ht).1).1;have:=hok.len9;omega
    have hll:=AS hok;refine Zat<|Zaq<|eH<|Zm rfl c7 rfl Mm0 rfl<|Zaj rfl<|Zh rfl pN rfl<|Zm rfl A9 rfl Mm1 rfl<|fJ rfl U249 rfl hΦ' rfl rfl bDY<|Zam rfl<|aF<|Zz rfl (fun Z=>?_) (fun Z=>?_)
    ·have htn:truths r=[]:=bBP.1 Yd;have hask:cK r fine=11:=by rw[cK,aZB G,aZB Yap,aZK htn]
     refine aA<|Zg rfl<|Zg rfl<|aG<|Zap ?_;exact xG (vs:=[_,_]) (A:=[(_,_),(_,_)]++ν) rfl rfl rfl cQ (fun D hD=>⟨_,by rw[hask];rfl,fun h=>by rw[hask]at h;omega⟩)
    ·have htn:truths r≠[]:=fun e=>Z (by rw[e];rfl)
     have hask:cK r fine=0:=by rw[cK,aZB G,aZB Yap,aZB htn]
     refine aT<|aA<|Zm rfl c7 rfl Mm0 rfl<|Zg rfl<|Zg rfl<|aG<|gC (A:=[(_,_),(_,_)]) (B:=[(bd,.deferred (some []))]) hΦ' rfl (fun D8 hD8 hM=>gC (A:=[(_,_)]) (ν:=[(q2,_)]) (B:=[(bd,.deferred (some []))]) (aOQ (sz:=5) rfl) rfl (fun D9 hD9 hN=>?_));exact xG (vs:=[_,_]) (A:=[(_,_)]) rfl rfl rfl cQ (fun D hD=>⟨_,by rw[hask];rfl,fun _=>⟨hok,q2,pv,cv,v,rfl,(hN.at Yd).up (hD _ Ye),hp.up RI.up (hD _ Ye),hc.up RC.up (hD _ Ye),(hM.truths rfl Yd hall).up RT.up (hD _ Ye)⟩⟩)
end L1
end Go.Fs
