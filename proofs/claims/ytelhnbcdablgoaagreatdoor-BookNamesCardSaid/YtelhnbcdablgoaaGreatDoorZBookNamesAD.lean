/- Of the proof of BookNames: Show, ShowT, Lent, Panic, Diary, AW1, AW2, BW1, AW3, AW4. -/
import Derived.Test.YtelhnbcdablgoaaGreatDoorZBookNamesAC
import Derived.Test.YtelhnbcdablgoaaGreatDoorZBookNamesAB
namespace Go.Fs
variable{P:Program}{X:Cx}{γb:Type}[Membership Nat γb]{bad:γb}{all:Array Oper}{K:Act→World→Prop}{Q:Exit→Act→World→Prop}
variable{σ:cG}{μ:aD}{Ds:List aC}{os:List (Bool×Nat)}{fl:Bool}{ix:Nat}
variable{d:Nat}{x y z:Operand}{u v:Value}{ty:TypeId}{pos:String}{aft:Array Edge}{g:Option (Nat×Bool)}
def DG(β:List Nat)(D:aC)(w:World)(bo:Nat)(cs:List Value):Prop:=bo∈β∧D bo=[]∧∃e fz,w.heap[bo]?= some (.cells cs.toArray e fz)
def fK(D:aC)(bo:Nat)(cs:List Value):aC:=fun c=>if c=bo then cs else D c
theorem xV{D:aC}{bo:Nat}{cs:List Value}(h:D bo=[])(h0:bo≠0):Le D (fK D bo cs):=⟨fun c=>by
 unfold fK;split
 ·rename_i e;subst e;rw[h];exact bCD
 ·exact List.prefix_refl _,by unfold fK;rw[aYC (Ne.symm h0)]⟩
theorem l9(D:aC)(bo:Nat)(cs:List Value):At (fK D bo cs) bo 0 cs:=fun j v hj=>by unfold fK;simpa using hj
theorem EH{D:aC}{w:World}{bo:Nat}{cs:List Value}{e:TypeId}{fz:Nat×Nat}(h:eO D w)(hb:w.heap[bo]?= some (.cells cs.toArray e fz))(hD:D bo=[]):eO (fK D bo cs) w:=h.of (fun c hc=>by
 unfold fK at hc ⊢
 split
 ·rename_i ec;subst ec;exact⟨_,_,_,hb,List.prefix_refl _⟩
 ·rename_i ec;rw[aYC ec]at hc;exact h.1 c hc) (by unfold fK;rw[aYC (Ne.symm (h.ne0 hD))]) rfl
theorem hP.hide{w w':World}{D D':aC}{mods:List Nat}{μ:aD}{bo:Nat}{cs:List Value}(h:hP (hd w) w.heap.size (fK D bo cs) mods μ D' w')(hD:D bo=[])(G:bo≠0):hP (hd w) w.heap.size D mods μ (fK D' bo []) w':=by
 refine⟨h.hlo,h.size,h.old,fun b hb=>?_,h.agr.of (fun b hb=>?_) (by unfold fK;rw[aYC (Ne.symm G)]) rfl,fun p hp=>?_,h.nd,h.fz,h.env⟩
 ·unfold fK;split
  ·rename_i e;subst e;exact hD.symm
  ·rename_i e;rw[h.dold b hb];unfold fK;rw[aYC e]
 ·unfold fK at hb ⊢
  split
  ·rename_i e;rw[aYJ e]at hb;exact absurd rfl hb
  ·rename_i e;rw[aYC e]at hb;exact h.agr.1 b hb
 ·obtain⟨h1,h2,h3⟩:=h.box p hp;refine⟨h1,?_,h3⟩;unfold fK;split
  ·rfl
  ·exact h2
def UN{α:Type}(P:Program)(f:FuncId)(cap:List Value)(Dr:aC)(xs:List α)(enc:Nat→List Value)(cells:α→List Value):Prop:=
 EF P f∧∀(lo l:Nat) (J Jx:List α→tF),(∀pre,G8 lo (J pre))→(∀pre,G8 lo (Jx pre))→
  (∀pre x β D w bo,(∃r,xs=pre++x::r)→xZ lo D w→J pre β D w→(∀b∈β,b<w.heap.size)→Le Dr D→DG β D w bo (cells x)→
   iS P l (enc bo) w fun b D' w'=>xZ lo D' w'∧yJ β D w D' w'∧(if b then J (pre++[x]) β D' w' else Jx (pre++[x]) β D' w'))→
  ∀D w,xZ lo D w→Le Dr D→J [] [] D w→Calls P f (.func (.yield l) #[] #[]::cap).toArray w fun e w'=>∃v D',e=.returned v∧xZ lo D' w'∧(J xs [] D' w'∨∃pre,Jx pre [] D' w')
theorem aFC{J J1 J0:tF}{l:Nat}{c:Operand}{xs:Array Operand}{ats:Array TypeId}{vs:List Value}(ho:all[ix]?= some ⟨some d,.call {callee:=.value c,args:=xs,argTypes:=ats},ty,pos,aft,g⟩)
  (hc:ev σ c=some (.func (.yield l) #[] #[])) (hxs:Q8 σ xs.toList=some vs) (hex:X.ex=some J) (hfl:fl=false) (h0:X.h0=⟨#[],none⟩) (hm:X.mods=[]) (G:G8 X.lo J1) (I:G8 X.lo J0)
  (hY:∀D w,xZ X.lo D w→J (μ.map (·.1)) D w→(∀p∈μ,w.heap[p.1]?= some p.2∧D p.1=[])→(∀D₁∈Ds,Le D₁ D)→iS P l vs w fun b D' w'=>xZ X.lo D' w'∧yJ (μ.map (·.1)) D w D' w'∧(if b then J1 (μ.map (·.1)) D' w' else J0 (μ.map (·.1)) D' w'))
  (hN:Nat.blt d X.N=true) (hg:dE all σ g)
  (O:WL P (X.withEx J1) bad all K Q os ((d,.bool true)::σ) μ Ds) (R:WL P (X.withEx J0) bad all K Q os ((d,.bool false)::σ) μ Ds):WL P X bad all K Q ((fl,ix)::os) σ μ Ds:=by
 refine eI ho rfl rfl hg fun a w hh=>?_
 obtain⟨h1,h2,h3,D,h4,h5,M⟩:=id hh;have hJ:J (μ.map (·.1)) D w:=by unfold A8 at M;rw[hex]at M;exact M.2
 obtain⟨fn,tmps,assign,body,hy,hr⟩:=hY D w h4.dom hJ (fun p hp=>⟨(h4.box p hp).1,(h4.box p hp).2.1⟩) h5;have e:xs.map a.eval=vs.toArray:=by rw[←kA (fun _ _ hx=>hh.eval hx) hxs,←bCH]
 have hrun:(execOp a.eval ⟨some d,.call {callee:=.value c,args:=xs,argTypes:=ats},ty,pos,aft,g⟩).run P w=.ok (.round l fn tmps assign body) w:=by
  simp only[execOp,resolve,hh.eval hc,Deferred.ofValue,pure_bind,invoke,e];rw[←hy];simp
 rw[hrun];refine⟨fun h=>by simp[FW]at h,(p7 hr).mono ?_⟩;rintro e' w' ⟨b,D',rfl,hd',hh',hb⟩;have hst:hP X.h0 X.lo X.D0 X.mods μ D' w':=by
  refine⟨h4.hlo,hd'.2,(fun b hb=>by rw[h0]at hb;exact absurd hb (bBP _)),(fun b hb=>by rw[h0]at hb;exact absurd hb (bBP _)),hd'.1,fun p hp=>?_,h4.nd,h4.fz,fun e he=>by rw[h0]at he;cases he⟩;obtain⟨T,U,V⟩:=h4.box p hp;obtain⟨Y,Z⟩:=hh'.2.2 p.1 (n4.2 ⟨p,hp,rfl⟩);exact⟨Y.trans T,Z.trans U,V⟩
 have hds:∀D₁∈Ds,Le D₁ D':=fun D₁ hD₁=>(h5 D₁ hD₁).trans hh'.2.1
 refine⟨(fun h=>by rw[hfl]at h;cases h),?_⟩;cases b with
 |true=>
  refine O _ _ (Hl.put (X:=X.withEx J1) ⟨h1,h2,h3,D',hst,hds,⟨G,hb⟩⟩ hN _)
 |false=>
  refine R _ _ (Hl.put (X:=X.withEx J0) ⟨h1,h2,h3,D',hst,hds,⟨I,hb⟩⟩ hN _)
theorem DC{J J1 J0:tF}{l N lo:Nat}{c:Operand}{xs:Array Operand}{ats:Array TypeId}{vs:List Value}(ho:all[ix]?= some ⟨some d,.call {callee:=.value c,args:=xs,argTypes:=ats},ty,pos,aft,g⟩)
  (hc:ev σ c=some (.func (.yield l) #[] #[])) (hxs:Q8 σ xs.toList=some vs) (hfl:fl=false) (G:G8 lo J1) (I:G8 lo J0)
  (hY:∀D w,xZ lo D w→J (μ.map (·.1)) D w→(∀p∈μ,w.heap[p.1]?= some p.2∧D p.1=[])→(∀D₁∈Ds,Le D₁ D)→iS P l vs w fun b D' w'=>xZ lo D' w'∧yJ (μ.map (·.1)) D w D' w'∧(if b then J1 (μ.map (·.1)) D' w' else J0 (μ.map (·.1)) D' w'))
  (hN:Nat.blt d N=true) (hg:dE all σ g)
  (kk:∀b J',J'=(if b=true then J1 else J0)→WL P (Xj N lo J') bad all K Q os ((d,.bool b)::σ) μ Ds):WL P (Xj N lo J) bad all K Q ((fl,ix)::os) σ μ Ds:=
 aFC (X:=Xj N lo J) ho hc hxs rfl hfl rfl rfl G I hY hN hg (kk true J1 rfl) (kk false J0 rfl)
def aGF{γ:Type}(h0:H0)(lo:Nat)(D0:aC)(mods:List Nat)(Ds:List aC)(Φ:γ→Prop)(Mx:γ→aD):tF:=fun β D w=>
 ∃g,Φ g∧hP h0 lo D0 mods (Mx g) D w∧(∀D₁∈Ds,Le D₁ D)∧(∀b∈β,h0.size≤b∧∀D₁∈Ds,D₁ b=[])∧(∀p∈Mx g,p.1∉β)∧∀k∈mods,k∈(Mx g).ks
theorem O7{γ:Type}{h0:H0}{lo:Nat}{D0:aC}{mods:List Nat}{Ds:List aC}{Φ:γ→Prop}{Mx:γ→aD}:G8 lo (aGF h0 lo D0 mods Ds Φ Mx):=by
 constructor
 ·rintro β D w D' w' ⟨g,hg,hs,hD,hβ,hM,hmk⟩ ⟨hl1,G,I⟩ hd;have box':∀p∈Mx g,w'.heap[p.1]?= w.heap[p.1]?∧D' p.1=D p.1:=fun p hp=>G p.1 (bK (hs.box p hp).1) (hM p hp)
  refine⟨g,hg,⟨hs.hlo,hd.2,fun b hb hm=>?_,fun b hb=>?_,hd.1,fun p hp=>?_,hs.nd,hs.fz,fun e he=>I.trans (hs.env e he)⟩,fun D₁ hD₁=>⟨fun b=>?_,?_⟩,hβ,hM,hmk⟩
  ·have hlt:b<w.heap.size:=by have:=hs.hlo;have:=hs.size;omega
   have hn:b∉β:=fun h=>by have:=(hβ b h).1;omega
   rw[(G b hlt hn).1];exact hs.old b hb hm
  ·have hlt:b<w.heap.size:=by have:=hs.hlo;have:=hs.size;omega
   have hn:b∉β:=fun h=>by have:=(hβ b h).1;omega
   rw[(G b hlt hn).2];exact hs.dold b hb
  ·obtain⟨M,O,R⟩:=hs.box p hp;obtain⟨T,U⟩:=box' p hp;exact⟨T.trans M,U.trans O,R⟩
  ·by_cases hb:b∈β
   ·rw[(hβ b hb).2 D₁ hD₁];exact bCD
   ·by_cases hlt:b<w.heap.size
    ·rw[(G b hlt hb).2];exact(hD D₁ hD₁).1 b
    ·have:=(hD D₁ hD₁).1 b;rw[hs.agr.fresh (Nat.le_of_not_lt hlt)]at this;rw[List.prefix_nil.1 this];exact bCD
  ·have h0:(0:Nat)∉β:=fun hm=>hs.agr.2.1 ((hD D₁ hD₁).2.trans ((hβ 0 hm).2 D₁ hD₁))
   rw[(G 0 hs.agr.pos h0).2];exact(hD D₁ hD₁).2
 ·rintro β β' D w ⟨g,hg,hs,hD,hβ,hM,hmk⟩ hb';refine⟨g,hg,hs,hD,fun b hb=>?_,fun p hp hb=>?_,hmk⟩
  ·rcases hb' b hb with h|h
   ·exact hβ b h
   ·refine⟨by have:=hs.hlo;have:=hs.size;omega,fun D₁ hD₁=>?_⟩;have:=(hD D₁ hD₁).1 b;rw[hs.agr.fresh h]at this;exact List.prefix_nil.1 this
  ·rcases hb' _ hb with h|h
   ·exact hM p hp h
   ·have:=bK (hs.box p hp).1;omega
theorem hP.roundM{h0:H0}{lo:Nat}{D0 D D':aC}{mods:List Nat}{μ μ':aD}{w w':World}(h:hP h0 lo D0 mods μ D w)(hmk:∀k∈mods,k∈μ.ks)(hs:hP (hd w) w.heap.size D (μ.map (·.1)) μ' D' w'):hP h0 lo D0 mods μ' D' w':=by
 have hle:=bAM h.hlo h.size;have hkey:∀b∈μ.map (·.1),lo≤b∨b∈mods:=by
  intro b hb;obtain⟨p,hp,rfl⟩:=n4.1 hb;exact(h.box p hp).2.2
 refine⟨h.hlo,bAM h.size hs.size,fun b hb hm=>?_,fun b hb=>?_,hs.agr,fun p hp=>?_,hs.nd,hs.fz,fun e he=>(hs.env _ rfl).trans (h.env e he)⟩
 ·rw[hs.old b (bAC hb hle) (fun hk=>by
   rcases hkey b hk with h1|h1
   ·have:=h.hlo;omega
   ·exact hm h1)]
  exact h.old b hb hm
 ·rw[hs.dold b (bAC hb hle)];exact h.dold b hb
 ·obtain⟨I,M,G⟩:=hs.box p hp;refine⟨I,M,?_⟩;rcases G with G|G
  ·exact aYF (by have:=h.size;omega)
  ·exact hkey _ G
theorem GK{α γ:Type}{xs:List α}{enc:Nat→List Value}{cells:α→List Value}{Dr:aC}{f:FuncId}{cap:List Value}{gop:Operand}{ps:Array Tmp}{assign body:Code}
  (Φ:List α→γ→Prop) (Ψ:List α→Code→γ→Prop) (M:γ→aD) (g₀:γ) (hr:X.r=none) (hex:X.ex=none) (hmods:∀g,∀k∈X.mods,k∈(M g).ks)
  (hg:ev σ gop=some (.func (.func f) #[] cap.toArray)) (hit:UN P f cap Dr xs enc cells) (hDr:Dr∈Ds) (hps:∀b,(enc b).length=ps.size) (hpN:(ps.toList.all fun p=>Nat.blt p X.N)=true) (h₀:Φ [] g₀) (hμ:M g₀=μ)
  (hround:∀pre x g,(∃r,xs=pre++x::r)→Φ pre g→∀(l bd bo:Nat) (rec:Loop) (h0:H0) (D:aC),(∀D₁∈Ds,Le D₁ D)→At D bo 0 (cells x)→rec.state=.ready→rec.pending=none→
   WC P (Xr l X.N h0 D ((M g++(l,Obj.loop rec)::[(bd,Obj.deferred (some []))]).map (·.1)))
    (Exit.then (fun a₁ w₁=>∃w₂,(Instr.beginRound l).run P w₁=.ok () w₂∧body.wpIn ((FW none).inRound l) 0 P (roundPost P l (zD h0 D ((M g++(l,Obj.loop rec)::[(bd,Obj.deferred (some []))]).map (·.1)) (Φ (pre++[x])) (Ψ (pre++[x]))
     (fun g=>M g++(l,Obj.loop {rec with state:=.ready,pending:=none})::[(bd,Obj.deferred (some []))]) (fun c g=>M g++(l,Obj.loop {rec with state:=.done,pending:=some c})::[(bd,Obj.deferred (some []))]))) a₁ w₂) (fun _ _ _=>False))
    assign (xR ps.toList (enc bo) σ) (M g++(l,Obj.loop rec)::[(bd,Obj.deferred (some []))]) (D::Ds))
  (hdone:∀g bd,Φ xs g→∀a w,Hl (X.withDs bd) σ (M g++[(bd,Obj.deferred (some []))]) Ds a w→Q .normal a w)
  (hstop:∀pre c g bd,Ψ pre c g→WC P (X.withDs bd) Q c σ (M g++[(bd,Obj.deferred (some []))]) Ds):WC P X Q (.rangeFunc gop ps assign body) σ μ Ds:=by
 intro a w hh;subst hμ;have hev:=hh.eval hg;obtain⟨h1,h2,h3,D,h4,h5,h6⟩:=hh;refine wpIn_rangeFunc fun fn _=>?_
 have hround':(FW X.r).round=none:=hr;rw[hround'];have hmk:∀g (B:aD),∀k∈X.mods,k∈(M g++B).ks:=fun g B k hk=>by
  show k∈(M g++B).map _;rw[aYE];exact aXU _ (hmods g k hk)
 let bd:=w.heap.size
 let l:=w.heap.size+1
 let G:Loop:={state:=.ready,pending:=none,fn,tmps:=a.tmps,params:=ps,assign,body,defers:=bd}
 let T:World:={w with heap:=w.heap.push (.deferred (some []))}
 let O:World:={T with heap:=T.heap.push (.loop G)}
 have U:hP X.h0 X.lo X.D0 X.mods ((bd,Obj.deferred (some []))::M g₀) D T:=h4.push (.deferred (some [])) trivial;have I:hP X.h0 X.lo X.D0 X.mods ((l,Obj.loop G)::(bd,Obj.deferred (some []))::M g₀) D O:=by
  have:=U.push (.loop G) trivial;have e:T.heap.size=l:=by simp[T,l]
  rw[e]at this;exact this
 have hperm:hP X.h0 X.lo X.D0 X.mods (M g₀++(l,Obj.loop G)::[(bd,Obj.deferred (some []))]) D O:=by
  refine I.sub (fun p hp=>?_) ?_
  ·simp only[aYD,GE,n3,bAO]at hp ⊢
   rcases hp with hp|hp|hp
   ·exact aXR (aXR hp)
   ·exact aYF hp
   ·exact aXR (aYF hp)
  ·have hn:=I.nd;simp only[aYN,aZI,GE,not_or]at hn;simp only[aYE,aYN,bBM,aXX,aZI,GE,n3,bAO,bCB,aZP,and_true];refine⟨hn.2.2,hn.1.1,fun q hq r hr'=>?_⟩;rcases hr' with rfl|rfl
   ·rintro rfl;exact hn.1.2 hq
   ·rintro rfl;exact hn.2.1 hq
 refine⟨l,[mQ bd],O,{target:=.fn (.func f) cap.toArray,args:=#[.func (.yield l) #[] #[]]},O,f,(.func (.yield l) #[] #[]::cap).toArray,O,run_enterLoop_outer fn a.tmps ps assign body,?_,fun _ _=>trivial,?_,fun h=>by simp[FW]at h,?_⟩
 ·simp only[resolve,Deferred.ofValue];have e:Array.map a.eval #[Operand.const (Value.func (Fn.yield l) #[] #[])]=#[.func (.yield l) #[] #[]]:=by simp[Act.eval]
  rw[e,hev];rfl
 ·simp only[invoke];rw[hit.1];simp
 ·refine dN.2 ((hit.2 X.lo l
   (fun pre=>aGF X.h0 X.lo X.D0 X.mods Ds (Φ pre) fun g=>M g++(l,Obj.loop G)::[(bd,Obj.deferred (some []))])
   (fun pre=>aGF X.h0 X.lo X.D0 X.mods Ds (fun cg:Code×γ=>Ψ pre cg.1 cg.2) fun cg=>M cg.2++(l,Obj.loop {G with state:=.done,pending:=some cg.1})::[(bd,Obj.deferred (some []))])
   (fun _=>O7) (fun _=>O7) ?_ D O I.dom (h5 Dr hDr) ⟨g₀,h₀,hperm,h5,(fun _ h=>by cases h),(fun _ _ h=>by cases h),hmk g₀ _⟩).mono ?_)
  ·rintro pre x β Dx wx bo hx hdx ⟨g,hΦ,hst,hDs,hβ,hM,hmg⟩ hβs hle ⟨hbo,hbD,be,bfz,hbw⟩;have hbox:=(hst.box (l,Obj.loop G) Ye).1;refine⟨fn,_,assign,body,run_yield hbox (by simpa using hps bo),?_⟩;refine(roundIn_of_wpIn (F:=FW none) bCV (R:=zD (hd wx) (fK Dx bo (cells x)) ((M g++(l,Obj.loop G)::[(bd,Obj.deferred (some []))]).map (·.1)) (Φ (pre++[x])) (Ψ (pre++[x]))
     (fun g=>M g++(l,Obj.loop {G with state:=.ready,pending:=none})::[(bd,Obj.deferred (some []))]) (fun c g=>M g++(l,Obj.loop {G with state:=.done,pending:=some c})::[(bd,Obj.deferred (some []))])) ?_).mono ?_
   ·have hw:=hround pre x g hx hΦ l bd bo G (hd wx) (fK Dx bo (cells x)) (fun D₁ h=>(hDs D₁ h).trans (xV hbD (hst.agr.ne0 hbD))) (l9 _ _ _) rfl rfl;have ht:(ps.zip (enc bo).toArray).foldl (fun tmps (t,a)=>tmps.setIfInBounds t a) a.tmps=(ps.toList.zip (enc bo)).foldl (fun tmps (p:Tmp×Value)=>tmps.setIfInBounds p.1 p.2) a.tmps:=by
     rw[←Array.foldl_toList];simp
    have hpN':∀p∈ps.toList,p<a.tmps.size:=fun p hp=>by rw[h1];simpa [bCU]using aYL.1 hpN p hp
    refine hw {tmps:=_,defers:=[]} wx ⟨?_,fun s v hs=>?_,rfl,fK Dx bo (cells x),⟨aYI _,aYI _,fun _ _ _=>rfl,fun _ _=>rfl,EH hst.agr hbw hbD,fun p hp=>?_,hst.nd,hst.fz,fun e he=>aYS he⟩,fun D₁ hD₁=>?_,bCV⟩
    ·show((ps.zip (enc bo).toArray).foldl _ a.tmps).size=X.N;rw[ht,N5];exact h1
    ·show((ps.zip (enc bo).toArray).foldl _ a.tmps)[s]?= some v;rw[ht];exact Q6 _ _ _ _ h2 hpN' s v hs
    ·obtain⟨Y,Z,p3⟩:=hst.box p hp;exact⟨Y,by unfold fK;rw[aYC (fun e=>hM p hp (by rw[e];exact hbo))];exact Z,aXR (n4.2 ⟨p,hp,rfl⟩)⟩
    ·rcases GE.1 hD₁ with rfl|hD₁
     ·exact Le.refl _
     ·exact(hDs D₁ hD₁).trans (xV hbD (hst.agr.ne0 hbD))
   ·rintro e w' ⟨b,D',rfl,hb⟩;have fin:∀μ',hP (hd wx) wx.heap.size (fK Dx bo (cells x)) ((M g++(l,Obj.loop G)::[(bd,Obj.deferred (some []))]).map (·.1)) μ' D' w'→hP X.h0 X.lo X.D0 X.mods μ' (fK D' bo []) w'∧yJ β Dx wx (fK D' bo []) w'∧(∀D₁∈Ds,Le D₁ (fK D' bo []))∧(∀p∈μ',p.1∉β):=by
     intro μ' V;have hs':=V.hide hbD (hst.agr.ne0 hbD);refine⟨hst.roundM hmg hs',hP.roundHigh hst.agr hs' hβs hM,fun D₁ hD₁=>(hDs D₁ hD₁).trans (fU hst.agr hs'),fun p hp hpb=>?_⟩;rcases(hs'.box p hp).2.2 with h|h
     ·have:=hβs _ hpb;omega
     ·obtain⟨q,hq,he⟩:=n4.1 h;exact hM q hq (by rw[he];exact hpb)
    refine⟨b,fK D' bo [],rfl,?_⟩;cases b with
    |true=>
     obtain⟨g',hg',hs'⟩:=hb;obtain⟨f1,f2,f3,f4⟩:=fin _ hs';exact⟨f1.dom,f2,g',hg',f1,f3,hβ,f4,hmk g' _⟩
    |false=>
     obtain⟨c',g',hg',hs'⟩:=hb;obtain⟨f1,f2,f3,f4⟩:=fin _ hs';exact⟨f1.dom,f2,(c',g'),hg',f1,f3,hβ,f4,hmk g' _⟩
  ·rintro e w' ⟨v,D',rfl,hd,hend⟩;have post:∀(g:γ) (r:Loop),hP X.h0 X.lo X.D0 X.mods (M g++(l,Obj.loop r)::[(bd,Obj.deferred (some []))]) D' w'→(∀D₁∈Ds,Le D₁ D')→
     Hl (X.withDs bd) σ (M g++[(bd,Obj.deferred (some []))]) Ds {a with defers:=[mQ bd]++a.defers} (w'.putObj l (.loop {r with state:=.exhausted})):=by
    intro g r hs hD';have hHas:bO (M g++(l,Obj.loop r)::[(bd,Obj.deferred (some []))]) l (.loop r) (.loop {r with state:=.exhausted}) (M g++(l,Obj.loop {r with state:=.exhausted})::[(bd,Obj.deferred (some []))]):=.app .head;have hs':=hs.set (w':=w'.putObj l (.loop {r with state:=.exhausted})) hHas ⟨rfl,rfl⟩ trivial;have hs'':=hs'.sub (μ':=M g++[(bd,Obj.deferred (some []))]) (fun p hp=>by
     rcases aYD.1 hp with hp|hp
     ·exact aXU _ hp
     ·exact n5 _ (LE _ hp)) (by
     have hn:=hs'.nd;rw[aYE,aXX]at hn ⊢
     simp only[aYN]at hn;exact⟨hn.1,(aZI.1 hn.2.1).2,fun q hq r hr=>hn.2.2 q hq r (LE _ hr)⟩)
    exact⟨h1,h2,aXV (mQ bd:: ·) h3,D',hs'',hD',by unfold A8;show(match X.ex with|none=>True|some J=>_);rw[hex];trivial⟩
   rcases hend with⟨g,hΦ,hs,hDs,_,_,_⟩|⟨pre,⟨c,g⟩,hΨ,hs,hDs,_,_,_⟩
   ·have hb:=(hs.box (l,Obj.loop G) Ye).1;exact⟨none,_,run_endLoop hb (by simp[G]),hdone g bd hΦ _ _ (post g G hs hDs)⟩
   ·have hb:=(hs.box (l,Obj.loop {G with state:=.done,pending:=some c}) Ye).1;refine⟨some c,_,run_endLoop hb Ye,?_⟩;have:=hstop pre c g bd hΨ _ _ (post g _ hs hDs);exact this

theorem NT{α:Type}{f:FuncId}{fn:Func}{c:Code}{cap:List Value}{Dr:aC}{xs:List α}{enc:Nat→List Value}{cells:α→List Value}(N:Nat)(hf:P.funcs[f]?= some fn)(hn:(fn.name== "runtime.NumGoroutine")=false)(hb:fn.body=some c)(hN:fn.ntmps=N)(hsz:Nat.ble (cap.length+1) N=true)
  (h:∀(lo l:Nat) (J Jx:List α→tF),(∀pre,G8 lo (J pre))→(∀pre,G8 lo (Jx pre))→
   (∀pre x β D w bo,(∃r,xs=pre++x::r)→xZ lo D w→J pre β D w→(∀b∈β,b<w.heap.size)→Le Dr D→DG β D w bo (cells x)→
    iS P l (enc bo) w fun b D' w'=>xZ lo D' w'∧yJ β D w D' w'∧(if b then J (pre++[x]) β D' w' else Jx (pre++[x]) β D' w'))→
   WC P (Xj N lo (J [])) (bodyPost P fn (Y7 lo [Dr] fun _ J' _=>J'=J xs∨∃pre,J'=Jx pre)) c (jG 0 (.func (.yield l) #[] #[]::cap)) [] [Dr]):UN P f cap Dr xs enc cells:=by
 refine⟨EF.of hf hn hb,fun lo l J Jx hs hsx hY D w hd hle hJ=>?_⟩;have hF:=I0 (μ:=[]) N hf hn hb hN (by simpa using hsz) (h lo l J Jx hs hsx hY);refine(hF.2 w ⟨D,⟨bCE _,hd.2,fun b hb=>absurd hb (bBP _),fun b hb=>absurd hb (bBP _),hd.1,Yi,aZP,Yi,fun e he=>by cases he⟩,fun D₁ h1=>?_,hs [],hJ⟩).mono ?_
 ·simp only[aYH]at h1;subst h1;exact hle
 ·rintro e w' ⟨v,J',μ',rfl,⟨D',hst,hds,hex⟩,hpost⟩;refine⟨v,D',rfl,hst.dom,?_⟩;have hJ':J' [] D' w':=hex.1.own _ [] D' w' hex.2 (fun b hb=>by cases hb);rcases hpost with rfl|⟨pre,rfl⟩
  ·exact aYF hJ'
  ·exact aXR ⟨pre,hJ'⟩
theorem aU{t e:TypeId}{sz n:Nat}{z0:Value}{zs cs:List Value}{k k':IntKind}(ho:all[ix]?= some ⟨some d,.makeSlice t x y,ty,pos,aft,g⟩)(ht:P.underlying t=some (.slice e))(hs:TS P e sz)(hz:TZ P e z0)(hzc:z0.cells=zs.toArray)(hi:(P.info? e).map (fun i=>Nat.ble 1 i.bytes&&Nat.ble i.bytes 4096)=some true)
  (hx:ev σ x=some (.int k n)) (hy:ev σ y=some (.int k' n)) (hn:n≤10000) (hcs:((Array.range (n*sz)).map (zs.toArray[· %zs.toArray.size]!)).toList=cs) (hN:Nat.blt d X.N=true) (hg:dE all σ g)
  (kk:∀b,WL P X bad all K Q os ((d,qS b n n)::σ) ((b,.cells cs.toArray e (0,0))::μ) Ds):WL P X bad all K Q ((fl,ix)::os) σ μ Ds:=by
 refine eI ho rfl rfl hg fun a w hh=>?_
 obtain⟨h1,h2,h3,D,h4,h5,R⟩:=id hh;have hn':=hn;obtain⟨i0,I,hb⟩:=bAE.1 hi;simp only[aYB]at hb;have T:=aZC hb.1;have M:=aZC hb.2;have hti:∀w,(typeInfo e).run P w=.ok i0 w:=fun w=>by simp[typeInfo,program,Sem.run,I,go_sem]
 have hw:IntKind.i64.wrap (n:Int)=n:=pQ Yg;have hbn:i0.bytes*n≤4096*10000:=bCR M hn';have hlarge:(((n:Int)<0)||decide ((i0.bytes:Int)*n>2^48))=false:=by
  have:((i0.bytes*n:Nat):Int)≤40960000:=by omega
  rw[Int.natCast_mul]at this;simp only[bAB,aZK];constructor
  ·omega
  ·omega
 have hzz:∀w,(zeroValue e).run P w=.ok z0 w:=hz;have hrun:(execOp a.eval ⟨some d,.makeSlice t x y,ty,pos,aft,g⟩).run P w=.ok (.value (.slice (some ⟨w.heap.size,0,none⟩) n n)) {w with heap:=w.heap.push (.cells cs.toArray e (0,0))}:=by
  have hcs':(Array.range (n*sz)).map (zs.toArray[· %zs.toArray.size]!)=cs.toArray:=by rw[←hcs]
  have hai:∀(k:IntKind) (m:Int) (w:World),(asInt (.int k m)).run P w=.ok m w:=fun _ _ _=>rfl
  simp only[execOp,Instr.makeSlice,hh.eval hx,hh.eval hy,hai,Sem.run_bind,TU.of ht w,Result.andThen_ok,Sem.run_pure,hti,hw,pure_bind];rw[aYC Ya1];simp only[Sem.run_bind,tV,Result.andThen_ok,hs w,aZN];by_cases hnz:n*sz=0
  ·rw[aYJ hnz];have G:∀f:Nat→Value,(Array.range 0).map f=#[]:=fun f=>by simp
   have O:cs.toArray=#[]:=by rw[←hcs',hnz];exact G _
   simp only[Sem.run_pure,Sem.run_bind,O];rw[hnz];simp only[G,iC,Result.andThen_ok]
  ·rw[aYC hnz];simp only[Sem.run_bind,hzz,Result.andThen_ok,Sem.run_pure,hzc,hcs',iC]
 rw[hrun];have hs':=h4.push (.cells cs.toArray e (0,0)) rfl;refine⟨fun _=>nR _ _ _,kk w.heap.size _ _ (Hl.put ⟨h1,h2,h3,D,hs',h5,R.step (fun _ p hp=>?_) (fun _=>⟨by simp,fun b hb _=>⟨cN hb,rfl⟩,rfl⟩) hs'.dom⟩ hN _)⟩;rcases GE.1 hp with rfl|hp
 ·exact aXR (aYI _)
 ·exact aYF (n4.2 ⟨p,hp,rfl⟩)
theorem bC{n sz:Nat}{zs:List Value}(h:∀u∈zs,u=qI 0)(hl:zs.length=sz):((Array.range (n*sz)).map (zs.toArray[· %zs.toArray.size]!)).toList=ints (List.replicate (n*sz) 0):=by
 apply bCN;intro i;simp only[bCH,Array.toList_range,aYQ,ints,List.map_replicate,List.getElem?_replicate];by_cases hi:i<n*sz
 ·rw[bCG hi,aYJ hi];have hpos:0<sz:=by
   rcases Nat.eq_zero_or_pos sz with h0|h0
   ·subst h0;simp at hi
   ·exact h0
  have hm:i%zs.toArray.size<zs.length:=by simp only[aYU,hl];exact Nat.mod_lt _ hpos
  simp only[aYX];congr 1;rw[getElem!_pos _ _ (by simpa using hm)];exact h _ Ye
 ·rw[bAT Yap,aYC hi];rfl

theorem Hl.freezeM{A B ν:aD}{e sz n:Nat}{cells:List Value}{a:Act}{w:World}(hacc:bZ e sz v n cells ν)(hmods:∀k∈X.mods,k∈(A++B).ks)(hh:Hl X σ (A++ν++B) Ds a w):
  ∃D',(∀D₁∈Ds,Le D₁ D')∧mH D' v n cells∧Hl X σ (A++B) (D'::Ds) a w:=by
 obtain⟨h1,h2,h3,D,h4,h5,G⟩:=hh;rcases hacc with⟨old,hv,hn,hc,hν⟩|⟨b,cap,junk,hv,hncap,hν,hl1,I⟩
 ·subst hν;refine⟨D,h5,aYF ⟨old,hv,hn,hc⟩,h1,h2,h3,D,by simpa using h4,fun D₁ hD₁=>?_,by simpa using G⟩;rcases GE.1 hD₁ with rfl|hD₁
  ·exact Le.refl _
  ·exact h5 D₁ hD₁
 ·subst hν;have hb:=(h4.box (b,.cells (cells++junk).toArray e (0,0)) Ye).2.2;have hnb:b∉(A++B).ks:=fun hm=>by
   have hnd:=h4.nd;simp only[aYE,aYN,aYA,bBC]at hnd;have:=aXX.1 hnd;have h2':=aZI.1 this.2.1;simp only[aD.ks,aYE,aYD]at hm;rcases hm with hm|hm
   ·exact this.2.2 b hm b aXW rfl
   ·exact h2'.1 hm
  have hb':=hb.resolve_right (fun h=>hnb (hmods b h));obtain⟨D',hle,hD',hDo,hs⟩:=h4.freeze hb';refine⟨D',fun D₁ hD₁=>(h5 D₁ hD₁).trans hle,aXR ⟨b,cap,hv,hncap,fun j u hj=>by rw[hD',bAL];exact hj⟩,h1,h2,h3,D',hs,fun D₁ hD₁=>?_,G.step (fun _ p hp=>aYF (n4.2 ⟨p,by rcases aYD.1 hp with hp|hp;exact aXU _ (aXU _ hp);exact n5 _ hp,rfl⟩)) (fun _=>⟨aYI _,fun c _ hn=>⟨rfl,hDo c (by rintro rfl;exact hn Ye)⟩,rfl⟩) hs.dom⟩
  rcases GE.1 hD₁ with rfl|hD₁
  ·exact Le.refl _
  ·exact(h5 D₁ hD₁).trans hle
theorem uR{A B ν:aD}{e sz n:Nat}{cells:List Value}(hacc:bZ e sz v n cells ν)(hmods:∀k∈X.mods,k∈(A++B).ks)(kk:∀D,(∀D₁∈Ds,Le D₁ D)→mH D v n cells→WL P X bad all K Q os σ (A++B) (D::Ds)):WL P X bad all K Q os σ (A++ν++B) Ds:=by
 intro a w hh;obtain⟨D',h1,h2,h3⟩:=hh.freezeM hacc hmods;exact kk D' h1 h2 a w h3
theorem EQ{T:Act→World→Prop}{A B ν:aD}{e sz n:Nat}{cells:List Value}(hacc:bZ e sz v n cells ν)(hmods:∀k∈X.mods,k∈(A++B).ks)(kk:∀D,(∀D₁∈Ds,Le D₁ D)→mH D v n cells→∀a w,Hl X σ (A++B) (D::Ds) a w→T a w):∀a w,Hl X σ (A++ν++B) Ds a w→T a w:=by
 intro a w hh;obtain⟨D',h1,h2,h3⟩:=hh.freezeM hacc hmods;exact kk D' h1 h2 a w h3
theorem Hl.apart{a:Act}{w:World}{D₁:aC}{b o:Nat}{c:Value}{cs:List Value}(hh:Hl X σ μ Ds a w)(hA:At D₁ b o (c::cs))(hD:D₁∈Ds):b∉μ.ks:=by
 obtain⟨h1,h2,h3,D,h4,h5,G⟩:=hh;intro hm;obtain⟨p,hp,rfl⟩:=n4.1 hm;have h0:=(h5 D₁ hD).get (hA 0 c rfl);rw[(h4.box p hp).2.1]at h0;simp at h0
theorem lG{c':Code}{D₁:aC}{b o:Nat}{c:Value}{cs:List Value}(hA:At D₁ b o (c::cs))(hD:D₁∈Ds)(k:b∉μ.ks→WC P X Q c' σ μ Ds):WC P X Q c' σ μ Ds:=fun a w hh=>k (hh.apart hA hD) a w hh
theorem At.tail{D:aC}{b o:Nat}{c:Value}{cs:List Value}(h:At D b o (c::cs)):At D b (o+1) cs:=fun j v hj=>by
 have:=h (j+1) v (by simpa using hj);rw[show o+1+j=o+(j+1) by omega];exact this

theorem PM{f:FuncId}{fn:Func}{c:Code}{args:List Value}{D:aC}{ν:aD}{post:aC→Value→aD→Prop}(N:Nat)(hf:P.funcs[f]?= some fn)(hn:(fn.name== "runtime.NumGoroutine")=false)(hb:fn.body=some c)(hN:fn.ntmps=N)(hsz:Nat.ble args.length N=true)
  (h:∀h0:H0,(∀p∈ν,p.1<h0.size)→ν.ks.Nodup→WC P (qA N h0 D ν.ks) (B2 P fn (lS (qA N h0 D ν.ks) ν.ks post)) c (jG 0 args) ν [D]):BA P f args D ν post:=by
 refine⟨EF.of hf hn hb,fun w hw hν hnd=>?_⟩;subst hN;have hsz:=aZC hsz;have hq:∀e a w',B2 P fn (lS (qA fn.ntmps (hd w) D ν.ks) ν.ks post) e a w'→bodyPostM (FW none) 0 P fn (lS (qA fn.ntmps (hd w) D ν.ks) ν.ks post) e a w':=by
  intro e a w' he;cases e<;>first|exact he|exact he.elim
 have hwp:=h (hd w) (fun p hp=>bK (hν p hp).1) hnd {tmps:=args.toArray++Array.replicate (fn.ntmps-args.toArray.size) undef,defers:=[]} w ⟨by simp[qA];omega,fun s v hs=>by
  obtain⟨_,h2⟩:=fQ args 0 s v hs;have hl:=(aXZ.1 h2).1;simp only[bAX]at h2 hl;show(args.toArray++_)[s]?= some v;rw[bAI Yas];simpa using h2,rfl,D,⟨aYI _,aYI _,(fun _ _ _=>rfl),(fun _ _=>rfl),hw,(fun p hp=>⟨(hν p hp).1,(hν p hp).2.1,aXR (n4.2 ⟨p,hp,rfl⟩)⟩),hnd,(fun p hp=>(hν p hp).2.2),fun e he=>aYS he⟩,(fun D₁ h1=>by simp only[aYH]at h1;subst h1;exact Le.refl _),bCV⟩
 refine(dN (r:=none) (n:=0)).1 ((callsIn_of_wp_marks hf hb bCV (wpIn_mono hwp hq) rfl).mono ?_);rintro e w' ⟨v,D',ν',rfl,hk,hs,hp⟩;exact⟨v,D',ν',rfl,hk,hs,hp⟩
theorem JV{fn:Func}{bd:Nat}{ks:List Nat}{post:aC→Value→aD→Prop}{e:Exit}(he:(match e with|.normal=>true|.ret=>true|_=>false)=true){rs:List ResultVar}{vs:List Value}{A B ν':aD}(hds:X.ds=[])(hr:fn.results=rs.toArray)(h:wL P X σ (A++ν'++B++[(bd,Obj.deferred none)]) rs vs)
  (hk:ν'.ks=ks) (hp:∀D,(∀D₁∈Ds,Le D₁ D)→post D (pT vs) ν'):∀a w,Hl (X.withDs bd) σ (A++ν'++B++[(bd,Obj.deferred (some []))]) Ds a w→B2 P fn (lS X ks post) e a w:=by
 intro a w hh;obtain⟨h1,h2,h3,D,h4,h5,G⟩:=hh;have hHas:bO (A++ν'++B++[(bd,Obj.deferred (some []))]) bd (.deferred (some [])) (.deferred none) (A++ν'++B++[(bd,Obj.deferred none)]):=.app .head;have hs:=h4.set (w':=w.putObj bd (.deferred none)) hHas ⟨rfl,rfl⟩ trivial;have hh':Hl X σ (A++ν'++B++[(bd,Obj.deferred none)]) Ds {a with defers:=[]} (w.putObj bd (.deferred none)):=
  ⟨h1,h2,hds.symm,D,hs,h5,G.step (X:=X.withDs bd) (fun _ p hp=>aYF Yq) (fun _=>jI ⟨rfl,rfl⟩ (n4.2 ⟨_,hHas.mem,rfl⟩)) hs.dom⟩
 have hrun:=iQ hh' hr h;have hb:=(h4.box (bd,Obj.deferred (some [])) Ye).1;have hnd:=h4.nd;simp only[aYE]at hnd;have hsub:=hs.sub (μ':=ν') (fun p hp=>aXU _ (aXU _ (n5 _ hp))) (aXX.1 (aXX.1 (aXX.1 hnd).1).1).2.1;have:LeavesInM (FW none) 0 P fn a.tmps (lS X ks post) a.defers .returning w:=by
  have h3':a.defers=[mQ bd]:=h3.trans (by show mQ bd::X.ds=_;rw[hds]);rw[h3'];exact⟨by simp,aYF ⟨bd,_,rfl,run_takeDeferred hb,_,hrun,_,D,ν',rfl,hk,hsub,hp D h5⟩⟩
 cases e<;>first|exact this|cases he
theorem aUX{γ:Type}(I:γ→Prop)(S:γ→Bool)(M:γ→aD)(xs ys:List (Bool×Nat)){s p:Nat}{b:Bool}(ho:os=xs++ys)(hs:look σ s=some (.bool b))
  (hyes:b=true→WL P X bad all (fun a w=>∃g,I g∧Hl X ((p,.bool (S g))::(s,.bool true)::σ) (M g) Ds a w) Q xs ((s,.bool true)::σ) μ Ds)
  (hno:b=false→WL P X bad all (fun a w=>∃g,I g∧Hl X ((p,.bool (S g))::(s,.bool false)::σ) (M g) Ds a w) Q xs ((s,.bool false)::σ) μ Ds)
  (k:∀g,I g→WL P X bad all K Q ys ((p,.bool (S g))::σ) (M g) Ds):WL P X bad all K Q os σ μ Ds:=by
 have hsub:∀u,Value.bool b=u→∀a w,Hl X σ μ Ds a w→Hl X ((s,u)::σ) μ Ds a w:=by
  rintro _ rfl a w ⟨h1,h2,h3⟩;refine⟨h1,fun t v ht=>?_,h3⟩;simp only[look]at ht;cases hb:Nat.beq s t with
  |true=>rw[hb]at ht;cases ht;obtain rfl:=aYZ hb;exact h2 _ _ hs
  |false=>rw[hb]at ht;exact h2 _ _ ht
 have hback:∀u v μ',Value.bool b=u→∀a w,Hl X ((p,v)::(s,u)::σ) μ' Ds a w→Hl X ((p,v)::σ) μ' Ds a w:=by
  rintro _ v μ' rfl a w ⟨h1,h2,h3⟩;refine⟨h1,fun t v' ht=>?_,h3⟩;refine h2 t v' ?_;simp only[look]at ht ⊢
  cases hp:Nat.beq p t with
  |true=>rw[hp]at ht;exact ht
  |false=>
   rw[hp]at ht;cases hb:Nat.beq s t with
   |true=>obtain rfl:=aYZ hb;rw[←ht,hs]
   |false=>exact ht
 subst ho;intro a w hh;cases b
 ·refine WL.append (hno rfl a w (hsub _ rfl a w hh)) ?_;rintro a w ⟨g,hI,h⟩;exact k g hI a w (hback _ _ _ rfl a w h)
 ·refine WL.append (hyes rfl a w (hsub _ rfl a w hh)) ?_;rintro a w ⟨g,hI,h⟩;exact k g hI a w (hback _ _ _ rfl a w h)
theorem uO{t:TypeId}{b k:Nat}{l:List Int}{n:Int}{e:TypeId}{μ':aD}(ho:all[ix]?= some ⟨none,.store t x y,ty,pos,aft,g⟩)(hs:TS P t 1)(hx:ev σ x=some (.pointer (some ⟨b,k,none⟩)))(hy:ev σ y=some (qI n))
  (hm:bO μ b (.cells (ints l).toArray e (0,0)) (.cells (ints (l.set k n)).toArray e (0,0)) μ') (hl:k<l.length) (hg:dE all σ g)
  (kk:WL P X bad all K Q os σ μ' Ds):WL P X bad all K Q ((false,ix)::os) σ μ Ds:=by
 have hil:(ints l).length=l.length:=aN l;refine bJ (off:=k) (us:=[qI n]) (vs:=ints l) (ws:=ints (l.set k n)) ho hx hy rfl hs hm (by simp[hil];omega) ?_ (fun u hu=>by simp at hu;subst hu;rfl) hg kk
 rw[show ints (l.set k n)=(ints l).set k (qI n) by simp[ints,List.map_set],List.set_eq_take_append_cons_drop,aYJ (by rw[hil];exact hl)];simp
theorem kK{t e tr:TypeId}{a:Option Addr}{n c:Nat}{ats:Array TypeId}(ho:all[ix]?= some ⟨some d,.call {callee:=.builtin .len,args:=#[x],argTypes:=ats},tr,pos,aft,g⟩)(ht:P.underlying t=some (.slice e))(hx:ev σ x=some (.slice a n c))(hat:ats[0]?= some t)
  (hN:Nat.blt d X.N=true) (hg:dE all σ g) (kk:WL P X bad all K Q os ((d,qI (n:Int))::σ) μ Ds):WL P X bad all K Q ((fl,ix)::os) σ μ Ds:=
 bX ho rfl rfl hN hg (fun ρ hρ w'=>by
  have hx':=hρ x _ hx;simp[Builtin.len_,hat,hx',Sem.run_bind,TU.of ht w',goInt,Sem.run_pure,go_sem]) kk
theorem Hl.boxesEq{a:Act}{w:World}{μ':aD}(hh:Hl X σ μ Ds a w)(h:μ=μ'):Hl X σ μ' Ds a w:=h▸hh
theorem zN{T:Act→World→Prop}(μ':aD)(h:μ=μ')(k:∀a w,Hl X σ μ' Ds a w→T a w):∀a w,Hl X σ μ Ds a w→T a w:=h▸k
theorem oI{t t' e:TypeId}{a:Option Addr}{n c:Nat}(ho:all[ix]?= some ⟨some d,.binOp .eql t x y t',ty,pos,aft,g⟩)(ht:P.underlying t=some (.slice e))(hx:ev σ x=some (.slice a n c))(hy:ev σ y=some (qN))(hN:Nat.blt d X.N=true)(hg:dE all σ g)
  (kk:WL P X bad all K Q os ((d,.bool (a.isNone))::σ) μ Ds):WL P X bad all K Q ((fl,ix)::os) σ μ Ds:=
 yK ho (fun w=>by
  have hgd:(eqGuard .eql t x y (.slice a n c) (qN)).run P w=.ok () w:=by
   simp only[eqGuard];simp[go_sem]
  have heq:(Op.equal t (.slice a n c) (qN)).run P w=.ok a.isNone w:=by
   show(Op.equalIn (9999+1) t (.slice a n c) (qN)).run P w=_;rw[Op.equalIn,Sem.run_bind,TU.of ht w];cases a<;>rfl
  rw[Sem.run_bind,hgd];show((do Pure.pure (Value.bool (←Op.equal t (.slice a n c) (qN)))):Sem Value).run P w=_;rw[Sem.run_bind,heq];rfl) hx hy hN hg kk
theorem o6{t:TypeId}{b off:Nat}{vs us:List Value}{e:TypeId}{μ':aD}(ho:all[ix]?= some ⟨none,.store t x y,ty,pos,aft,g⟩)(hx:ev σ x=some (.pointer (some ⟨b,off,none⟩)))(hy:ev σ y=some v)(hv:v.cells=us.toArray)(hs:TS P t us.length)
  (hm:bO μ b (.cells vs.toArray e (0,0)) (.cells vs.toArray e (0,0)) μ') (hl:off+us.length≤vs.length) (hw:vs.take off++us++vs.drop (off+us.length)=vs) (G:∀u∈us,cell1 u=true) (hg:dE all σ g)
  (kk:WL P X bad all K Q os σ μ' Ds):WL P X bad all K Q ((fl,ix)::os) σ μ Ds:=by
 refine eI ho rfl rfl hg fun a w hh=>?_
 obtain⟨h1,h2,h3,D,h4,h5,I⟩:=id hh;obtain⟨w',hr,hw'⟩:=yU (P:=P) hs hv (h4.box _ hm.mem).1 hl G;have:(execOp a.eval ⟨none,.store t x y,ty,pos,aft,g⟩).run P w=.ok .skip w':=by
  simp only[execOp,hh.eval hx,hh.eval hy,Sem.run_bind,hr,Result.andThen_ok,Sem.run_pure]
 rw[this];rw[hw]at hw';refine⟨fun _=>⟨by rw[hw'.1];simp,fun c _ _=>?_⟩,kk _ _ ⟨h1,h2,h3,D,h4.set hm hw' rfl,h5,I.step (fun _ p hp=>aYF Yat) (fun _=>jI hw' (n4.2 ⟨_,hm.mem,rfl⟩)) (h4.set hm hw' rfl).dom⟩⟩
 have hb:=(h4.box _ hm.mem).1;rw[hw'.1];by_cases hc:b=c
 ·subst hc;rw[bCK (bK hb)];exact hb.symm
 ·rw[aZZ hc]

theorem cJ{D₁:aC}{b o:Nat}{c:Value}{cs:List Value}(hA:At D₁ b o (c::cs))(hD:D₁∈Ds)(k:b∉μ.ks→WL P X bad all K Q os σ μ Ds):WL P X bad all K Q os σ μ Ds:=fun a w hh=>k (hh.apart hA hD) a w hh
theorem aPE{e sz b:Nat}{cells:List Value}(h:cells.length=sz):bZ e sz (qS b 1 1) 1 cells [(b,.cells cells.toArray e (0,0))]:=
 aXR ⟨b,1,[],rfl,aYI _,by simp,by omega,by simp;omega⟩
theorem aDF{D:aC}{b:Nat}{cells:List Value}(h:mH D (qS b 1 1) 1 cells):At D b 0 cells:=by
 rcases h with⟨a,_,h0,_⟩|⟨b',cap,hv,_,hA⟩
 ·omega
 ·cases hv;exact hA
theorem yP{c:Code}{A B:aD}{b:Nat}{cells:List Value}{e:TypeId}(hmods:X.mods=[])(kk:∀D,(∀D₁∈Ds,Le D₁ D)→At D b 0 cells→WC P X Q c σ (A++B) (D::Ds)):WC P X Q c σ (A++(b,.cells cells.toArray e (0,0))::B) Ds:=by
 have:=sH (A:=A) (B:=B) (ν:=[(b,.cells cells.toArray e (0,0))]) (c:=c) (P:=P) (X:=X) (Q:=Q) (σ:=σ) (Ds:=Ds) (aPE (e:=e) (b:=b) (cells:=cells) rfl) hmods fun D hD hF=>kk D hD (aDF hF)
 simpa using this
theorem TI{α:Type}{D:aC}{b sz:Nat}{cells:α→List Value}(hsz:∀x,(cells x).length=sz):∀{xs:List α} {o:Nat},(∀i x,xs[i]?= some x→At D b (o+i*sz) (cells x))→At D b o (xs.flatMap cells)
 | [],o,_=>fun j v hj=>by simp at hj
 |x::xs,o,h=>fun j v hj=>by
  rw[aZD]at hj;have h0:=h 0 x rfl;rw[bBS,Nat.add_zero]at h0;have hr:=TI hsz (xs:=xs) (o:=o+sz) fun i y hy=>by
   have:=h (i+1) y (by simpa using hy);rw[show o+sz+i*sz=o+(i+1)*sz by rw[bAG];omega];exact this
  rcases Nat.lt_or_ge j (cells x).length with hl|hl
  ·rw[bAK hl]at hj;exact h0 j v hj
  ·rw[bCQ hl]at hj;have:=hr _ v hj;rw[hsz]at this;rw[show o+j=o+sz+(j-sz) by rw[hsz]at hl;omega];exact this
theorem mK.of{α:Type}{R:Rd α}{D:aC}{sz:Nat}{xs:List α}{cells:α→List Value}(hR:∀D x cs,R D x cs→cs=cells x)(hsz:∀x,(cells x).length=sz)(h:Sl D R sz v xs):mK D v xs.length (xs.flatMap cells):=by
 obtain⟨a,cap,rfl,h1,h2,h3⟩:=h;rcases h3 with rfl|⟨b,o,rfl,h3⟩
 ·exact aYF ⟨a,cap,rfl,rfl,rfl⟩
 ·refine aXR ⟨b,o,cap,rfl,TI hsz fun i x hx=>?_⟩;obtain⟨cs,hr,hc,hA⟩:=h3 i x hx;rw[hR _ _ _ hr]at hA;exact hA
theorem rJ{α:Type}{R:Rd α}{D:aC}{sz n c:Nat}{xs:List α}(h:Sl D R sz (.slice none n c) xs):xs=[]:=by
 obtain⟨a,cap,hv,h1,h2,h3⟩:=h;rcases h3 with h3|⟨b,o,ha,_⟩
 ·exact h3
 ·rw[ha]at hv;cases hv
theorem aCJ{α:Type}{R:Rd α}{D₁:aC}{sz:Nat}{t e:TypeId}{xs:List α}{k:IntKind}{i:Int}{el:α}{bt ot ct:Nat}(ho:all[ix]?= some ⟨some d,.indexAddr t x y,ty,pos,aft,g⟩)(ht:P.underlying t=some (.slice e))(hs:TS P e sz)(hx:ev σ x=some (.slice (some ⟨bt,ot,none⟩) xs.length ct))(hS:Sl D₁ R sz (.slice (some ⟨bt,ot,none⟩) xs.length ct) xs)
  (hy:ev σ y=some (.int k i)) (h0:0≤i) (hi:xs[i.toNat]?= some el) (hN:Nat.blt d X.N=true) (hg:dE all σ g)
  (kk:∀cs,R D₁ el cs→cs.length=sz→At D₁ bt (ot+i.toNat*sz) cs→WL P X bad all K Q os ((d,.pointer (some ⟨bt,ot+i.toNat*sz,none⟩))::σ) μ Ds):WL P X bad all K Q ((fl,ix)::os) σ μ Ds:=by
 obtain⟨a,cap,hv,h1,h2,h3⟩:=hS;cases hv;have hlt:=(aXZ.1 hi).1;rcases h3 with h3|⟨b,o,ha,h3⟩
 ·subst h3;simp at hi
 ·cases ha;obtain⟨cs,hr,hc,hA⟩:=h3 _ _ hi;exact gT ho ht hs hx hy h0 Yd hN hg (kk cs hr hc hA)
section
variable{t e t2:TypeId}{D₁:aC}{xs:List Int}{k:IntKind}{i el:Int}{ix2 d2:Nat}{x2:Operand}{ty2:TypeId}{pos2:String}{aft2:Array Edge}{g2:Option (Nat×Bool)}{fl2:Bool}
theorem cZ{bt ot ct:Nat}(e9:(all[ix]?,all[ix2]?,ev σ x,ev σ y,xs[i.toNat]?,ev ((d,.pointer (some ⟨bt,ot+i.toNat*1,none⟩))::σ) x2)=(some ⟨some d,.indexAddr t x y,ty,pos,aft,g⟩,some ⟨some d2,.load t2 x2,ty2,pos2,aft2,g2⟩,some (.slice (some ⟨bt,ot,none⟩) xs.length ct),some (.int k i),some el,some (.pointer (some ⟨bt,ot+i.toNat*1+0,none⟩))))(hS:Sl D₁ RI 1 (.slice (some ⟨bt,ot,none⟩) xs.length ct) xs)
  (kk:WL P X bad all K Q os ((d2,qI el)::(d,.pointer (some ⟨bt,ot+i.toNat*1,none⟩))::σ) μ Ds) (h0:0≤i:=by omega) (ht:P.underlying t=some (.slice e):=by exact U25) (hs:TS P e 1:=by exact aL) (ha:TA P t2 false:=by exact aI) (hD:D₁∈Ds:=by first|simp|assumption) (hb:bt∉bad:=by first|exact n3|assumption|simp)
  (hN:Nat.blt d X.N=true:=by exact rfl) (hg:dE all σ g:=by exact bCV) (hN2:Nat.blt d2 X.N=true:=by exact rfl) (hg2:dE all ((d,.pointer (some ⟨bt,ot+i.toNat*1,none⟩))::σ) g2:=by exact bCV):WL P X bad all K Q ((fl,ix)::(fl2,ix2)::os) σ μ Ds:=
 aCJ (aXV (fun z=>z.1) e9) ht hs (aXV (fun z=>z.2.2.1) e9) hS (aXV (fun z=>z.2.2.2.1) e9) h0 (aXV (fun z=>z.2.2.2.2.1) e9) hN hg fun cs hr hcl hA=>by
  obtain rfl:cs=[qI _]:=hr;exact dT (k:=0) (aXV (fun z=>z.2.1) e9) ha (aXV (fun z=>z.2.2.2.2.2) e9) hA hD rfl hb hN2 hg2 kk
end
theorem kJ{α:Type}{R:Rd α}{D:aC}{sz:Nat}{xs:List α}{v:Value}(h:Sl D R sz v xs)(hne:xs≠[]):∃bt ot ct,v=.slice (some ⟨bt,ot,none⟩) xs.length ct:=by
 obtain⟨a,cap,hv,h1,h2,h3⟩:=h;rcases h3 with h3|⟨b,o,ha,_⟩
 ·exact absurd h3 hne
 ·exact⟨b,o,cap,by rw[hv,ha]⟩
theorem tA{t:TypeId}{b off:Nat}{vs us ws:List Value}{e:TypeId}{μ':aD}(ho:all[ix]?= some ⟨none,.store t x y,ty,pos,aft,g⟩)(hx:ev σ x=some (.pointer (some ⟨b,off,none⟩)))(hy:ev σ y=some v)(hv:v.cells=us.toArray)(hs:TS P t us.length)
  (hm:bO μ b (.cells vs.toArray e (0,0)) (.cells ws.toArray e (0,0)) μ') (hl:off+us.length≤vs.length) (hw:vs.take off++us++vs.drop (off+us.length)=ws) (hc1:∀u∈us,cell1 u=true) (hfl:fl=false∨b∈bad) (hg:dE all σ g)
  (kk:WL P X bad all K Q os σ μ' Ds):WL P X bad all K Q ((fl,ix)::os) σ μ Ds:=by
 refine eI ho rfl rfl hg fun a w hh=>?_
 obtain⟨h1,h2,h3,D,h4,h5,h6⟩:=id hh;obtain⟨w',hr,hw'⟩:=yU (P:=P) hs hv (h4.box _ hm.mem).1 hl hc1;have:(execOp a.eval ⟨none,.store t x y,ty,pos,aft,g⟩).run P w=.ok .skip w':=by
  simp only[execOp,hh.eval hx,hh.eval hy,Sem.run_bind,hr,Result.andThen_ok,Sem.run_pure]
 rw[this];rw[hw]at hw';refine⟨fun h=>⟨by rw[hw'.1];simp,fun c _ hn=>?_⟩,kk _ _ ⟨h1,h2,h3,D,h4.set hm hw' rfl,h5,h6.step (fun _ p hp=>aYF Yat) (fun _=>jI hw' (n4.2 ⟨_,hm.mem,rfl⟩)) (h4.set hm hw' rfl).dom⟩⟩
 rcases hfl with hf|hf
 ·rw[hf]at h;cases h
 ·rw[hw'.1,aZZ (by rintro rfl;exact hn hf)]
theorem _root_.Go.Fs.Zr{t:TypeId}{b:Nat}(off:Nat)(vs:List Value)(us:List Value)(ws:List Value){e:TypeId}{μ':aD}(e9:(all[ix]?,ev σ x,ev σ y,v.cells)=(some ⟨none,.store t x y,ty,pos,aft,g⟩,some (.pointer (some ⟨b,off,none⟩)),some v,us.toArray))(hs:TS P t us.length)(hm:bO μ b (.cells vs.toArray e (0,0)) (.cells ws.toArray e (0,0)) μ')(hw:vs.take off++us++vs.drop (off+us.length)=ws)(hfl:fl=false∨b∈bad)(kk:WL P X bad all K Q os σ μ' Ds)(hl:off+us.length≤vs.length:=by exact Ye)(hc1:∀u∈us,cell1 u=true:=by exact Yj)(hg:dE all σ g:=by exact bCV):WL P X bad all K Q ((fl,ix)::os) σ μ Ds:=tA (off:=off) (vs:=vs) (us:=us) (ws:=ws) (aXV (fun z=>z.1) e9) (aXV (fun z=>z.2.1) e9) (aXV (fun z=>z.2.2.1) e9) (aXV (fun z=>z.2.2.2) e9) hs hm hl hw hc1 hfl hg kk
def US{α:Type}(P:Program)(f:FuncId)(cap:List Value)(Dr:aC)(xs:List α)(enc:Nat→List Value→Prop)(cells:α→List Value):Prop:=
 EF P f∧∀(lo l:Nat) (J Jx:List α→tF),(∀pre,G8 lo (J pre))→(∀pre,G8 lo (Jx pre))→
  (∀pre x β D w bo vs,(∃r,xs=pre++x::r)→xZ lo D w→J pre β D w→(∀b∈β,b<w.heap.size)→Le Dr D→enc bo vs→DG β D w bo (cells x)→
   iS P l vs w fun b D' w'=>xZ lo D' w'∧yJ β D w D' w'∧(if b then J (pre++[x]) β D' w' else Jx (pre++[x]) β D' w'))→
  ∀D w,xZ lo D w→Le Dr D→J [] [] D w→Calls P f (.func (.yield l) #[] #[]::cap).toArray w fun e w'=>∃v D',e=.returned v∧xZ lo D' w'∧(J xs [] D' w'∨∃pre,Jx pre [] D' w')
theorem GN{α γ:Type}{xs:List α}{enc:Nat→List Value→Prop}{cells:α→List Value}{Dr:aC}{f:FuncId}{cap:List Value}{gop:Operand}{ps:Array Tmp}{assign body:Code}
  (Φ:List α→γ→Prop) (Ψ:List α→Code→γ→Prop) (M:γ→aD) (g₀:γ) (hr:X.r=none) (hex:X.ex=none) (hmods:∀g,∀k∈X.mods,k∈(M g).ks)
  (hg:ev σ gop=some (.func (.func f) #[] cap.toArray)) (hit:US P f cap Dr xs enc cells) (hDr:Dr∈Ds) (hps:∀b vs,enc b vs→vs.length=ps.size) (hpN:(ps.toList.all fun p=>Nat.blt p X.N)=true) (h₀:Φ [] g₀) (hμ:M g₀=μ)
  (hround:∀pre x g,(∃r,xs=pre++x::r)→Φ pre g→∀(l bd bo:Nat) (vs:List Value) (rec:Loop) (h0:H0) (D:aC),(∀D₁∈Ds,Le D₁ D)→enc bo vs→At D bo 0 (cells x)→rec.state=.ready→rec.pending=none→
   WC P (Xr l X.N h0 D ((M g++(l,Obj.loop rec)::[(bd,Obj.deferred (some []))]).map (·.1)))
    (Exit.then (fun a₁ w₁=>∃w₂,(Instr.beginRound l).run P w₁=.ok () w₂∧body.wpIn ((FW none).inRound l) 0 P (roundPost P l (zD h0 D ((M g++(l,Obj.loop rec)::[(bd,Obj.deferred (some []))]).map (·.1)) (Φ (pre++[x])) (Ψ (pre++[x]))
     (fun g=>M g++(l,Obj.loop {rec with state:=.ready,pending:=none})::[(bd,Obj.deferred (some []))]) (fun c g=>M g++(l,Obj.loop {rec with state:=.done,pending:=some c})::[(bd,Obj.deferred (some []))]))) a₁ w₂) (fun _ _ _=>False))
    assign (xR ps.toList vs σ) (M g++(l,Obj.loop rec)::[(bd,Obj.deferred (some []))]) (D::Ds))
  (hdone:∀g bd,Φ xs g→∀a w,Hl (X.withDs bd) σ (M g++[(bd,Obj.deferred (some []))]) Ds a w→Q .normal a w)
  (hstop:∀pre c g bd,Ψ pre c g→WC P (X.withDs bd) Q c σ (M g++[(bd,Obj.deferred (some []))]) Ds):WC P X Q (.rangeFunc gop ps assign body) σ μ Ds:=by
 intro a w hh;subst hμ;have hev:=hh.eval hg;obtain⟨h1,h2,h3,D,h4,h5,h6⟩:=hh;refine wpIn_rangeFunc fun fn _=>?_
 have hround':(FW X.r).round=none:=hr;rw[hround'];have hmk:∀g (B:aD),∀k∈X.mods,k∈(M g++B).ks:=fun g B k hk=>by
  show k∈(M g++B).map _;rw[aYE];exact aXU _ (hmods g k hk)
 let bd:=w.heap.size
 let l:=w.heap.size+1
 let G:Loop:={state:=.ready,pending:=none,fn,tmps:=a.tmps,params:=ps,assign,body,defers:=bd}
 let T:World:={w with heap:=w.heap.push (.deferred (some []))}
 let O:World:={T with heap:=T.heap.push (.loop G)}
 have U:hP X.h0 X.lo X.D0 X.mods ((bd,Obj.deferred (some []))::M g₀) D T:=h4.push (.deferred (some [])) trivial;have I:hP X.h0 X.lo X.D0 X.mods ((l,Obj.loop G)::(bd,Obj.deferred (some []))::M g₀) D O:=by
  have:=U.push (.loop G) trivial;have e:T.heap.size=l:=by simp[T,l]
  rw[e]at this;exact this
 have hperm:hP X.h0 X.lo X.D0 X.mods (M g₀++(l,Obj.loop G)::[(bd,Obj.deferred (some []))]) D O:=by
  refine I.sub (fun p hp=>?_) ?_
  ·simp only[aYD,GE,n3,bAO]at hp ⊢
   rcases hp with hp|hp|hp
   ·exact aXR (aXR hp)
   ·exact aYF hp
   ·exact aXR (aYF hp)
  ·have hn:=I.nd;simp only[aYN,aZI,GE,not_or]at hn;simp only[aYE,aYN,bBM,aXX,aZI,GE,n3,bAO,bCB,aZP,and_true];refine⟨hn.2.2,hn.1.1,fun q hq r hr'=>?_⟩;rcases hr' with rfl|rfl
   ·rintro rfl;exact hn.1.2 hq
   ·rintro rfl;exact hn.2.1 hq
 refine⟨l,[mQ bd],O,{target:=.fn (.func f) cap.toArray,args:=#[.func (.yield l) #[] #[]]},O,f,(.func (.yield l) #[] #[]::cap).toArray,O,run_enterLoop_outer fn a.tmps ps assign body,?_,fun _ _=>trivial,?_,fun h=>by simp[FW]at h,?_⟩
 ·simp only[resolve,Deferred.ofValue];have e:Array.map a.eval #[Operand.const (Value.func (Fn.yield l) #[] #[])]=#[.func (.yield l) #[] #[]]:=by simp[Act.eval]
  rw[e,hev];rfl
 ·simp only[invoke];rw[hit.1];simp
 ·refine dN.2 ((hit.2 X.lo l
   (fun pre=>aGF X.h0 X.lo X.D0 X.mods Ds (Φ pre) fun g=>M g++(l,Obj.loop G)::[(bd,Obj.deferred (some []))])
   (fun pre=>aGF X.h0 X.lo X.D0 X.mods Ds (fun cg:Code×γ=>Ψ pre cg.1 cg.2) fun cg=>M cg.2++(l,Obj.loop {G with state:=.done,pending:=some cg.1})::[(bd,Obj.deferred (some []))])
   (fun _=>O7) (fun _=>O7) ?_ D O I.dom (h5 Dr hDr) ⟨g₀,h₀,hperm,h5,(fun _ h=>by cases h),(fun _ _ h=>by cases h),hmk g₀ _⟩).mono ?_)
  ·rintro pre x β Dx wx bo vs hx hdx ⟨g,hΦ,hst,hDs,hβ,hM,hmg⟩ hβs hle henc ⟨hbo,hbD,be,bfz,hbw⟩;have hbox:=(hst.box (l,Obj.loop G) Ye).1;refine⟨fn,_,assign,body,run_yield hbox (by simpa using hps bo vs henc),?_⟩;refine(roundIn_of_wpIn (F:=FW none) bCV (R:=zD (hd wx) (fK Dx bo (cells x)) ((M g++(l,Obj.loop G)::[(bd,Obj.deferred (some []))]).map (·.1)) (Φ (pre++[x])) (Ψ (pre++[x]))
     (fun g=>M g++(l,Obj.loop {G with state:=.ready,pending:=none})::[(bd,Obj.deferred (some []))]) (fun c g=>M g++(l,Obj.loop {G with state:=.done,pending:=some c})::[(bd,Obj.deferred (some []))])) ?_).mono ?_
   ·have hw:=hround pre x g hx hΦ l bd bo vs G (hd wx) (fK Dx bo (cells x)) (fun D₁ h=>(hDs D₁ h).trans (xV hbD (hst.agr.ne0 hbD))) henc (l9 _ _ _) rfl rfl;have ht:(ps.zip vs.toArray).foldl (fun tmps (t,a)=>tmps.setIfInBounds t a) a.tmps=(ps.toList.zip vs).foldl (fun tmps (p:Tmp×Value)=>tmps.setIfInBounds p.1 p.2) a.tmps:=by
     rw[←Array.foldl_toList];simp
    have hpN':∀p∈ps.toList,p<a.tmps.size:=fun p hp=>by rw[h1];simpa [bCU]using aYL.1 hpN p hp
    refine hw {tmps:=_,defers:=[]} wx ⟨?_,fun s v hs=>?_,rfl,fK Dx bo (cells x),⟨aYI _,aYI _,fun _ _ _=>rfl,fun _ _=>rfl,EH hst.agr hbw hbD,fun p hp=>?_,hst.nd,hst.fz,fun e he=>aYS he⟩,fun D₁ hD₁=>?_,bCV⟩
    ·show((ps.zip vs.toArray).foldl _ a.tmps).size=X.N;rw[ht,N5];exact h1
    ·show((ps.zip vs.toArray).foldl _ a.tmps)[s]?= some v;rw[ht];exact Q6 _ _ _ _ h2 hpN' s v hs
    ·obtain⟨Y,Z,p3⟩:=hst.box p hp;exact⟨Y,by unfold fK;rw[aYC (fun e=>hM p hp (by rw[e];exact hbo))];exact Z,aXR (n4.2 ⟨p,hp,rfl⟩)⟩
    ·rcases GE.1 hD₁ with rfl|hD₁
     ·exact Le.refl _
     ·exact(hDs D₁ hD₁).trans (xV hbD (hst.agr.ne0 hbD))
   ·rintro e w' ⟨b,D',rfl,hb⟩;have fin:∀μ',hP (hd wx) wx.heap.size (fK Dx bo (cells x)) ((M g++(l,Obj.loop G)::[(bd,Obj.deferred (some []))]).map (·.1)) μ' D' w'→hP X.h0 X.lo X.D0 X.mods μ' (fK D' bo []) w'∧yJ β Dx wx (fK D' bo []) w'∧(∀D₁∈Ds,Le D₁ (fK D' bo []))∧(∀p∈μ',p.1∉β):=by
     intro μ' V;have hs':=V.hide hbD (hst.agr.ne0 hbD);refine⟨hst.roundM hmg hs',hP.roundHigh hst.agr hs' hβs hM,fun D₁ hD₁=>(hDs D₁ hD₁).trans (fU hst.agr hs'),fun p hp hpb=>?_⟩;rcases(hs'.box p hp).2.2 with h|h
     ·have:=hβs _ hpb;omega
     ·obtain⟨q,hq,he⟩:=n4.1 h;exact hM q hq (by rw[he];exact hpb)
    refine⟨b,fK D' bo [],rfl,?_⟩;cases b with
    |true=>
     obtain⟨g',hg',hs'⟩:=hb;obtain⟨f1,f2,f3,f4⟩:=fin _ hs';exact⟨f1.dom,f2,g',hg',f1,f3,hβ,f4,hmk g' _⟩
    |false=>
     obtain⟨c',g',hg',hs'⟩:=hb;obtain⟨f1,f2,f3,f4⟩:=fin _ hs';exact⟨f1.dom,f2,(c',g'),hg',f1,f3,hβ,f4,hmk g' _⟩
  ·rintro e w' ⟨v,D',rfl,hd,hend⟩;have post:∀(g:γ) (r:Loop),hP X.h0 X.lo X.D0 X.mods (M g++(l,Obj.loop r)::[(bd,Obj.deferred (some []))]) D' w'→(∀D₁∈Ds,Le D₁ D')→
     Hl (X.withDs bd) σ (M g++[(bd,Obj.deferred (some []))]) Ds {a with defers:=[mQ bd]++a.defers} (w'.putObj l (.loop {r with state:=.exhausted})):=by
    intro g r hs hD';have hHas:bO (M g++(l,Obj.loop r)::[(bd,Obj.deferred (some []))]) l (.loop r) (.loop {r with state:=.exhausted}) (M g++(l,Obj.loop {r with state:=.exhausted})::[(bd,Obj.deferred (some []))]):=.app .head;have hs':=hs.set (w':=w'.putObj l (.loop {r with state:=.exhausted})) hHas ⟨rfl,rfl⟩ trivial;have hs'':=hs'.sub (μ':=M g++[(bd,Obj.deferred (some []))]) (fun p hp=>by
     rcases aYD.1 hp with hp|hp
     ·exact aXU _ hp
     ·exact n5 _ (LE _ hp)) (by
     have hn:=hs'.nd;rw[aYE,aXX]at hn ⊢
     simp only[aYN]at hn;exact⟨hn.1,(aZI.1 hn.2.1).2,fun q hq r hr=>hn.2.2 q hq r (LE _ hr)⟩)
    exact⟨h1,h2,aXV (mQ bd:: ·) h3,D',hs'',hD',by unfold A8;show(match X.ex with|none=>True|some J=>_);rw[hex];trivial⟩
   rcases hend with⟨g,hΦ,hs,hDs,_,_,_⟩|⟨pre,⟨c,g⟩,hΨ,hs,hDs,_,_,_⟩
   ·have hb:=(hs.box (l,Obj.loop G) Ye).1;exact⟨none,_,run_endLoop hb (by simp[G]),hdone g bd hΦ _ _ (post g G hs hDs)⟩
   ·have hb:=(hs.box (l,Obj.loop {G with state:=.done,pending:=some c}) Ye).1;refine⟨some c,_,run_endLoop hb Ye,?_⟩;have:=hstop pre c g bd hΨ _ _ (post g _ hs hDs);exact this
theorem NK{α:Type}{f:FuncId}{fn:Func}{c:Code}{cap:List Value}{Dr:aC}{xs:List α}{enc:Nat→List Value→Prop}{cells:α→List Value}(N:Nat)(hf:P.funcs[f]?= some fn)(hn:(fn.name== "runtime.NumGoroutine")=false)(hb:fn.body=some c)(hN:fn.ntmps=N)(hsz:Nat.ble (cap.length+1) N=true)
  (h:∀(lo l:Nat) (J Jx:List α→tF),(∀pre,G8 lo (J pre))→(∀pre,G8 lo (Jx pre))→
   (∀pre x β D w bo vs,(∃r,xs=pre++x::r)→xZ lo D w→J pre β D w→(∀b∈β,b<w.heap.size)→Le Dr D→enc bo vs→DG β D w bo (cells x)→
    iS P l vs w fun b D' w'=>xZ lo D' w'∧yJ β D w D' w'∧(if b then J (pre++[x]) β D' w' else Jx (pre++[x]) β D' w'))→
   WC P (Xj N lo (J [])) (bodyPost P fn (Y7 lo [Dr] fun _ J' _=>J'=J xs∨∃pre,J'=Jx pre)) c (jG 0 (.func (.yield l) #[] #[]::cap)) [] [Dr]):US P f cap Dr xs enc cells:=by
 refine⟨EF.of hf hn hb,fun lo l J Jx hs hsx hY D w hd hle hJ=>?_⟩;have hF:=I0 (μ:=[]) N hf hn hb hN (by simpa using hsz) (h lo l J Jx hs hsx hY);refine(hF.2 w ⟨D,⟨bCE _,hd.2,fun b hb=>absurd hb (bBP _),fun b hb=>absurd hb (bBP _),hd.1,Yi,aZP,Yi,fun e he=>by cases he⟩,fun D₁ h1=>?_,hs [],hJ⟩).mono ?_
 ·simp only[aYH]at h1;subst h1;exact hle
 ·rintro e w' ⟨v,J',μ',rfl,⟨D',hst,hds,hex⟩,hpost⟩;refine⟨v,D',rfl,hst.dom,?_⟩;have hJ':J' [] D' w':=hex.1.own _ [] D' w' hex.2 (fun b hb=>by cases hb);rcases hpost with rfl|⟨pre,rfl⟩
  ·exact aYF hJ'
  ·exact aXR ⟨pre,hJ'⟩
theorem Hl.subB{μ':aD}{a:Act}{w:World}(h:Hl X σ μ Ds a w)(hμ:μ'.Sublist μ):Hl X σ μ' Ds a w:=by
 obtain⟨g1,g2,g3,D,h4,h5,G⟩:=h;exact⟨g1,g2,g3,D,h4.sub (fun p hp=>hμ.subset hp) (h4.nd.sublist (hμ.map _)),h5,G.step (fun _ p hp=>aYF (n4.2 ⟨p,hμ.subset hp,rfl⟩)) (fun _=>aHE.refl _ _ _) h4.dom⟩
theorem o8{μ':aD}(hμ:μ'.Sublist μ)(h:WL P X bad all K Q os σ μ' Ds):WL P X bad all K Q os σ μ Ds:=fun a w hh=>h a w (hh.subB hμ)
theorem Hl.perm{μ':aD}{a:Act}{w:World}(h:Hl X σ μ Ds a w)(h1:∀r∈μ',r∈μ)(h2:(μ.map (·.1)).Nodup→(μ'.map (·.1)).Nodup):Hl X σ μ' Ds a w:=by
 obtain⟨g1,g2,g3,D,h4,h5,G⟩:=h;exact⟨g1,g2,g3,D,h4.sub h1 (h2 h4.nd),h5,G.step (fun _ r hr=>aYF (n4.2 ⟨r,h1 r hr,rfl⟩)) (fun _=>aHE.refl _ _ _) h4.dom⟩
def oL(v:Value):List PanicEntry:=[{v,recovered:=false}]
def mC(P:Program)(f:FuncId)(args:List Value)(D:aC)(ν:aD)(post:aC→Value→aD→Prop)(pan:Value→Prop):Prop:=
 EF P f∧∀w,eO D w→(∀p∈ν,w.heap[p.1]?= some p.2∧D p.1=[]∧dD p.2)→ν.ks.Nodup→Calls P f args.toArray w fun e w'=>
  (∃v D' ν',e=.returned v∧hP (hd w) w.heap.size D ν.ks ν' D' w'∧post D' v ν')∨(∃v D',e=.panicked (oL v)∧hP (hd w) w.heap.size D ν.ks [] D' w'∧pan v)
theorem hP.afterG{h0:H0}{lo:Nat}{D0 D D':aC}{mods:List Nat}{A B ν ν':aD}{w w':World}(h:hP h0 lo D0 mods (A++ν++B) D w)(hs:hP (hd w) w.heap.size D ν.ks ν' D' w'):hP h0 lo D0 mods (A++ν'++B) D' w':=by
 have hle:=bAM h.hlo h.size;have hin:∀c∈ν.ks,∃o,(c,o)∈ν:=fun c hc=>by
  obtain⟨p,hp,rfl⟩:=n4.1 hc;exact⟨p.2,hp⟩
 have hbx:∀p∈ν,_:=fun p hp=>h.box p (aXU _ (n5 _ hp))
 have hnd:=h.nd;simp only[aYE]at hnd;have hA:∀p∈A,p.1∉ν.ks∧p.1<w.heap.size:=fun p hp=>⟨fun hm=>(aXX.1 (aXX.1 hnd).1).2.2 p.1 (n4.2 ⟨p,hp,rfl⟩) p.1 hm rfl,bK (h.box p (aXU _ (aXU _ hp))).1⟩
 have hB:∀p∈B,p.1∉ν.ks∧p.1<w.heap.size:=fun p hp=>⟨fun hm=>(aXX.1 hnd).2.2 p.1 (n5 _ hm) p.1 (n4.2 ⟨p,hp,rfl⟩) rfl,bK (h.box p (n5 _ hp)).1⟩
 have hN:∀p∈ν',p.1∈ν.ks∨w.heap.size≤p.1:=fun p hp=>((hs.box p hp).2.2).symm
 refine⟨h.hlo,bAM h.size hs.size,fun c hc hm=>?_,fun c hc=>?_,hs.agr,fun p hp=>?_,?_,fun p hp=>?_,fun e he=>(hs.env _ rfl).trans (h.env e he)⟩
 ·have hne:c∉ν.ks:=by
   intro hcm;obtain⟨o,ho⟩:=hin c hcm;rcases(hbx _ ho).2.2 with h'|h'
   ·have:=h.hlo;simp at h';omega
   ·exact hm h'
  rw[hs.old c (bAC hc hle) hne];exact h.old c hc hm
 ·rw[hs.dold c (bAC hc hle)];exact h.dold c hc
 ·rcases aYD.1 hp with hp|hp
  ·rcases aYD.1 hp with hp|hp
   ·obtain⟨h1,h2,h3⟩:=h.box p (aXU _ (aXU _ hp));obtain⟨hne,hl⟩:=hA p hp;exact⟨by rw[hs.old _ hl hne];exact h1,by rw[hs.dold _ hl];exact h2,h3⟩
   ·obtain⟨I,M,G⟩:=hs.box p hp;refine⟨I,M,?_⟩;rcases G with G|G
    ·exact aYF (bAM h.size G)
    ·obtain⟨o,ho⟩:=hin p.1 G;exact(hbx _ ho).2.2
  ·obtain⟨h1,h2,h3⟩:=h.box p (n5 _ hp);obtain⟨hne,hl⟩:=hB p hp;exact⟨by rw[hs.old _ hl hne];exact h1,by rw[hs.dold _ hl];exact h2,h3⟩
 ·simp only[aYE];rw[aXX,aXX];refine⟨⟨(aXX.1 (aXX.1 hnd).1).1,hs.nd,fun a ha b hb e=>?_⟩,(aXX.1 hnd).2.1,fun a ha b hb e=>?_⟩
  ·obtain⟨p,hp,rfl⟩:=n4.1 ha;obtain⟨q,hq,rfl⟩:=n4.1 hb;obtain⟨h1,h2⟩:=hA p hp;rcases hN q hq with h3|h3
   ·exact h1 (e▸h3)
   ·omega
  ·rcases aYD.1 ha with ha|ha
   ·exact(aXX.1 hnd).2.2 a (aXU _ ha) b hb e
   ·obtain⟨p,hp,rfl⟩:=n4.1 ha;obtain⟨q,hq,rfl⟩:=n4.1 hb;obtain⟨h1,h2⟩:=hB q hq;rcases hN p hp with h3|h3
    ·exact h1 (e▸h3)
    ·omega
 ·rcases aYD.1 hp with hp|hp
  ·rcases aYD.1 hp with hp|hp
   ·exact h.fz p (aXU _ (aXU _ hp))
   ·exact hs.fz p hp
  ·exact h.fz p (n5 _ hp)
theorem fD{c:Operand}{xs:Array Operand}{ats:Array TypeId}{f:FuncId}{c1 c2:List Value}{vs:List Value}{A B ν:aD}{post:aC→Value→aD→Prop}{pan:Value→Prop}(ho:all[ix]?= some ⟨some d,.call {callee:=.value c,args:=xs,argTypes:=ats},ty,pos,aft,g⟩)(hc:ev σ c=some (.func (.func f) c1.toArray c2.toArray))(hxs:Q8 σ xs.toList=some vs)
  (hex:X.ex=none) (hfl:fl=false∨∀p∈ν,p.1∈bad) (hu:∀p∈ν,dD p.2) (hf:∀D,(∀D₁∈Ds,Le D₁ D)→mC P f (c1++vs++c2) D ν post pan) (hN:Nat.blt d X.N=true) (hg:dE all σ g)
  (kp:∀v D,(∀D₁∈Ds,Le D₁ D)→pan v→∀a w,Hl X σ (A++B) (D::Ds) a w→Q (.panic (oL v)) a w)
  (kk:∀v D ν',(∀D₁∈Ds,Le D₁ D)→post D v ν'→WL P X bad all K Q os ((d,v)::σ) (A++ν'++B) (D::Ds)):
  WL P X bad all K Q ((fl,ix)::os) σ (A++ν++B) Ds:=by
 refine eI ho rfl rfl hg fun a w hh=>?_
 obtain⟨h1,h2,h3,D,h4,h5,h6⟩:=id hh;have hF:=hf D h5;have hbx:∀p∈ν,_:=fun p hp=>h4.box p (aXU _ (n5 _ hp))
 have hnd:=h4.nd;simp only[aYE]at hnd;rw[sC hF.1 (hh.eval hc) (kA (fun _ _ hx=>hh.eval hx) hxs)];refine⟨fun h=>by simp[FW]at h,dN.2 ((hF.2 w h4.agr (fun p hp=>⟨(hbx p hp).1,(hbx p hp).2.1,hu p hp⟩) (aXX.1 (aXX.1 hnd).1).2.1).mono ?_)⟩;rintro e w' (⟨v,D',ν',rfl,hs,hpost⟩|⟨v,D',rfl,hs,hpan⟩)
 ·have hle:=fU h4.agr hs;refine⟨fun hflt=>⟨hs.size,fun c hc hcb=>hs.old c hc (fun hm=>?_)⟩,kk v D' ν' (fun D₁ hD₁=>(h5 D₁ hD₁).trans hle) hpost _ _ ?_⟩
  ·obtain⟨p,hp,rfl⟩:=n4.1 hm;rcases hfl with h|h
   ·rw[hflt]at h;cases h
   ·exact hcb (h p hp)
  ·refine Hl.put ⟨h1,h2,h3,D',h4.afterG hs,fun D₁ hD₁=>?_,by unfold A8;rw[hex];trivial⟩ hN v;rcases GE.1 hD₁ with rfl|hD₁
   ·exact Le.refl _
   ·exact(h5 D₁ hD₁).trans hle
 ·have hle:=fU h4.agr hs;have h7:=h4.afterG hs;rw[aXS]at h7;exact kp v D' (fun D₁ hD₁=>(h5 D₁ hD₁).trans hle) hpan a w' ⟨h1,h2,h3,D',h7,fun D₁ hD₁=>by
   rcases GE.1 hD₁ with rfl|hD₁
   ·exact Le.refl _
   ·exact(h5 D₁ hD₁).trans hle,by unfold A8;rw[hex];trivial⟩
theorem _root_.Go.Fs.Ze{c:Operand}{xs:Array Operand}{ats:Array TypeId}{f:FuncId}{c1:List Value}{c2:List Value}{vs:List Value}(A:aD)(B:aD)(ν:aD){post:aC→Value→aD→Prop}{pan:Value→Prop}(e9:(all[ix]?,ev σ c,Q8 σ xs.toList,X.ex)=(some ⟨some d,.call {callee:=.value c,args:=xs,argTypes:=ats},ty,pos,aft,g⟩,some (.func (.func f) c1.toArray c2.toArray),some vs,none))(hfl:fl=false∨∀p∈ν,p.1∈bad)(hf:∀D,(∀D₁∈Ds,Le D₁ D)→mC P f (c1++vs++c2) D ν post pan)(kp:∀v D,(∀D₁∈Ds,Le D₁ D)→pan v→∀a w,Hl X σ (A++B) (D::Ds) a w→Q (.panic (oL v)) a w)(kk:∀v D ν',(∀D₁∈Ds,Le D₁ D)→post D v ν'→WL P X bad all K Q os ((d,v)::σ) (A++ν'++B) (D::Ds))(hu:∀p∈ν,dD p.2:=by exact Yi)(hN:Nat.blt d X.N=true:=by exact rfl)(hg:dE all σ g:=by exact bCV):WL P X bad all K Q ((fl,ix)::os) σ (A++ν++B) Ds:=fD (A:=A) (B:=B) (ν:=ν) (aXV (fun z=>z.1) e9) (aXV (fun z=>z.2.1) e9) (aXV (fun z=>z.2.2.1) e9) (aXV (fun z=>z.2.2.2) e9) hfl hu hf hN hg kp kk

def j7(X:Cx)(post:aC→Value→aD→Prop)(pan:Value→Prop):Ending→World→Prop:=fun e w'=>
 (∃v D' ν',e=.returned v∧hP X.h0 X.lo X.D0 X.mods ν' D' w'∧post D' v ν')∨(∃v D',e=.panicked (oL v)∧hP X.h0 X.lo X.D0 X.mods [] D' w'∧pan v)
theorem TG{fn:Func}{R:Ending→World→Prop}:PI (bodyPost P fn R):=fun _ _ _ _ he h=>⟨he.trans h.1,h.2⟩
theorem eP{f:FuncId}{fn:Func}{c:Code}{args:List Value}{D:aC}{ν:aD}{post:aC→Value→aD→Prop}{pan:Value→Prop}(N:Nat)(hf:P.funcs[f]?= some fn)(hn:(fn.name== "runtime.NumGoroutine")=false)(hb:fn.body=some c)(hN:fn.ntmps=N)(hsz:Nat.ble args.length N=true)
  (h:∀h0:H0,(∀p∈ν,p.1<h0.size)→ν.ks.Nodup→WC P (qA N h0 D ν.ks) (bodyPost P fn (j7 (qA N h0 D ν.ks) post pan)) c (jG 0 args) ν [D]):mC P f args D ν post pan:=by
 refine⟨EF.of hf hn hb,fun w hw hν hnd=>?_⟩;subst hN;have hsz:=aZC hsz;refine(dN (r:=none) (n:=0)).1 ((callsIn_of_wp (R:=j7 (qA fn.ntmps (hd w) D ν.ks) post pan) hf hb bCV (h (hd w) (fun p hp=>bK (hν p hp).1) hnd _ w ⟨?_,fun s v hs=>?_,rfl,D,⟨aYI _,aYI _,fun _ _ _=>rfl,fun _ _=>rfl,hw,(fun p hp=>?_),hnd,(fun p hp=>(hν p hp).2.2),fun e he=>aYS he⟩,fun D₁ h1=>?_,bCV⟩) rfl).mono ?_)
 ·simp[qA];omega
 ·obtain⟨_,h2⟩:=fQ args 0 s v hs;have hl:=(aXZ.1 h2).1;simp only[bAX]at h2 hl;show(args.toArray++_)[s]?= some v;rw[bAI Yas];simpa using h2
 ·exact⟨(hν p hp).1,(hν p hp).2.1,aXR (n4.2 ⟨p,hp,rfl⟩)⟩
 ·simp only[aYH]at h1;subst h1;exact Le.refl _
 ·rintro e w' (⟨v,D',ν',rfl,hs,hp⟩|⟨v,D',rfl,hs,hp⟩)
  ·exact aYF ⟨v,D',ν',rfl,hs,hp⟩
  ·exact aXR ⟨v,D',rfl,hs,hp⟩
theorem kP{fn:Func}{A B ν':aD}{post:aC→Value→aD→Prop}{pan:Value→Prop}{e:Exit}(he:(match e with|.normal=>true|.ret=>true|_=>false)=true){rs:List ResultVar}{vs:List Value}(hds:X.ds=[])(hr:fn.results=rs.toArray)(h:wL P X σ (A++ν'++B) rs vs)
  (hp:∀D,(∀D₁∈Ds,Le D₁ D)→post D (pT vs) ν'):∀a w,Hl X σ (A++ν'++B) Ds a w→bodyPost P fn (j7 X post pan) e a w:=by
 intro a w hh;have hrun:=iQ hh hr h;obtain⟨h1,h2,h3,D,h4,h5,h6⟩:=hh;have hnd:=h4.nd;simp only[aYE]at hnd;have:a.defers=[]∧∃v,(results fn a.tmps).run P w=.ok v w∧j7 X post pan (.returned v) w:=⟨h3.trans hds,_,hrun,aYF ⟨_,D,ν',rfl,h4.sub (fun p hp=>aXU _ (n5 _ hp)) (aXX.1 (aXX.1 hnd).1).2.1,hp D h5⟩⟩
 cases e<;>first|exact this|cases he
theorem _root_.Go.Fs.Zaf{fn:Func}(A:aD)(B:aD)(ν':aD){post:aC→Value→aD→Prop}{pan:Value→Prop}{e:Exit}{rs:List ResultVar}(vs:List Value)(e9:((match e with|.normal=>true|.ret=>true|_=>false),X.ds,fn.results)=(true,[],rs.toArray))(hp:∀D,(∀D₁∈Ds,Le D₁ D)→post D (pT vs) ν')(h:wL P X σ (A++ν'++B) rs vs:=by exact bCV):∀a w,Hl X σ (A++ν'++B) Ds a w→bodyPost P fn (j7 X post pan) e a w:=kP (A:=A) (B:=B) (ν':=ν') (vs:=vs) (aXV (fun z=>z.1) e9) (aXV (fun z=>z.2.1) e9) (aXV (fun z=>z.2.2) e9) h hp
theorem cU{fn:Func}{post:aC→Value→aD→Prop}{pan:Value→Prop}{v:Value}(hds:X.ds=[])(hp:pan v):∀a w,Hl X σ μ Ds a w→bodyPost P fn (j7 X post pan) (.panic (oL v)) a w:=by
 rintro a w ⟨h1,h2,h3,D,h4,h5,G⟩;exact⟨h3.trans hds,aXR ⟨v,D,rfl,h4.sub Yi aZP,hp⟩⟩
theorem aWC{t:TypeId}{fs:Array Field}(ho:all[ix]?= some ⟨some d,.makeInterface t x,ty,pos,aft,g⟩)(ht:P.underlying t=some (.struct fs))(hx:ev σ x=some v)(hN:Nat.blt d X.N=true)(hg:dE all σ g)(k:WL P X bad all K Q os ((d,.iface t v)::σ) μ Ds):WL P X bad all K Q ((fl,ix)::os) σ μ Ds:=
 bX ho rfl rfl hN hg (fun ρ hρ w'=>by
  simp only[execOp,hρ x _ hx];unfold Instr.makeInterface;rw[Sem.run_bind,Sem.run_bind,TU.of ht w'];rfl) k
theorem aLG{t:TypeId}{v:Value}(ho:all[ix]?= some ⟨none,.panic x,ty,pos,aft,g⟩)(hx:ev σ x=some (.iface t v))(hg:dE all σ g)(k:∀a w,Hl X σ μ Ds a w→Q (.panic (oL (.iface t v))) a w):WL P X bad all K Q ((fl,ix)::os) σ μ Ds:=by
 refine eI ho rfl rfl hg fun a w hh=>?_
 have e:(execOp a.eval ⟨none,.panic x,ty,pos,aft,g⟩).run P w=.halt (.panic (.iface t v)) w:=by
  simp only[execOp,hh.eval hx,Instr.panic];rfl
 rw[e];exact k a w hh
theorem gZ{D:aC}{b:Nat}{l:List Bool}{R:Rd Bool}(hR:∀D x cs,cs=[Value.bool x]→R D x cs)(hA:At D b 0 (l.map Value.bool))(hl:l.length≤1000):Sl D R 1 (qS b l.length l.length) l:=by
 refine⟨_,_,rfl,aYI _,by omega,aXR ⟨b,0,rfl,fun i x hi=>⟨_,hR _ _ _ rfl,rfl,fun j v hj=>?_⟩⟩⟩;cases j with
 |zero=>
  obtain rfl:Value.bool x=v:=by simpa using hj
  have h:=hA i (.bool x) (by rw[aYQ,hi];rfl);simpa using h
 |succ j=>simp at hj
theorem mC.frame{f:FuncId}{args:List Value}{D:aC}{ν A B:aD}{post post':aC→Value→aD→Prop}{pan:Value→Prop}(h:mC P f args D ν post pan)(h1:∀D' v ν',Le D D'→post D' v ν'→post' D' v (A++ν'++B)):mC P f args D (A++ν++B) post' pan:=by
 refine⟨h.1,fun w hw hν hn=>?_⟩;have hnd:=hn;unfold aD.ks at hnd;simp only[aYE]at hnd;refine(h.2 w hw (fun p hp=>hν p (aXU _ (n5 _ hp))) (aXX.1 (aXX.1 hnd).1).2.1).mono ?_;have hst:hP (hd w) w.heap.size D (A++ν++B).ks (A++ν++B) D w:=by
  refine⟨aYI _,aYI _,fun _ _ _=>rfl,fun _ _=>rfl,hw,fun p hp=>⟨(hν p hp).1,(hν p hp).2.1,aXR (n4.2 ⟨p,hp,rfl⟩)⟩,hn,(fun p hp=>(hν p hp).2.2),fun e he=>aYS he⟩
 rintro e w' (⟨v,D',ν',he,hs,hp⟩|⟨v,D',he,hs,hp⟩)
 ·exact aYF ⟨v,D',A++ν'++B,he,hst.afterG hs,h1 _ _ _ (fU hw hs) hp⟩
 ·have G:=hst.afterG hs;exact aXR ⟨v,D',he,G.sub Yi aZP,hp⟩
theorem aGC{t e tr:TypeId}{a:Option Addr}{n c:Nat}{ats:Array TypeId}(ho:all[ix]?= some ⟨some d,.call {callee:=.builtin .len,args:=#[x],argTypes:=ats},tr,pos,aft,g⟩)(ht:P.underlying t=some (.slice e))(hx:ev σ x=some v)(hv:v=.slice a n c)(h0:ats[0]?= some t)
  (hN:Nat.blt d X.N=true) (hg:dE all σ g) (kk:WL P X bad all K Q os ((d,qI (n:Int))::σ) μ Ds):WL P X bad all K Q ((fl,ix)::os) σ μ Ds:=by
 subst hv;exact kK ho ht hx h0 hN hg kk
theorem lN{t tr:TypeId}{b:ByteArray}{ats:Array TypeId}(ho:all[ix]?= some ⟨some d,.call {callee:=.builtin .len,args:=#[x],argTypes:=ats},tr,pos,aft,g⟩)(ht:P.underlying t=some .string)(hx:ev σ x=some (.string b))(hat:ats[0]?= some t)
  (hN:Nat.blt d X.N=true) (hg:dE all σ g) (kk:WL P X bad all K Q os ((d,qI (b.size:Int))::σ) μ Ds):WL P X bad all K Q ((fl,ix)::os) σ μ Ds:=
 bX ho rfl rfl hN hg (fun ρ hρ w'=>by
  have hx':=hρ x _ hx;simp[Builtin.len_,hat,hx',Sem.run_bind,TU.of ht w',goInt,Sem.run_pure,go_sem]) kk
namespace C12
structure aQ where
 row:C1.eC
 table:C2.bD
 book:C3.bG
 yard:C7.bQ
end C12
open C12
def RB:Rd Bool:=fun _ b cs=>cs=[.bool b]
theorem RB.up:RB.Up:=fun _ _ _ h=>h
def RS:Rd ByteArray:=fun _ b cs=>cs=[.string b]
theorem RS.up:RS.Up:=fun _ _ _ h=>h
def cR(s:aQ)(pv cv hv lv mv bl bc yc yq:Value):List Value:=
 [pv,cv,qI s.row.wrong,qI s.row.off,qI s.table.last,hv,qI s.table.step,lv,mv,qI s.book.chairs,qI s.book.coin,qI s.book.box,bl,bc,yc,qI s.yard.fit,yq]
@[simp] theorem stC_len(s:aQ)(pv cv hv lv mv bl bc yc yq:Value):(cR s pv cv hv lv mv bl bc yc yq).length=17:=rfl
structure jM(D:aC)(s:aQ)(pv cv hv lv mv bl bc yc yq:Value):Prop where
 pl:Sl D RI 1 pv s.row.places
 ct:Sl D RC 3 cv s.row.counts
 ht:Sl D C8 2 hv s.table.heights
 lev:Sl D RI 1 lv s.table.levels
 mks:Sl D IM 4 mv s.table.marks
 ln:Sl D oB 3 bl s.book.lines
 cn:Sl D uN 3 bc s.book.counts
 ch:Sl D wB 4 yc s.yard.chairs
 cl:Sl D R2 2 yq s.yard.claims
theorem jM.up{D D':aC}{s:aQ}{pv cv hv lv mv bl bc yc yq:Value}(h:jM D s pv cv hv lv mv bl bc yc yq)(hl:Le D D'):jM D' s pv cv hv lv mv bl bc yc yq:=
 ⟨h.pl.up RI.up hl,h.ct.up RC.up hl,h.ht.up C8.up hl,h.lev.up RI.up hl,h.mks.up IM.up hl,h.ln.up oB.up hl,h.cn.up uN.up hl,h.ch.up wB.up hl,h.cl.up R2.up hl⟩
def fN(D:aC)(v:Value)(s:aQ):Prop:=∃pv cv hv lv mv bl bc yc yq,v=.agg (cR s pv cv hv lv mv bl bc yc yq).toArray∧jM D s pv cv hv lv mv bl bc yc yq
theorem fN.up{D D':aC}{v:Value}{s:aQ}(h:fN D v s)(hl:Le D D'):fN D' v s:=by
 obtain⟨pv,cv,hv,lv,mv,bl,bc,yc,yq,e,h1⟩:=h;exact⟨pv,cv,hv,lv,mv,bl,bc,yc,yq,e,h1.up hl⟩
theorem jM.row{D:aC}{s:aQ}{pv cv hv lv mv bl bc yc yq:Value}(h:jM D s pv cv hv lv mv bl bc yc yq):nX D (.agg #[pv,cv,qI s.row.wrong,qI s.row.off]) s.row:=⟨pv,cv,rfl,h.pl,h.ct⟩
theorem jM.table{D:aC}{s:aQ}{pv cv hv lv mv bl bc yc yq:Value}(h:jM D s pv cv hv lv mv bl bc yc yq):hG D (.agg #[qI s.table.last,hv,qI s.table.step,lv,mv]) s.table:=⟨hv,lv,mv,rfl,h.ht,h.lev,h.mks⟩
theorem jM.book{D:aC}{s:aQ}{pv cv hv lv mv bl bc yc yq:Value}(h:jM D s pv cv hv lv mv bl bc yc yq):fY D (.agg #[qI s.book.chairs,qI s.book.coin,qI s.book.box,bl,bc]) s.book:=⟨bl,bc,rfl,h.ln,h.cn⟩
theorem jM.yard{D:aC}{s:aQ}{pv cv hv lv mv bl bc yc yq:Value}(h:jM D s pv cv hv lv mv bl bc yc yq):lM D (.agg #[yc,qI s.yard.fit,yq]) s.yard:=⟨yc,yq,rfl,h.ch,h.cl⟩
open Go.Proofs Tryz
namespace L1
open C1
theorem jY{α:Type}{p:α→Bool}{xs:List α}{k:Nat}{x:α}(hx:xs[k]?= some x)(h:(xs.take k).any p=false)(hp:p x=true):idxOf p xs=k:=by
 have hk:=(aXZ.1 hx).1;have he:=(aXZ.1 hx).2;have h1:xs.any p=true:=bCT.2 ⟨x,LT hx,hp⟩;have h2:xs.findIdx p=k:=by
  rw[List.findIdx_eq hk];refine⟨by rw[he];exact hp,fun j hj=>?_⟩
  have:=List.any_eq_false.1 h (xs[j]'Yd) (by
   rw[List.mem_take_iff_getElem];exact⟨j,by omega,rfl⟩)
  simpa using this
 simp[idxOf,h1,h2]
theorem gK{α:Type}{p:α→Bool}{xs:List α}(h:xs.any p=false):idxOf p xs= -1:=by simp[idxOf,h]
theorem kD{α:Type}{p:α→Bool}{xs:List α}:decide (0≤idxOf p xs)=xs.any p:=by
 unfold idxOf;cases h:xs.any p<;>simp
theorem nM{α:Type}{p:α→Bool}{xs:List α}:(!xs.any fun x=> !p x)=xs.all p:=by
 rw[List.all_eq_not_any_not]
theorem eN(n lo hi:Int)(D:aC):Fn prog 126 #[qI n,qI lo,qI hi] D (fun _ v=>v=.bool (iK n lo hi)):=by
 refine enter 15 func126 rfl rfl rfl rfl fun h0=>aA<|Zj rfl<|aK<|Za rfl<|Za rfl<|mL rfl rfl rfl rfl bCV<|Za rfl ?_
 refine' dM 4 (s:=10) (p:=14) rfl (fun G=>?_) (fun G=>?_) ?_;rotate_left
 ·refine Zb rfl<|Zb rfl<|mL rfl rfl rfl rfl ⟨_,rfl,rfl⟩<|Zag rfl ?_;exact aR 3
 ·refine Zk rfl<|Zk rfl<|Zk rfl<|Zah rfl ?_;exact aR 3
 refine Zj rfl<|aH ?_;exact aF rfl (fun D hD=>rfl)
theorem aES(n:Int)(D:aC):Fn prog 131 #[iV n] D (fun _ v=>v=.bool (qX n)):=by
 refine enter 5 func131 rfl rfl rfl rfl fun h0=>aA<|Zj rfl<|aK<|Za rfl<|Zc rfl (fun I G=>eN _ _ _ _)<|Zj rfl<|aH ?_
 exact aF rfl (fun D hD=>rfl)
theorem aFO(rv:Value)(r:eC)(c:wI)(D:aC)(hr:nX D rv r):Fn prog 129 #[rv,cV c] D (fun _ v=>v=.bool (pU r.places.length c)):=by
 obtain⟨pv,cv,rfl,hp,hc⟩:=hr;refine enter 16 func129 rfl rfl rfl rfl fun h0=>aA<|Zv rfl (fun V Y O I=>Zv rfl (fun Z E2 R G=>Zj rfl<|aK<|Zh rfl R9 rfl<|Zf 1 rfl aI rfl G rfl<|Zh rfl eF rfl<|Zf 0 rfl dS rfl I rfl<|dH rfl U25 rfl Ym rfl rfl bCV<|Zc rfl (fun D1 T=>eN _ _ _ _) ?_));refine Za rfl ?_
 refine' dM 4 (s:=11) (p:=15) rfl (fun M=>?_) (fun M=>?_) ?_;rotate_left
 ·refine Zi rfl vQ rfl<|Zg 2 rfl aI rfl G rfl<|Zd rfl (fun D2 U=>eN _ _ _ _)<|Zag rfl ?_;exact aR 3
 ·refine Zk rfl<|Zk rfl<|Zk rfl<|Zah rfl ?_;exact aR 3
 refine Zj rfl<|aH ?_;exact aF rfl (fun D hD=>rfl)
theorem uK(sv fv:Value)(xs:List Int)(p:Int→Bool)(D:aC)(hS:Sl D RI 1 sv xs)(hp:cY prog D iV fv p):
  Fn prog 271 #[sv,fv] D (fun _ v=>v=qI (idxOf p xs)):=by
 have hl:=hS.len;obtain⟨f,c1,c2,rfl,hf⟩:=hp;refine enter 19 func271 rfl rfl rfl rfl fun h0=>aA<|Zj rfl<|bW<|Za rfl<|dH rfl U25 rfl Ym rfl rfl bCV<|Za rfl<|aG<|Zar<|bP (γ:=Nat) (fun k=>xs.length-k) (fun k=>k≤xs.length∧(xs.take k).any p=false) (fun k=>[(8,qI k)]) [(7,_),(4,_),(0,_),(1,_)] (fun k=>[D]) 0 Ye ⟨Yb,bCV⟩ bA (aE) ?_
 rintro k ⟨h1,h2⟩;refine aA<|Zai rfl<|bR<|Zz rfl (fun G=>?_) (fun G=>?_)
 ·have hk:k<xs.length:=by omega
  obtain⟨x,hx⟩:=dX xs k;refine aZ<|aO<|Zar<|aA<|Za rfl<|Zj rfl<|aK<|Za rfl<|Za rfl<|Za rfl<|eY rfl U25 aL rfl Ym rfl Yd Ym rfl bCV (fun U o1 I M T O=>?_);obtain rfl:I=[qI _]:=M;refine Zf 0 rfl aI rfl O rfl<|Zc rfl (fun V R=>hf x _ (R _ Ye))<|aG<|aW rfl (fun hc2=>?_) (fun hc2=>?_)
  ·refine aA<|Za rfl<|Zj rfl<|aH<|Zav<|Zas<|Zas<|Zav<|Zas ?_;exact aF rfl (fun D hD=>by show Value.int _ _=_;rw[jY hx h2 hc2])
  ·refine cB<|Zat<|Zap<|aX<|Zaa rfl<|Za rfl<|Zae ?_;have hpx:p x=false:=hc2;have h3:(xs.take (k+1)).any p=false:=by rw[aYG,hx,bBA,h2];simp[hpx]
   exact aM 12 (k+1) ⟨by omega,h3⟩ Yd ⟨Yb,bCV⟩ rfl rfl Mm5 (aE)
 ·refine aT<|Zaq<|Zaq<|Zau<|Zap<|aA<|Zj rfl<|aH ?_;exact aF rfl (fun D hD=>by show Value.int _ _=_;rw[gK Yah])
theorem lZ(sv fv:Value)(xs:List Int)(p:Int→Bool)(D:aC)(hS:Sl D RI 1 sv xs)(hp:cY prog D iV fv p):
  Fn prog 206 #[sv,fv] D (fun _ v=>v=.bool (xs.any p)):=by
 refine enter 9 func206 rfl rfl rfl rfl fun h0=>aA<|Zj rfl<|aK<|Za rfl<|Za rfl<|Zc rfl (fun I G=>uK _ _ xs p _ (Sl.at RI.up G Ym Ye) (hp.up (G _ Ye)))<|rZ rfl rfl rfl rfl bCV<|Zj rfl<|aH ?_
 exact aF rfl (fun D hD=>by show Value.bool (decide _)=_;rw[kD])
theorem yV(b:Nat)(fv:Value)(p:Int→Bool)(x:Int)(D:aC)(hp:cY prog D iV fv p)(hB:At D b 0 [fv]):
  Fn prog 207 #[iV x,qP b] D (fun _ v=>v=.bool (!p x)):=by
 obtain⟨f,c1,c2,rfl,hf⟩:=hp;refine enter 8 func207 rfl rfl rfl rfl fun h0=>aA<|Zj rfl<|aK<|Zf 0 rfl oH rfl hB rfl<|Za rfl<|Zc rfl (fun I G=>hf x _ (G _ Ye))<|Zak rfl<|Zj rfl<|aH ?_
 exact aF rfl (fun D hD=>rfl)
theorem N9(sv fv:Value)(xs:List Int)(p:Int→Bool)(D:aC)(hS:Sl D RI 1 sv xs)(hp:cY prog D iV fv p)(h1:fv.cells=#[fv]):
  Fn prog 130 #[sv,fv] D (fun _ v=>v=.bool (xs.all p)):=by
 refine enter 9 func130 rfl rfl rfl rfl fun h0=>aA<|qH (vs:=[fv]) rfl rfl h1 rfl bCV (fun b I G hB=>Zj rfl<|aK<|Za rfl<|Zao rfl<|Zc rfl (fun I G=>lZ _ _ xs (fun x=> !p x) _ (Sl.at RI.up G Ym Ye) ⟨_,[],[qP b],rfl,fun x M hl=>yV b fv p x M (hp.up ((G _ Ye).trans hl)) (hB.up ((G _ Ye).trans hl))⟩)<|Zak rfl<|Zj rfl<|aH ?_)
 exact aF rfl (fun D hD=>by show Value.bool (!_)=_;rw[nM])
theorem uB(sv fv:Value)(xs:List wI)(p:wI→Bool)(D:aC)(hS:Sl D RC 3 sv xs)(hp:cY prog D cV fv p):
  Fn prog 272 #[sv,fv] D (fun _ v=>v=qI (idxOf p xs)):=by
 have hl:=hS.len;obtain⟨f,c1,c2,rfl,hf⟩:=hp;refine enter 19 func272 rfl rfl rfl rfl fun h0=>aA<|Zj rfl<|bW<|Za rfl<|dH rfl U26 rfl Ym rfl rfl bCV<|Za rfl<|aG<|Zar<|bP (γ:=Nat) (fun k=>xs.length-k) (fun k=>k≤xs.length∧(xs.take k).any p=false) (fun k=>[(8,qI k)]) [(7,_),(4,_),(0,_),(1,_)] (fun k=>[D]) 0 Ye ⟨Yb,bCV⟩ bA (aE) ?_
 rintro k ⟨h1,h2⟩;refine aA<|Zai rfl<|bR<|Zz rfl (fun G=>?_) (fun G=>?_)
 ·have hk:k<xs.length:=by omega
  obtain⟨x,hx⟩:=dX xs k;refine aZ<|aO<|Zar<|aA<|Za rfl<|Zj rfl<|aK<|Za rfl<|Za rfl<|Za rfl<|eY rfl U26 hZ rfl Ym rfl Yd Ym rfl bCV (fun U o1 I M T O=>?_);obtain rfl:I=[.bool _,qI _,qI _]:=M;refine Zs rfl A4 rfl O hZ<|Zc rfl (fun V R=>hf x _ (R _ Ye))<|aG<|aW rfl (fun hc2=>?_) (fun hc2=>?_)
  ·refine aA<|Za rfl<|Zj rfl<|aH<|Zav<|Zas<|Zas<|Zav<|Zas ?_;exact aF rfl (fun D hD=>by show Value.int _ _=_;rw[jY hx h2 hc2])
  ·refine cB<|Zat<|Zap<|aX<|Zaa rfl<|Za rfl<|Zae ?_;have hpx:p x=false:=hc2;have h3:(xs.take (k+1)).any p=false:=by rw[aYG,hx,bBA,h2];simp[hpx]
   exact aM 12 (k+1) ⟨by omega,h3⟩ Yd ⟨Yb,bCV⟩ rfl rfl Mm5 (aE)
 ·refine aT<|Zaq<|Zaq<|Zau<|Zap<|aA<|Zj rfl<|aH ?_;exact aF rfl (fun D hD=>by show Value.int _ _=_;rw[gK Yah])
theorem pC(sv fv:Value)(xs:List wI)(p:wI→Bool)(D:aC)(hS:Sl D RC 3 sv xs)(hp:cY prog D cV fv p):
  Fn prog 208 #[sv,fv] D (fun _ v=>v=.bool (xs.any p)):=by
 refine enter 9 func208 rfl rfl rfl rfl fun h0=>aA<|Zj rfl<|aK<|Za rfl<|Za rfl<|Zc rfl (fun I G=>uB _ _ xs p _ (Sl.at RC.up G Ym Ye) (hp.up (G _ Ye)))<|rZ rfl rfl rfl rfl bCV<|Zj rfl<|aH ?_
 exact aF rfl (fun D hD=>by show Value.bool (decide _)=_;rw[kD])
theorem y6(b:Nat)(fv:Value)(p:wI→Bool)(x:wI)(D:aC)(hp:cY prog D cV fv p)(hB:At D b 0 [fv]):
  Fn prog 209 #[cV x,qP b] D (fun _ v=>v=.bool (!p x)):=by
 obtain⟨f,c1,c2,rfl,hf⟩:=hp;refine enter 8 func209 rfl rfl rfl rfl fun h0=>aA<|Zv rfl (fun O R M G=>Zj rfl<|aK<|Zf 0 rfl aPZ rfl hB rfl<|Zs rfl A4 rfl G hZ<|Zc rfl (fun T I=>hf x _ (I _ Ye))<|Zak rfl<|Zj rfl<|aH ?_)
 exact aF rfl (fun D hD=>rfl)
theorem GJ(sv fv:Value)(xs:List wI)(p:wI→Bool)(D:aC)(hS:Sl D RC 3 sv xs)(hp:cY prog D cV fv p)(h1:fv.cells=#[fv]):
  Fn prog 132 #[sv,fv] D (fun _ v=>v=.bool (xs.all p)):=by
 refine enter 9 func132 rfl rfl rfl rfl fun h0=>aA<|qH (vs:=[fv]) rfl rfl h1 rfl bCV (fun b I G hB=>Zj rfl<|aK<|Za rfl<|Zao rfl<|Zc rfl (fun I G=>pC _ _ xs (fun x=> !p x) _ (Sl.at RC.up G Ym Ye) ⟨_,[],[qP b],rfl,fun x M hl=>y6 b fv p x M (hp.up ((G _ Ye).trans hl)) (hB.up ((G _ Ye).trans hl))⟩)<|Zak rfl<|Zj rfl<|aH ?_)
 exact aF rfl (fun D hD=>by show Value.bool (!_)=_;rw[nM])
theorem AZ(sv:Value)(x:Int)(xs:List Int)(D:aC)(hS:Sl D RI 1 sv (x::xs)):
  Fn prog 211 #[sv] D (fun _ v=>v=qI (xs.foldl min x)):=by
 have hl:=hS.len;simp only[aXY]at hl;refine enter 25 func211 rfl rfl rfl rfl fun h0=>aA<|Zj rfl<|bW<|Za rfl<|dH rfl U25 rfl Ym rfl rfl bCV<|Zai rfl<|aG<|Zz rfl (fun G=>?_) (fun G=>?_)
 ·exact absurd G (by simp only[aXY];omega)
 ·refine aZ<|aA<|Za rfl<|eY rfl U25 aL rfl Ym rfl Yd Yav rfl bCV (fun b1 o1 I M V O=>?_);obtain rfl:I=[qI _]:=M;refine Zf 0 rfl aI rfl O rfl<|Zj rfl<|bW<|Zj rfl<|aG<|Zar<|bP (γ:=Nat) (fun k=>xs.length-k) (fun k=>k≤xs.length) (fun k=>[(3,qI ((xs.take k).foldl min x)),(4,qI (k+1:Int))]) [(2,_),(0,_)] (fun k=>[D]) 0 Yd ⟨Yb,Yb,bCV⟩ bA (aE) ?_;rintro k h1;refine dV<|Za rfl<|Za rfl<|dH rfl U25 rfl Ym rfl rfl bCV<|Zai rfl<|aG<|Zz rfl (fun hc2=>?_) (fun hc2=>?_)
  ·simp only[aXY]at hc2;have hk:k<xs.length:=by omega
   obtain⟨y,hy⟩:=dX xs k;have Z:(x::xs)[(k+1:Int).toNat]?= some y:=by rw[show((k:Int)+1).toNat=k+1 by omega];simpa using hy
   refine aZ<|aO<|Zar<|aX<|Za rfl<|Za rfl<|Za rfl<|eY rfl U25 aL rfl Ym rfl Yd Ym rfl bCV (fun b2 o2 R T Y U=>?_);obtain rfl:R=[qI _]:=T;refine Zf 0 rfl aI rfl U rfl<|aBR rfl rfl rfl rfl bCV<|Zj rfl<|Zae<|Zat<|Zap<|aX<|Za rfl<|Zaa rfl<|Zj rfl<|Zae ?_;have h3:(xs.take (k+1)).foldl min x=min ((xs.take k).foldl min x) y:=by rw[aYG,hy,aZM];rfl
   exact aM 16 (k+1) Yd Yd ⟨(by rw[h3];rfl),Yb,bCV⟩ rfl rfl Mm5 (aE)
  ·simp only[aXY]at hc2;refine aT<|Zaq<|Zaq<|Zau<|Zap<|aA<|Za rfl<|Zj rfl<|aH ?_;exact aF rfl (fun D hD=>by show Value.int _ _=_;rw[aYO Yd])
theorem lY(sv:Value)(x:Int)(xs:List Int)(D:aC)(hS:Sl D RI 1 sv (x::xs)):
  Fn prog 136 #[sv] D (fun _ v=>v=qI (xs.foldl min x)):=by
 refine enter 5 func136 rfl rfl rfl rfl fun h0=>aA<|Zj rfl<|aK<|Za rfl<|Zc rfl (fun I G=>AZ _ x xs _ (Sl.at RI.up G Ym Ye))<|Zj rfl<|aH ?_
 exact aF rfl (fun D hD=>rfl)
end L1
namespace L1
open C1
theorem MO{r:eC}(h:(decide ((9:Int)<r.places.length)||decide ((6:Int)<r.counts.length))=true):bB r=3:=by
 simp only[aZT,aYM]at h;unfold bB;rw[aYJ Yd]
theorem DR{r:eC}{b:Bool}(h:(decide ((9:Int)<r.places.length)||decide ((6:Int)<r.counts.length))=false)
  (h2:((((decide ((r.places.length:Int)=0)|| !iK r.wrong 0 6)|| !iK r.off 0 9)|| !r.places.all qX)|| !r.counts.all (pU r.places.length))=b):bB r=if b then 1 else 0:=by
 simp only[bAB,aZK]at h;unfold bB;rw[aYC Yd]
 subst h2;by_cases h1:r.places.length=0<;>cases iK r.wrong 0 6<;>cases iK r.off 0 9<;>cases r.places.all qX<;>cases r.counts.all (pU r.places.length)<;>simp[h1]
theorem T1{r:eC}(h:(decide ((9:Int)<r.places.length)||decide ((6:Int)<r.counts.length))=false)
  (h2:((((decide ((r.places.length:Int)=0)|| !iK r.wrong 0 6)|| !iK r.off 0 9)|| !r.places.all qX)|| !r.counts.all (pU r.places.length))=true):bB r=1:=DR h h2
theorem sT{r:eC}(h:(decide ((9:Int)<r.places.length)||decide ((6:Int)<r.counts.length))=false)
  (h2:((((decide ((r.places.length:Int)=0)|| !iK r.wrong 0 6)|| !iK r.off 0 9)|| !r.places.all qX)|| !r.counts.all (pU r.places.length))=false):bB r=0:=DR h h2
theorem JU{r:eC}{t:List Int}{k:Nat}{x:wI}(hx:r.counts[k]?= some x)(h2:(r.counts.take k).all (fun c=>decide (jX t c≤r.off))=true)(h:¬r.off<jX t x):(r.counts.take (k+1)).all (fun c=>decide (jX t c≤r.off))=true:=by
 rw[aYG,hx,List.all_append,h2];simp;omega
theorem IS{r:eC}{t:List Int}{k:Nat}{x:wI}(hx:r.counts[k]?= some x)(hb:0≤jX t x∧jX t x≤9):
  ((((r.counts.take (k+1)).filter fun c=>decide (0<jX t c)).length:Nat):Int)=((r.counts.take k).filter fun c=>decide (0<jX t c)).length+ [1].foldl min (jX t x):=by
 rw[aYG,hx,bAQ,GT];by_cases h:0<jX t x
 ·simp[h];omega
 ·simp[h];omega
theorem aCA{r:eC}{t:List Int}{x:wI}(hx:x∈r.counts)(h:r.off<jX t x):fH r t=false:=by
 unfold fH;rw[List.all_eq_false];exact⟨x,hx,by simp;omega⟩
theorem aAJ{r:eC}{t:List Int}(h:r.counts.all (fun c=>decide (jX t c≤r.off))=true):fH r t=true:=h
theorem X9(rv:Value)(r:eC)(D:aC)(hr:nX D rv r):Fn prog 76 #[rv] D (fun _ v=>v=qI (bB r)):=by
 obtain⟨pv,cv,rfl,hp,hc⟩:=hr;refine enter 47 func76 rfl rfl rfl rfl fun h0=>aA<|Zv rfl (fun q1 E1 hB G=>Zj rfl<|aK<|Zs rfl iW rfl G fX<|Zao rfl<|Zj rfl<|bR<|Zar<|aA<|Zh rfl eF rfl ?_);refine Zf 0 rfl dS rfl G rfl<|dH rfl U25 rfl Ym rfl rfl bCV<|iH rfl rfl rfl rfl bCV<|Za rfl ?_
 refine' dY 5 (s:=11) (p:=16) rfl (fun R=>?_) (fun R=>?_) ?_;rotate_left
 ·refine Zi rfl iE rfl<|Zg 1 rfl pH rfl G rfl<|dH rfl U26 rfl Ym rfl rfl ⟨_,rfl,rfl⟩<|iH rfl rfl rfl rfl ⟨_,rfl,rfl⟩<|Zah rfl ?_;exact aR 4
 ·refine Zk rfl<|Zk rfl<|Zk rfl<|Zk rfl<|Zag rfl ?_;exact aR 4
 refine Zj rfl<|aG<|aW rfl (fun I=>?_) (fun I=>?_)
 ·refine aA<|Zj rfl<|aH<|Zav<|Zas ?_;exact aF rfl (fun D hD=>by show Value.int _ _=_;rw[MO I])
 ·refine aA<|Zh rfl eF rfl<|Zf 0 rfl dS rfl G rfl<|dH rfl U25 rfl Ym rfl rfl bCV<|Zan rfl<|Za rfl ?_;refine' dY 5 (s:=22) (p:=27) rfl (fun T=>?_) (fun T=>?_) ?_;rotate_left
  ·refine Zi rfl zC rfl<|Zg 2 rfl aI rfl G rfl<|Zd rfl (fun D1 hE=>eN _ _ _ _)<|Zal rfl<|Zah rfl ?_;exact aR 4
  ·refine Zk rfl<|Zk rfl<|Zk rfl<|Zk rfl<|Zag rfl ?_;exact aR 4
  refine Za rfl ?_;refine' dY 5 (s:=28) (p:=33) rfl (fun U=>?_) (fun U=>?_) ?_;rotate_left
  ·refine Zi rfl vU rfl<|Zg 3 rfl aI rfl G rfl<|Zd rfl (fun O hF=>eN _ _ _ _)<|Zal rfl<|Zah rfl ?_;exact aR 4
  ·refine Zk rfl<|Zk rfl<|Zk rfl<|Zk rfl<|Zag rfl ?_;exact aR 4
  refine Za rfl ?_;refine' dY 5 (s:=34) (p:=39) rfl (fun V=>?_) (fun V=>?_) ?_;rotate_left
  ·refine Zi rfl eF rfl<|Zg 0 rfl dS rfl G rfl<|Zd rfl (fun D3 Y=>N9 _ _ _ qX _ (Sl.at RI.up Y Ym Ye) (.of fun x O=>aES x O) rfl)<|Zal rfl<|Zah rfl ?_;exact aR 4
  ·refine Zk rfl<|Zk rfl<|Zk rfl<|Zk rfl<|Zag rfl ?_;exact aR 4
  refine Za rfl ?_;refine' dY 6 (s:=40) (p:=46) rfl (fun Z=>?_) (fun Z=>?_) ?_;rotate_left
  ·refine Zi rfl iE rfl<|Zg 1 rfl pH rfl G rfl<|Zb rfl<|Zd rfl (fun D4 M=>GJ _ _ _ (pU r.places.length) _ (Sl.at RC.up M Ym Ye) ⟨_,[_],[],rfl,fun c O hl=>aFO _ r c O ⟨_,_,rfl,hp.up RI.up ((M _ Ye).trans hl),hc.up RC.up ((M _ Ye).trans hl)⟩⟩ rfl)<|Zal rfl<|Zah rfl ?_;exact aR 5
  ·refine Zk rfl<|Zk rfl<|Zk rfl<|Zk rfl<|Zk rfl<|Zag rfl ?_;exact aR 5
  refine Zj rfl<|aG<|aW rfl (fun hc2=>?_) (fun hc2=>?_)
  ·refine aA<|Zj rfl<|aH<|Zav<|Zas ?_;exact aF rfl (fun D hD=>by show Value.int _ _=_;rw[T1 I hc2])
  ·refine cB<|Zat<|Zap<|aA<|Zj rfl<|aH ?_;exact aF rfl (fun D hD=>by show Value.int _ _=_;rw[sT I hc2])
theorem aMB(c:List Int)(h9:c.length=9)(hb:∀x∈c,0≤x∧x≤1)(D:aC):Fn prog 79 #[.agg (ints c).toArray] D (fun _ v=>v=.agg (ints (mM c)).toArray):=by
 refine enter 20 func79 rfl rfl rfl rfl fun h0=>aA<|Zv rfl (fun Y M O G=>Zw rfl aNG rfl (fun R=>bW<|Zs rfl jS rfl G Yab<|Za rfl<|aG<|Zar<|dB (γ:=Nat) (fun k=>9-k) (fun k=>k≤9) (fun k=>[(6,qI (k:Int))]) [(5,_),(2,_)] (fun k=>[(R,qC (ints (pM c k)) 186)]) (fun k=>[M,D]) 0 Yd ⟨Yb,bCV⟩ bA Mm5 (aE) ?_))
 rintro k h1;refine aA<|Zai rfl<|bR<|Zz rfl (fun I=>?_) (fun I=>?_)
 ·have hk:k<9:=by omega
  obtain⟨x,hx⟩:=dX c k;have T:=hb x (LT hx);have U:=gP hb 0 k;have V:=JW c k Yd;have hlen:=y5 c k;refine aZ<|aO<|Zar<|aA<|Za rfl<|m3 rfl U179 aI aL rfl rfl Yd Yd Ym rfl bCV<|Zj rfl<|Zj rfl<|aG<|aX<|Za rfl<|Zaa rfl ?_;refine Za rfl<|eJ rfl U186 aL rfl rfl Yd Yd rfl bCV<|cF rfl aI rfl Mm0 (cK Ym) n3 rfl bCV<|Za rfl<|Zaa rfl<|eJ rfl U186 aL rfl rfl Yd Yd rfl bCV<|t8 rfl aL rfl rfl (bO.head) (by simp only[*];omega) bCV<|Zae<|Zat<|Zap<|aX<|Zaa rfl ?_;refine Za rfl<|Zae ?_;rw[←P5 (by simpa using hx),show((k:Int)+1).toNat=k+1 by omega,NE];exact aM 16 (k+1) Yd Yd ⟨Yb,bCV⟩ rfl rfl Mm5 (aE)
 ·obtain rfl:k=9:=by omega
  rw[HY];have hlen:=pJ c;refine aT<|Zaq<|Zaq<|Zau<|Zap<|aA<|Zy rfl e8 rfl Mm0 (by first|exact rK|(simp only[aN, *];exact rK))<|aV rfl rfl rfl rfl rK Ya Ya (bO.head) (dF _) bCV<|aH ?_
  exact Zl [_] rfl ⟨⟨_,_,_,rfl,Mm0,aXR ⟨e8,(by first|exact rK|(simp only[aYU,aN, *];exact rK)),rfl⟩⟩,bCV⟩ (fun D hD=>rfl)
theorem aSU(rv:Value)(r:eC)(c:wI)(t:List Int)(D:aC)(hr:nX D rv r)(hok:tN r)(ht:pP r t)(hcm:c∈r.counts):
  Fn prog 210 #[rv,cV c,.agg (ints (mM t)).toArray] D (fun _ v=>v=qI (jX t c)):=by
 obtain⟨pv,cv,rfl,hp,hc⟩:=hr;obtain⟨h1,h2,h3,h4⟩:=hok.cnt c hcm;have h9:=hok.len9;have hab:=X3 ht h1 h2 h9;have I:=OX ht h1 h2;have R:=sR t c.many.toNat Yd;have T:=sR t r.places.length Yd;have U:=sR t (r.places.length-c.many.toNat) Yd;have V:(mM t)[(↑r.places.length-c.many).toNat]?= some (eB t 0 (r.places.length-c.many.toNat)):=by rw[show(↑r.places.length-c.many).toNat=r.places.length-c.many.toNat by omega];exact U
 rw[ht.1]at I;have Z:=gP ht.2 0 r.places.length;have hB:=gP ht.2 0 (r.places.length-c.many.toNat);have hE:=gP ht.2 0 c.many.toNat;refine enter 37 func210 rfl rfl rfl rfl fun h0=>aA<|Zv rfl (fun q1 E1 hF Y=>Zv rfl (fun q2 E2 hH G=>Zv rfl (fun q3 E3 hI M=>Zj rfl<|aK<|Zh rfl R9 rfl<|Zf 1 rfl aI rfl G rfl<|eJ rfl U186 aL rfl rfl Yd Yd rfl bCV<|jH rfl aI rfl M Ye (cK R) n3 rfl bCV<|Zj rfl ?_)));refine bW<|Zh rfl eF rfl<|Zf 0 rfl dS rfl Y rfl<|dH rfl U25 rfl Ym rfl rfl bCV<|Zj rfl<|aK<|Zh rfl YZ rfl<|Zf 0 rfl CK rfl G rfl<|aG<|aW rfl (fun O=>?_) (fun O=>?_)
 ·rw[aYJ O]at I;refine bM [] 5 11 504<|Za rfl<|eJ rfl U186 aL rfl rfl Yd Yd rfl bCV<|jH rfl aI rfl M Ye (cK T) n3 rfl bCV<|Za rfl<|Zh rfl R9 rfl<|Zf 1 rfl aI rfl G rfl<|hU rfl rfl rfl Yg rfl bCV<|eJ rfl U186 aL rfl rfl Yd Yd rfl bCV<|jH rfl aI rfl M Ye (cK V) n3 rfl bCV<|hU rfl rfl rfl Yg rfl bCV<|Zj rfl ?_;refine aK<|Za rfl<|Zh rfl vQ rfl<|Zf 2 rfl aI rfl G rfl<|hU rfl rfl rfl Yg rfl bCV<|Zh rfl vQ rfl<|Zf 2 rfl aI rfl G rfl<|Za rfl<|hU rfl rfl rfl Yg rfl bCV<|tZ rfl rfl rfl rfl bCV<|Zj rfl<|aH ?_;exact aF rfl (fun D hD=>by show Value.int _ _=_;rw[←I];rfl)
 ·rw[aYC (by simp[O])]at I;refine aZ<|aA<|Za rfl<|Zh rfl vQ rfl<|Zf 2 rfl aI rfl G rfl<|hU rfl rfl rfl Yg rfl bCV<|Zh rfl vQ rfl<|Zf 2 rfl aI rfl G rfl<|Za rfl<|hU rfl rfl rfl Yg rfl bCV<|tZ rfl rfl rfl rfl bCV<|Zj rfl ?_;refine aH ?_;exact aF rfl (fun D hD=>by show Value.int _ _=_;rw[←I];rfl)
theorem XR(rv:Value)(r:eC)(t:List Int)(D:aC)(hr:nX D rv r)(hok:tN r)(ht:pP r t):
  Fn prog 135 #[rv,.agg (ints (mM t)).toArray] D (fun D' v=>Sl D' RI 1 v (r.counts.map (jX t))):=by
 obtain⟨pv,cv,rfl,hp,hc⟩:=hr;have h6:=hok.cnt6;have hsl:=pJ t;refine enter 23 func135 rfl rfl rfl rfl fun h0=>aA<|Zv rfl (fun q1 E1 hK I=>Zv rfl (fun q2 E2 hM O=>Zj rfl<|bW<|Zh rfl iE rfl<|Zf 1 rfl pH rfl I rfl<|dH rfl U26 rfl Ym rfl rfl bCV<|Za rfl<|aG<|Zar ?_));refine dB (γ:=Nat×Value×aD) (fun g=>r.counts.length-g.1) (fun g=>g.1≤r.counts.length∧bZ 3 1 g.2.1 g.1 (ints ((r.counts.take g.1).map (jX t))) g.2.2) (fun g=>[(10,qI (g.1:Int)),(4,g.2.1)]) [(9,_),(8,_),(3,_),(2,_)] (fun g=>g.2.2++[]) (fun g=>[E2,E1,D]) (0,qN,[]) ⟨by simp,by simpa [ints]using bZ.nil⟩ ⟨Yb,Yb,bCV⟩ bA Mm5 (aE) ?_
 rintro⟨k,v,ν⟩ ⟨h1,ha⟩;refine aA<|Zai rfl<|bR<|Zz rfl (fun R=>?_) (fun R=>?_)
 ·have hk:k<r.counts.length:=by omega
  obtain⟨x,hx⟩:=dX r.counts k;have hxm:=LT hx;refine aZ<|aO<|Zar<|aA<|eY rfl U26 hZ rfl Ym rfl Yd Ym rfl bCV (fun b1 o1 T U hH V=>?_);obtain rfl:T=[.bool _,qI _,qI _]:=U;refine Zs rfl A4 rfl V hZ<|Zw rfl xA rfl (fun q3=>Zu rfl hZ (bO.head)<|aG<|aX<|Za rfl<|Zs rfl iW rfl I fX<|Zy rfl A4 rfl Mm0 hZ<|dL rfl e8 rfl O Yc (by first|exact rK|(simp only[aN, *];exact rK)) n3 rfl bCV<|Zc rfl (fun D1 M=>aSU _ r x t _ ⟨_,_,rfl,hp.up RI.up (M _ Ye),hc.up RC.up (M _ Ye)⟩ hok ht hxm)<|Zn rfl U25 aL dR rfl (.cons rfl rfl .nil) (fun hI hJ Y G=>?_))
  have Z:=Sl.ofInts (l:=[_]) (n:=1) (cap:=1) G rfl Yd Yd;refine bE (A:=[(_,_)]) (B:=_) rfl U25 rfl rfl aL dR rfl nV rfl rfl rfl ha (mK.lit G) Ye rfl Yam Yj Yd (aYF rfl) rfl bCV (fun v1 ν1 hB=>?_);have hE:bZ 3 1 v1 (k+1) (ints ((r.counts.take (k+1)).map (jX t))) ν1:=by rw[aYG,hx,aZH,aYE,←gS];exact hB
  refine Zj rfl<|Zae<|Zat<|Zap<|aX<|Zaa rfl<|Za rfl<|Zae ?_;exact aM 16 (k+1,v1,ν1) ⟨by simp only;omega,hE⟩ Yo ⟨Yb,Yb,bCV⟩ rfl rfl (List.Sublist.cons _ Mm5) (fun D h=>⟨D,aYK _ (h),Le.refl D⟩)
 ·obtain rfl:k=r.counts.length:=by omega
  rw[aZB]at ha;refine aT<|Zaq<|Zaq<|Zau<|Zap<|aA<|Za rfl<|Zj rfl<|aH<|gR (A:=[]) (B:=[]) ha rfl (fun D2 hN hF=>?_);exact aF rfl (fun D hD=>(hF.ints Ye Yd).up RI.up (hD _ Ye))
theorem JQ(rv:Value)(r:eC)(t:List Int)(D:aC)(hr:nX D rv r)(hok:tN r)(ht:pP r t):
  Fn prog 78 #[rv,.agg (ints (mM t)).toArray] D (fun _ v=>v=.tuple #[qI (if fH r t then(sE r t:Int)else 0),.bool (fH r t)]):=by
 obtain⟨pv,cv,rfl,hp,hc⟩:=hr;have h6:=hok.cnt6;have hsl:=pJ t;refine enter 27 func78 rfl rfl rfl rfl fun h0=>aA<|Zv rfl (fun q1 E1 hF R=>Zv rfl (fun q2 E2 hH U=>Zj rfl<|Zj rfl<|bW<|Zs rfl iW rfl R fX<|dL rfl e8 rfl U Yc (by first|exact rK|(simp only[aN, *];exact rK)) n3 rfl bCV<|Zt rfl (fun D1 G=>XR _ r t _ ⟨_,_,rfl,hp.up RI.up (G _ Ye),hc.up RC.up (G _ Ye)⟩ hok ht) (fun v1 D1 G T=>Zab rfl U25 rfl T rfl<|Za rfl ?_)));refine aG<|Zar<|bP (γ:=Nat) (fun k=>r.counts.length-k) (fun k=>k≤r.counts.length∧(r.counts.take k).all (fun c=>decide (jX t c≤r.off))=true) (fun k=>[(12,qI (k:Int)),(4,qI (((r.counts.take k).filter fun c=>decide (0<jX t c)).length:Int))]) [(11,_),(10,_),(5,_),(2,_)] (fun k=>[D1,E2,E1,D]) 0 Ye ⟨Yb,Yb,bCV⟩ bA (aE) ?_
 rintro k ⟨h1,h2⟩;refine aA<|Zai rfl<|bR<|Zz rfl (fun I=>?_) (fun I=>?_)
 ·simp only[aZL]at I;have hk:k<r.counts.length:=by omega
  obtain⟨x,hx⟩:=dX r.counts k;have hxm:=LT hx;have V:(r.counts.map (jX t))[k]?= some (jX t x):=by rw[aYQ,hx];rfl
  have hxb:=MH hok ht hxm;have hlf:=bAS (fun c=>decide (0<jX t c)) (r.counts.take k);have hlt:(r.counts.take k).length≤k:=bCF _ _;refine aZ<|aO<|Zar<|aA<|lH rfl T rfl V (fun b1 o1=>Zj rfl<|bW<|Za rfl<|Zh rfl vU rfl<|Zf 3 rfl aI rfl R rfl<|iH rfl rfl rfl rfl bCV<|aG ?_);refine Zz rfl (fun hc2=>?_) (fun hc2=>?_)
  ·refine aA<|Zj rfl<|Zj rfl<|aH<|Zas<|Zav<|Zas<|Zas<|Zav<|Zas ?_;exact jK (vs:=[_,_]) rfl rfl rfl bA (fun D hD=>by show Value.tuple _=_;rw[aCA hxm hc2];rfl)
  ·refine aZ<|aX<|Za rfl<|Za rfl<|Zn rfl U25 aL dR rfl (.cons rfl rfl (.cons rfl rfl .nil)) (fun hB hE Y M=>?_);have O:=Sl.ofInts (l:=[_,_]) (n:=2) (cap:=2) M rfl Yd Yd;refine Zc rfl (fun D2 Z=>lY _ (jX t x) [1] _ (O.up RI.up (Z _ Ye)))<|B4 rfl rfl rfl (by simp only[xO,aZY,List.foldl_nil];omega) rfl bCV<|Zj rfl<|Zae<|Zat<|Zap<|aX<|Zaa rfl<|Za rfl<|Zae ?_
   exact aM 18 (k+1) ⟨by omega,JU hx h2 hc2⟩ Yd ⟨Yb,(by rw[IS hx hxb];rfl),bCV⟩ rfl rfl Mm5 (fun D h=>⟨D,aYK _ (h),Le.refl D⟩)
 ·simp only[aZL]at I;obtain rfl:k=r.counts.length:=by omega
  rw[aZB]at h2;refine aT<|Zaq<|Zaq<|Zau<|Zap<|aA<|Za rfl<|Zj rfl<|Zj rfl<|aH ?_;exact jK (vs:=[_,_]) rfl rfl rfl bA (fun D hD=>by show Value.tuple _=_;rw[aAJ h2,aZB];rfl)
theorem N4(t:List Int)(D:aC)(h:t.length≤9)(hb:∀x∈t,0≤x∧x≤1):Fn prog 79 #[.agg (ints (fL t)).toArray] D (fun _ v=>v=.agg (ints (mM t)).toArray):=
 (aMB (fL t) (gX h) (RM hb) D).mono fun _ v _ hv=>by rw[hv,NJ]
end L1
namespace L12
def fE(code:Int):Value:=.iface 240 (.agg #[qI code])
theorem aAH(sv:Value)(xs:List Bool)(b:Bool)(D:aC)(hS:Sl D RB 1 sv xs):Fn prog 260 #[sv,.bool b] D (fun _ v=>v=qI (idxOf (fun x=>b==x) xs)):=by
 have hl:=hS.len;refine enter 19 func260 rfl rfl rfl rfl fun h0=>aA<|Zj rfl<|bW<|Za rfl<|dH rfl U327 rfl Ym rfl rfl bCV<|Za rfl<|aG<|Zar<|bP (γ:=Nat) (fun k=>xs.length-k) (fun k=>k≤xs.length∧(xs.take k).any (fun x=>b==x)=false) (fun k=>[(8,qI k)]) [(7,_),(4,_),(0,_),(1,_)] (fun k=>[D]) 0 Ye ⟨Yb,bCV⟩ bA (aE) ?_
 rintro k ⟨h1,h2⟩;refine aA<|Zai rfl<|bR<|Zz rfl (fun G=>?_) (fun G=>?_)
 ·have hk:k<xs.length:=by omega
  obtain⟨x,hx⟩:=dX xs k;refine aZ<|aO<|Zar<|aA<|Za rfl<|Zj rfl<|aK<|Za rfl<|Za rfl<|Za rfl<|eY rfl U327 lU rfl Ym rfl Yd Ym rfl bCV (fun T o1 I M R O=>?_);obtain rfl:I=[.bool _]:=M;refine Zf 0 rfl CK rfl O rfl<|aUA rfl U4 rfl rfl rfl bCV<|aG<|aW rfl (fun hc2=>?_) (fun hc2=>?_)
  ·refine aA<|Za rfl<|Zj rfl<|aH<|Zav<|Zas<|Zas<|Zav<|Zas ?_;exact aF rfl (fun D hD=>by show Value.int _ _=_;rw[L1.jY hx h2 hc2])
  ·refine cB<|Zat<|Zap<|aX<|Zaa rfl<|Za rfl<|Zae ?_;have h3:(xs.take (k+1)).any (fun x=>b==x)=false:=by rw[aYG,hx,bBA,h2];simpa using hc2
   exact aM 12 (k+1) ⟨by omega,h3⟩ Yd ⟨Yb,bCV⟩ rfl rfl Mm5 (aE)
 ·refine aT<|Zaq<|Zaq<|Zau<|Zap<|aA<|Zj rfl<|aH ?_;exact aF rfl (fun D hD=>by show Value.int _ _=_;rw[L1.gK Yah])
theorem GV(sv:Value)(xs:List Bool)(b:Bool)(D:aC)(hS:Sl D RB 1 sv xs):Fn prog 190 #[sv,.bool b] D (fun _ v=>v=.bool (xs.any fun x=>b==x)):=by
 refine enter 9 func190 rfl rfl rfl rfl fun h0=>aA<|Zj rfl<|aK<|Za rfl<|Za rfl<|Zc rfl (fun I G=>aAH _ xs b _ (Sl.at RB.up G Ym Ye))<|rZ rfl rfl rfl rfl bCV<|Zj rfl<|aH ?_
 exact aF rfl (fun D hD=>by show Value.bool (decide _)=_;rw[L1.kD])
theorem fG(code:Int)(cs:List Bool)(sv:Value)(D:aC)(hS:Sl D RB 1 sv cs):mC prog 113 [qI code,sv] D [] (fun _ _ ν'=>cs.any (fun x=>true==x)=false∧ν'=[]) (fun v=>cs.any (fun x=>true==x)=true∧v=fE code):=by
 refine eP 9 func113 rfl rfl rfl rfl (fun h0 hwl hwn=>aA<|Za rfl<|Zc rfl (fun M I=>GV _ cs true _ (hS.up RB.up (I _ Ye)))<|aG<|aW rfl (fun G=>?_) (fun G=>?_))
 ·refine aX<|Za rfl<|Zo [qI code] rfl aMR UV rfl<|aWC rfl U240 rfl rfl bCV ?_;exact aLG rfl rfl bCV (cU rfl ⟨G,rfl⟩)
 ·refine cB ?_;exact Zaf [] [] [] [] rfl (fun D' hD=>⟨G,rfl⟩)
end L12
namespace L1
open C1
def iI(br bY bc bh:Nat)(c:List Int):aD:=[(bh,qC [.func (.func 134) #[] #[qP br,qP bY,qP bc,qP bh]] 191),(bc,qC (ints c) 179)]
theorem sU{c pre:List Int}{i:Nat}{k:Int}(h:c.take (i+1)=pre++[k])(hl:pre.length=i):c.take i=pre:=by
 have:=aXV (List.take i) h;rw[List.take_take,bBH (Nat.le_succ i)]at this;rw[this,aZA Yd,aYO Yd]
def FY(x:List Int):List Value:=[.agg (ints x).toArray]
def UF(P:Program)(Dr:aC)(lo l:Nat)(J Jx:List (List Int)→tF)(xs:List (List Int)):Prop:=∀pre x β D w,(∃r,xs=pre++x::r)→xZ lo D w→J pre β D w→(∀b∈β,b<w.heap.size)→Le Dr D→
    iS P l (FY x) w fun b D' w'=>xZ lo D' w'∧yJ β D w D' w'∧(if b then J (pre++[x]) β D' w' else Jx (pre++[x]) β D' w')
def N1(J Jx:List (List Int)→tF)(br bY bc bh:Nat)(places:List Int)(pre:List Int)(i:Nat)(done:List (List Int))(v:Value)(J':tF)(μ':aD):Prop:=
 ∃b c',v=.bool b∧c'.length=9∧c'.take i=pre∧c'.drop places.length=List.replicate (9-places.length) 0∧μ'=iI br bY bc bh c'∧(if b=true then J'=J (done++(dQ (places.drop i)).map fun t=>fL (pre++t))else ∃p,J'=Jx p)
theorem vH{lo l:Nat}{J Jx:List (List Int)→tF}{places:List Int}{xs:List (List Int)}{Dr Dy:aC}{Ds:List aC}{br bY bc bh:Nat}{pv cv:Value}{w1 w2:Int}(T:places.length≤9)
  (hs:∀pre,G8 lo (J pre)) (hsx:∀pre,G8 lo (Jx pre)) (hY:UF prog Dr lo l J Jx xs) (hDr:Dr∈Ds) (hDy:Dy∈Ds) (hA:At Dr br 0 [pv,cv,qI w1,qI w2]) (hpl:Sl Dr RI 1 pv places) (hB:At Dy bY 0 [.func (.yield l) #[] #[]]):
  ∀(j i:Nat) (pre c:List Int) (done rest:List (List Int)) (iv:Int),iv=i→i+j=places.length→pre.length=i→c.length=9→c.take i=pre→c.drop places.length=List.replicate (9-places.length) 0→
   xs=done++(dQ (places.drop i)).map (fun t=>fL (pre++t))++rest→
   aVE prog 134 [qI iv,qP br,qP bY,qP bc,qP bh] lo (J done) (iI br bY bc bh c) Ds (N1 J Jx br bY bc bh places pre i done):=by
 intro j;induction j using Nat.strongRecOn with
 |_ j ih=>
 intro i pre c done rest iv hiv hij hl h9 hp hz hxs;subst hiv;have hmx:=hpl.len;refine I0 (μ:=iI br bY bc bh c) 41 func134 rfl rfl rfl rfl<|aA<|Zj rfl<|bW<|Za rfl<|Zh rfl eF rfl<|Zf 0 rfl dS rfl hA rfl<|dH rfl U25 rfl Ym rfl rfl bCV<|Zan rfl<|aG<|Zz rfl (fun U=>?_) (fun U=>?_)
 ·have hin:i=places.length:=by omega
  subst hin;have hleaf:=(MT h9 hp hl hz).symm;rw[List.drop_length]at hxs;simp only[dQ,aYN,bBM,aXS]at hxs;rw[hleaf,aYA,bBC]at hxs;refine aA<|Zf 0 rfl aQI rfl hB rfl<|bT rfl jS rfl Mm1 Yab n3 rfl bCV<|y0 (l:=l) (J1:=J (done++[c])) (J0:=Jx (done++[c])) rfl rfl rfl rfl (hs _) (hsx _) (fun D w hd hJ hb hl=>hY done c _ D w ⟨rest,hxs⟩ hd hJ (fun b hbm=>by obtain⟨p,hp,rfl⟩:=n4.1 hbm;exact hb p hp) (hl _ hDr)) rfl bCV (fun V J1 Y=>Zj rfl<|aH<|Zas ?_)
  exact jZ (P:=prog) (fn:=f134) (N:=41) (vs:=[_]) rfl rfl ⟨rfl,bCV⟩ (fun D h=>⟨D,h,Le.refl D⟩) ⟨V,c,rfl,h9,hp,hz,rfl,by cases V<;>simp only[Y,aZU,aYY,aZW];exact⟨_,rfl⟩;simp[dQ,hleaf]⟩
 ·have hin:i<places.length:=by omega
  obtain⟨p,hpi⟩:=dX places i;have hd:places.drop i=p::places.drop (i+1):=by rw[aZO hin];congr 1;exact aYS ((aXT hin).symm.trans hpi)
  rw[hd,←VT]at hxs;refine aZ<|dV<|Za rfl<|aG<|Zar<|K9 (γ:=Nat×List Int) (fun g=>2-g.1) (fun g=>g.1≤2∧g.2.length=9∧g.2.take i=pre∧g.2.drop places.length=List.replicate (9-places.length) 0) (fun g=>J (done++MB p (places.drop (i+1)) pre g.1)) (fun g=>[(17,qI (g.1:Int))]) [(6,_),(0,_),(1,_),(3,_),(4,_)] (fun g=>iI br bY bc bh g.2) (fun g=>Ds) (0,c) ⟨by simp,h9,hp,hz⟩ (by simp[aFK]) ⟨Yb,bCV⟩ bA Mm5 (aE) ?_;rintro⟨k,c1⟩ ⟨hD,G,I,M⟩;refine aA<|Zai rfl<|bR<|Zz rfl (fun hc2=>?_) (fun hc2=>?_)
  ·refine aZ<|aO<|Zar<|aA<|Za rfl<|Zj rfl<|aK<|Zh rfl eF rfl<|Zf 0 rfl dS rfl hA rfl<|Za rfl<|lH rfl hpl rfl hpi (fun V o1=>Zj rfl ?_);refine aK<|Za rfl<|Zan rfl<|Za rfl ?_;refine' dY 4 (s:=27) (p:=31) rfl (fun Z=>?_) (fun Z=>?_) ?_;rotate_left
   ·refine Zb rfl<|Zb rfl<|qU rfl rfl rfl rfl ⟨_,rfl,rfl⟩<|Zah rfl ?_;exact aR 3
   ·refine Zk rfl<|Zk rfl<|Zk rfl<|Zag rfl ?_;exact aR 3
   refine aG<|aW rfl (fun O=>?_) (fun O=>?_)
   ·have hpk:p=2∨p=(k:Int):=by simpa using O
    obtain⟨rr,hr⟩:=aHM (p:=p) (ps:=places.drop (i+1)) (pre:=pre) (k:=k) Yd;have hset:=OD (k:=(k:Int)) G hin T I M;refine aA<|Za rfl<|Za rfl<|eJ rfl U179 aL rfl rfl Yd Yd rfl bCV<|t8 rfl aL rfl rfl (.tail (bO.head)) (by simp only[*];omega) bCV<|aK<|Zp rfl oH rfl Mm0 rfl<|Za rfl<|Zaa rfl<|tT rfl rfl rfl rfl (ih (j-1) Yd (i+1) (pre++[(k:Int)]) (c1.set i k) (done++MB p (places.drop (i+1)) pre k) (rr++rest) (i+1:Int) Yd Yd Yam hset.1 hset.2.1 hset.2.2 (by rw[hxs,hr,TK hpk];simp)) rfl bCV ?_
    rintro _ J2 _ ⟨b2,c2,rfl,h9',hp',hz',rfl,hJ2⟩;refine Zak rfl<|aG<|aW rfl (fun R=>?_) (fun R=>?_)
    ·obtain rfl:b2=false:=by simpa using R
     refine aA<|Zj rfl<|aH<|Zav<|Zas<|Zas<|Zav<|Zas ?_;exact jZ (P:=prog) (fn:=f134) (N:=41) (vs:=[_]) rfl rfl ⟨rfl,bCV⟩ (fun D h=>⟨D,h,Le.refl D⟩) ⟨false,c2,rfl,h9',sU hp' hl,hz',rfl,by simpa using hJ2⟩
    ·obtain rfl:b2=true:=by simpa using R
     refine cB<|Zat<|Zap<|aX<|Zaa rfl<|Za rfl<|Zae ?_;exact pX 24 (k+1,c2) ⟨by simp only;omega,h9',sU hp' hl,hz'⟩ Yo (by simpa only[aZU,TK hpk,aYA]using hJ2) ⟨Yb,bCV⟩ rfl rfl Mm5 (aE)
   ·have hpk:¬(p=2∨p=(k:Int)):=by simpa using O
    refine cB<|Zat<|Zap<|aX<|Zaa rfl<|Za rfl<|Zae ?_;exact pX 16 (k+1,c1) ⟨by simp only;omega,G,I,M⟩ Yo (by rw[aRT hpk]) ⟨Yb,bCV⟩ rfl rfl Mm5 (aE)
  ·refine aT<|Zaq<|Zaq<|Zau<|Zap<|aA<|Zj rfl<|aH ?_;exact jZ (P:=prog) (fn:=f134) (N:=41) (vs:=[_]) rfl rfl ⟨rfl,bCV⟩ (fun D h=>⟨D,h,Le.refl D⟩) ⟨true,c1,rfl,G,I,M,rfl,by simp only[aZU];rw[hd,←VT,show k=2 by omega]⟩
theorem aIT(places:List Int)(Dr:aC)(br:Nat)(pv cv:Value)(I M:Int)(O:places.length≤9)(hA:At Dr br 0 [pv,cv,qI I,qI M])(hpl:Sl Dr RI 1 pv places):
  yZ prog 133 [qP br] Dr ((dQ places).map fL) FY:=by
 refine T8 8 func133 rfl rfl rfl rfl (fun lo l J Jx hs hsx hY=>aA<|Zv rfl (fun T U R G=>aK<|Zw rfl qW rfl (fun V=>aK<|Zw rfl d7 rfl (fun Y=>aK<|Zao rfl<|Zm rfl a8 (bO.head) rfl<|aG<|aX ?_))));refine Zp rfl oH rfl Mm0 rfl<|tT rfl rfl rfl rfl (vH (l:=l) Yd hs hsx hY Ye Ye hA hpl G places.length 0 [] (List.replicate 9 0) [] [] 0 rfl Yd rfl rfl rfl (List.drop_replicate ..) Ye) rfl bCV ?_;rintro _ Z _ ⟨b2,c2,rfl,h9',hp',hz',rfl,hJ2⟩;refine Zae ?_;exact jZ (P:=prog) (fn:=f133) (N:=8) (vs:=[]) rfl rfl bCV (fun D h=>⟨D,by simp only[aYH]at h;subst h;simp,Le.refl D⟩) Ya0
theorem VX(rv:Value)(r:eC)(D:aC)(hr:nX D rv r)(G:r.places.length≤9):
  Fn prog 77 #[rv] D (fun D' v=>∃br,v=.func (.func 133) #[] #[qP br]∧yZ prog 133 [qP br] D' ((dQ r.places).map fL) FY):=by
 obtain⟨pv,cv,rfl,hp,hc⟩:=hr;refine enter 4 func77 rfl rfl rfl rfl fun h0=>aA<|Zv rfl (fun M R O I=>Zj rfl<|aK<|Zao rfl<|Zj rfl<|aH ?_)
 exact aF rfl (fun D hD=>⟨_,rfl,aIT r.places _ M pv cv r.wrong r.off G (I.up (hD _ Ye)) (hp.up RI.up (hD _ Ye))⟩)
end L1
namespace L1
open C1
theorem KN{c:List Int}{i j:Int}(h0:0≤i)(h1:i≤j):eB c 0 (j+1).toNat-eB c 0 i.toNat=oR c i.toNat j.toNat:=by
 unfold oR;have h:=B8 c 0 i.toNat (j.toNat+1-i.toNat);rw[show i.toNat+(j.toNat+1-i.toNat)=(j+1).toNat by omega,bAL]at h;omega
theorem aIQ{r:eC}{t:List Int}(h:(fH r t&&decide ((if fH r t=true then(sE r t:Int)else 0)≤r.wrong))=true):fits r t=true:=by
 unfold fits;cases he:fH r t<;>simp[he]at h ⊢;exact h
theorem aQA{r:eC}{t:List Int}(h:(fH r t&&decide ((if fH r t=true then(sE r t:Int)else 0)≤r.wrong))=false):fits r t=false:=by
 unfold fits;cases he:fH r t<;>simp[he]at h ⊢;exact h
theorem aLW{r:eC}(h:tN r)(k:Nat):(((dQ r.places).take k).filter (fits r)).length≤512:=by
 have h1:=bAS (fits r) ((dQ r.places).take k);have h2:=yX r.places;have h3:2^r.places.length≤2^9:=bBI Yd h.len9;have h4:((dQ r.places).take k).length≤(dQ r.places).length:=by rw[aZJ];omega
 omega
theorem aMP{r:eC}(h:tN r)(k:Nat):∀t∈((dQ r.places).take k).filter (fits r),t.length≤9:=fun t ht=>by
 have:=(rC (bBZ (List.mem_filter.1 ht).1)).1;have:=h.len9;omega
theorem BP{r:eC}(h:tN r):(truths r).length≤512:=by
 have h1:=bAS (fits r) (dQ r.places);have h2:=yX r.places;have h3:2^r.places.length≤2^9:=bBI Yd h.len9;show((dQ r.places).filter (fits r)).length≤512;omega
theorem aKU(rv:Value)(r:eC)(i j:Int)(D:aC)(hr:nX D rv r):Fn prog 74 #[rv,qI i,qI j] D (fun _ v=>v=.bool (sJ r i j)):=by
 obtain⟨pv,cv,rfl,hp,hc⟩:=hr;have hl:=hp.len;refine enter 22 func74 rfl rfl rfl rfl fun h0=>aA<|Zv rfl (fun T U M G=>Zj rfl<|aK<|Za rfl<|Zh rfl eF rfl<|Zf 0 rfl dS rfl G rfl<|dH rfl U25 rfl Ym rfl rfl bCV<|hU rfl rfl rfl Yg rfl bCV<|Zc rfl (fun V O=>eN _ _ _ _)<|Za rfl ?_)
 refine' dM 8 (s:=13) (p:=21) rfl (fun I=>?_) (fun I=>?_) ?_;rotate_left
 ·refine Zb rfl<|Zb rfl<|Zi rfl eF rfl<|Zg 0 rfl dS rfl G rfl<|dH rfl U25 rfl Ym rfl rfl ⟨_,rfl,rfl⟩<|hU rfl rfl rfl Yg rfl ⟨_,rfl,rfl⟩<|Zd rfl (fun Y R=>eN _ _ _ _)<|Zag rfl ?_;exact aR 7
 ·refine Zk rfl<|Zk rfl<|Zk rfl<|Zk rfl<|Zk rfl<|Zk rfl<|Zk rfl<|Zah rfl ?_;exact aR 7
 refine Zj rfl<|aH ?_;exact aF rfl (fun D hD=>rfl)
theorem aQX(c:List Int)(i j:Int)(D:aC)(I:0≤i)(hij:i≤j)(R:j<9)(hb:∀x∈c,0≤x∧x≤1):Fn prog 127 #[.agg (ints (mM c)).toArray,qI i,qI j] D (fun _ v=>v=qI (oR c i.toNat j.toNat)):=by
 have hsl:=pJ c;have M:=sR c (j+1).toNat Yd;have O:=sR c i.toNat Yd;have T:=gP hb 0 (j+1).toNat;have U:=gP hb 0 i.toNat;refine enter 15 func127 rfl rfl rfl rfl fun h0=>aA<|Zv rfl (fun Y Z V G=>Zj rfl<|bR<|bM [] 4 9 112<|Za rfl<|Zaa rfl<|eJ rfl U186 aL rfl rfl Yd Yd rfl bCV<|jH rfl aI rfl G Ye (cK M) n3 rfl bCV<|Za rfl<|eJ rfl U186 aL rfl rfl Yd Yd rfl bCV ?_);refine jH rfl aI rfl G Ye (cK O) n3 rfl bCV<|hU rfl rfl rfl Yg rfl bCV<|Zj rfl<|aH ?_
 exact aF rfl (fun D hD=>by show Value.int _ _=_;rw[KN I hij])
theorem sM(lo hi n:Int)(D:aC):Fn prog 128 #[.agg #[qI lo,qI hi],qI n] D (fun _ v=>v=.agg #[qI (min lo n),qI (max hi n)]):=by
 refine enter 15 func128 rfl rfl rfl rfl fun h0=>aA<|Zv rfl (fun Y Z V M=>Zw rfl qE rfl (fun q2=>bR<|lR [] 4 [0,1,2,5,6,7,8,3,4,9,10] [false,false,true,true,true,true,true,true,true,false,false] [(false,0),(false,1),(true,2),(true,5),(true,6),(true,7),(true,8),(true,3),(true,4),(false,9),(false,10)] bI (fun _ _ _ h=>iO (P:=prog) (fn:=f128) _ _ _ h) Yf rfl<|Zh rfl LL rfl<|Zf 0 rfl aI rfl M rfl<|Za rfl<|Zh rfl LD rfl<|Zf 1 rfl aI rfl M rfl<|Za rfl ?_));refine tZ rfl rfl rfl rfl bCV<|Zn rfl U25 aL dR rfl (.cons rfl rfl (.cons rfl rfl .nil)) (fun T U O G=>?_)
 have I:=Sl.ofInts (l:=[_,_]) (n:=2) (cap:=2) G rfl Yd Yd;refine Zc rfl (fun D1 R=>lY _ lo [n] _ (I.up RI.up (R _ Ye)))<|Zo [qI (min lo n),qI (max hi n)] rfl r0 qE rfl<|Zu rfl iT (bO.head)<|aH ?_;exact Zl [_] rfl ⟨⟨_,_,_,rfl,Mm0,Or.inr ⟨wQ,(by first|exact iT|(simp only[aYU,aN, *];exact iT)),rfl⟩⟩,bCV⟩ (fun D hD=>rfl)
theorem vL(rv:Value)(r:eC)(fine:Bool)(D:aC)(hr:nX D rv r):Fn prog 73 #[rv,.bool fine] D (fun D' v=>∃wv,v=.tuple #[wv,qI (eG r fine)]∧(eG r fine=0→tN r∧aGW D' wv r)):=by
 have M:=hr;obtain⟨pv,cv,rfl,hp,hc⟩:=hr;refine GP 55 func73 rfl rfl rfl rfl fun h0=>aA<|Zv rfl (fun q1 E1 hS I=>Zj rfl<|Zj rfl<|bW<|Zs rfl iW rfl I fX<|Zc rfl (fun D1 hB=>X9 _ r _ (M.up (hB _ Ye)))<|Zj rfl<|aK<|Za rfl<|Zam rfl ?_);refine aG<|Zz rfl (fun G=>?_) (fun G=>?_)
 ·refine aA<|Za rfl<|Zj rfl<|Zj rfl<|aH<|Zas ?_;exact tL (vs:=[_,_]) rfl rfl rfl bA (fun D hD=>⟨_,by rw[eG,aYJ G];rfl,fun h=>by rw[eG,aYJ G]at h;exact absurd h G⟩)
 ·have hok:tN r:=EB.1 Yd;refine aZ<|dV<|Za rfl<|Zak rfl<|aG<|aW rfl (fun hc2=>?_) (fun hc2=>?_)
  ·refine aA<|Zj rfl<|Zj rfl<|aH<|Zas ?_;exact tL (vs:=[_,_]) rfl rfl rfl bA (fun D hD=>⟨_,by rw[eG,aYC G,aYJ Yaq];rfl,fun h=>by rw[eG,aYC G,aYJ Yaq]at h;omega⟩)
  ·refine aZ<|aA<|Zs rfl iW rfl I fX<|Zo [pv,cv,qI r.wrong,qI r.off,qN] rfl aQM aOZ rfl<|EJ rfl (e:=176) rfl rfl rfl bCV (fun Z=>Zw rfl aKT rfl (fun q3=>Zm rfl aKO (bO.head) rfl<|bW<|Zs rfl iW rfl I fX<|Zt rfl (fun D2 U=>VX _ r _ (M.up (U _ Ye)) hok.len9) (fun v2 D2 U hE=>aG<|Zar ?_)));obtain⟨br,rfl,hit⟩:=hE;refine pY (γ:=Value×aD) (xs:=(dQ r.places).map fL) (enc:=FY) (Dr:=D2) (G7 179 r) (fun _ _ _=>False) (fun g=>[(q3,qC [qP Z] 169),(Z,qC [pv,cv,qI r.wrong,qI r.off,g.1] 176)]++g.2) (qN,[]) rfl rfl rfl rfl hit Ye (fun _=>rfl) rfl (by simpa [G7]using bZ.nil) rfl ?_ ?_ (fun _ _ _ _ h=>h.elim)
   ·rintro pre x ⟨v,ν⟩ ⟨us,hx⟩ hΦ l bd rec hh D7 hX hst hpend;obtain⟨t,hk,rfl,htm,htake⟩:=zF hx;obtain⟨hlen,htb⟩:=rC htm;have htr:pP r t:=⟨hlen,htb⟩
    have V:=gX (t:=t) (by have:=hok.len9;omega);refine aX<|Zw rfl qW rfl (fun q4=>Zu rfl dW (bO.head)<|Zae ?_);refine fun a w hhh=>wT (A:=[(_,_),(_,_),(_,_)]++ν) (B:=[(bd,.deferred (some []))]) (r:=rec) (l:=l) Yav hst ?_ a w hhh
    refine xP (fun hnd=>?_);simp only[aYN,aYE,aZI,aXX,aZV,aYT,GE,aYD,not_or]at hnd;have hY:=hnd.1.2.2.1;have rA:=hnd.2.1.2.1;have rB:=hnd.2.2.1.1;refine Zar<|aO<|pR [] 4 9 198 (fun _ _ _ h=>h)<|Zs rfl iW rfl I fX<|bT rfl jS rfl Mm0 Yab n3 rfl bCV<|Zc rfl (fun D3 hD3=>N4 t _ (by have:=hok.len9;omega) htb)<|Zc rfl (fun D4 hF=>JQ _ r t _ (M.up (hF _ Ye)) hok htr)<|Za rfl<|Zad rfl<|Zad rfl<|Zj rfl<|Zj rfl ?_;refine aK<|Za rfl<|Za rfl ?_;refine' dM 5 (s:=32) (p:=37) rfl (fun hH=>?_) (fun hH=>?_) ?_;rotate_left
    ·refine Zb rfl<|Zi rfl zC rfl<|Zg 2 rfl aI rfl I rfl<|mL rfl rfl rfl rfl ⟨_,rfl,rfl⟩<|Zag rfl ?_;exact aR 4
    ·refine Zk rfl<|Zk rfl<|Zk rfl<|Zk rfl<|Zah rfl ?_;exact aR 4
    refine aG<|aW rfl (fun O=>?_) (fun O=>?_)
    ·have hfit:=aIQ O;refine pR (ν.map (·.1)) 2 11 254 (fun _ _ _ h=>h)<|cF rfl Z7 rfl Mm1 rfl Yn rfl bCV<|cF rfl Z7 rfl Mm1 rfl Yn rfl bCV<|Zaj rfl<|Zh rfl pE rfl<|cF rfl zM rfl Mm2 rfl Yn rfl bCV<|bT rfl jS rfl Mm0 Yab Yn rfl bCV<|Zn rfl U174 dW qW rfl (.cons rfl (by simpa using V) .nil) (fun hO hR hI R=>bE (A:=[(_,_),(_,_),(_,_)]) (B:=[(l,_),(bd,_)]) rfl U174 rfl rfl dW qW rfl aNT rfl rfl rfl hΦ (mK.lit R) Ye (by simp[V]) (MN (aMP hok pre.length)) (by simpa using dF _) (by have:=aLW hok pre.length;omega) (aXR (fun p hp=>n4.2 ⟨p,hp,rfl⟩)) rfl bCV (fun v1 ν1 T=>?_))
     have hJ:G7 179 r (pre++[fL t]) (v1,ν1):=by unfold G7;rw[htake,bAQ,bBJ,aYJ hfit,List.filter_nil,aYP,aZG];simpa using T
     simp only[aZV,aYT];refine Zaj rfl<|Zh rfl pE rfl<|bJ rfl rfl rfl T.cells1 SK (.tail (.tail (bO.head))) Ye rfl T.cell1 bCV<|Zae<|Zat ?_;exact fun a w hh=>iA (A:=[(_,_),(_,_)]++ν1) (B:=[(bd,.deferred (some []))]) (v1,ν1) hJ rfl rfl a w (hh.dropBoxes 1)
    ·have hfit:=aQA O;have hK:G7 179 r (pre++[fL t]) (v,ν):=by unfold G7;rw[htake,bAQ,bBJ,aYC (by simp[hfit]),List.filter_nil,aXS];exact hΦ
     refine cB<|Zat ?_;exact fun a w hh=>iA (A:=[(_,_),(_,_)]++ν) (B:=[(bd,.deferred (some []))]) (v,ν) hK rfl rfl a w (hh.dropBoxes 1)
   ·rintro⟨v,ν⟩ bd hΦ;have hΦ':bZ 179 9 v (truths r).length ((truths r).flatMap fun t=>ints (fL t)) ν:=by simpa [G7,truths]using hΦ
    have hall:∀t∈truths r,t.length≤9:=fun t ht=>by have:=(rC (List.mem_filter.1 ht).1).1;have:=hok.len9;omega
    have hll:=BP hok;refine Zat<|Zap<|dV<|Zp rfl Z7 rfl Mm0 rfl<|Zaj rfl<|Zh rfl pE rfl<|Zp rfl zM rfl Mm1 rfl<|fC rfl U174 rfl hΦ' rfl rfl bCV<|Zan rfl<|aG<|Zz rfl (fun Y=>?_) (fun Y=>?_)
    ·have htn:truths r=[]:=bAP.1 Yd;have hask:eG r fine=11:=by rw[eG,aYC G,aYC Yaq,aYJ htn]
     refine aA<|Zj rfl<|Zj rfl<|aH<|Zas ?_;exact xD (vs:=[_,_]) (A:=[(_,_),(_,_)]++ν) rfl rfl rfl bA (fun D hD=>⟨_,by rw[hask];rfl,fun h=>by rw[hask]at h;omega⟩)
    ·have htn:truths r≠[]:=fun e=>Y (by rw[e];rfl)
     have hask:eG r fine=0:=by rw[eG,aYC G,aYC Yaq,aYC htn]
     refine aZ<|aA<|Zp rfl Z7 rfl Mm0 rfl<|Zj rfl<|Zj rfl<|aH<|gR (A:=[(_,_),(_,_)]) (B:=[(bd,.deferred (some []))]) hΦ' rfl (fun D8 hD8 hM=>gR (A:=[(_,_)]) (ν:=[(Z,_)]) (B:=[(bd,.deferred (some []))]) (aPG (sz:=5) rfl) rfl (fun D9 hD9 hN=>?_));exact xD (vs:=[_,_]) (A:=[(_,_)]) rfl rfl rfl bA (fun D hD=>⟨_,by rw[hask];rfl,fun _=>⟨hok,Z,pv,cv,v,rfl,(hN.at Yd).up (hD _ Ye),hp.up RI.up (hD _ Ye),hc.up RC.up (hD _ Ye),(hM.truths rfl Yd hall).up RT.up (hD _ Ye)⟩⟩)
end L1
end Go.Fs
