/- Of the proof of TopEntered: Show, ShowT, Lent, Panic, Diary, AW1, AW2, BW1, AW3, AW4. -/
import Derived.Test.YthchgbimdmiemaaGreatDoorZTopEnteredAC
import Derived.Test.YthchgbimdmiemaaGreatDoorZTopEnteredAB
namespace Go.Fs
variable{P:Program}{X:Cx}{γb:Type}[Membership Nat γb]{bad:γb}{all:Array Oper}{K:Act→World→Prop}{Q:Exit→Act→World→Prop}
variable{σ:bF}{μ:aB}{Ds:List aA}{os:List (Bool×Nat)}{fl:Bool}{ix:Nat}
variable{d:Nat}{x y z:Operand}{u v:Value}{ty:TypeId}{pos:String}{aft:Array Edge}{g:Option (Nat×Bool)}
def HE(β:List Nat)(D:aA)(w:World)(bo:Nat)(cs:List Value):Prop:=bo∈β∧D bo=[]∧∃e fz,w.heap[bo]?= some (.cells cs.toArray e fz)
def gK(D:aA)(bo:Nat)(cs:List Value):aA:=fun c=>if c=bo then cs else D c
theorem S5{D:aA}{bo:Nat}{cs:List Value}(h:D bo=[])(h0:bo≠0):Le D (gK D bo cs):=⟨fun c=>by
 unfold gK;split
 ·rename_i e;subst e;rw[h];exact List.nil_prefix
 ·exact List.prefix_refl _,by unfold gK;rw[if_neg (Ne.symm h0)]⟩
theorem JV(D:aA)(bo:Nat)(cs:List Value):At (gK D bo cs) bo 0 cs:=fun j v hj=>by unfold gK;simpa using hj
theorem AX{D:aA}{w:World}{bo:Nat}{cs:List Value}{e:TypeId}{fz:Nat×Nat}(h:dD D w)(hb:w.heap[bo]?= some (.cells cs.toArray e fz))(hD:D bo=[]):dD (gK D bo cs) w:=h.of (fun c hc=>by
 unfold gK at hc ⊢
 split
 ·rename_i ec;subst ec;exact⟨_,_,_,hb,List.prefix_refl _⟩
 ·rename_i ec;rw[if_neg ec]at hc;exact h.1 c hc) (by unfold gK;rw[if_neg (Ne.symm (h.ne0 hD))]) rfl
theorem fA.hide{w w':World}{D D':aA}{mods:List Nat}{μ:aB}{bo:Nat}{cs:List Value}(h:fA (hd w) w.heap.size (gK D bo cs) mods μ D' w')(hD:D bo=[])(hb0:bo≠0):fA (hd w) w.heap.size D mods μ (gK D' bo []) w':=by
 refine⟨h.hlo,h.size,h.old,fun b hb=>?_,h.agr.of (fun b hb=>?_) (by unfold gK;rw[if_neg (Ne.symm hb0)]) rfl,fun p hp=>?_,h.nd,h.fz,h.env⟩
 ·unfold gK;split
  ·rename_i e;subst e;exact hD.symm
  ·rename_i e;rw[h.dold b hb];unfold gK;rw[if_neg e]
 ·unfold gK at hb ⊢
  split
  ·rename_i e;rw[if_pos e]at hb;exact absurd rfl hb
  ·rename_i e;rw[if_neg e]at hb;exact h.agr.1 b hb
 ·obtain⟨h1,h2,h3⟩:=h.box p hp;refine⟨h1,?_,h3⟩;unfold gK;split
  ·rfl
  ·exact h2
def z7{α:Type}(P:Program)(f:FuncId)(cap:List Value)(Dr:aA)(xs:List α)(enc:Nat→List Value)(cells:α→List Value):Prop:=
 EF P f∧∀(lo l:Nat) (J Jx:List α→oU),(∀pre,vS lo (J pre))→(∀pre,vS lo (Jx pre))→
  (∀pre x β D w bo,(∃r,xs=pre++x::r)→uS lo D w→J pre β D w→(∀b∈β,b<w.heap.size)→Le Dr D→HE β D w bo (cells x)→
   gH P l (enc bo) w fun b D' w'=>uS lo D' w'∧uK β D w D' w'∧(if b then J (pre++[x]) β D' w' else Jx (pre++[x]) β D' w'))→
  ∀D w,uS lo D w→Le Dr D→J [] [] D w→Calls P f (.func (.yield l) #[] #[]::cap).toArray w fun e w'=>∃v D',e=.returned v∧uS lo D' w'∧(J xs [] D' w'∨∃pre,Jx pre [] D' w')
theorem LD{J J1 J0:oU}{l:Nat}{c:Operand}{xs:Array Operand}{ats:Array TypeId}{vs:List Value}(ho:all[ix]?= some ⟨some d,.call {callee:=.value c,args:=xs,argTypes:=ats},ty,pos,aft,g⟩)
  (hc:ev σ c=some (.func (.yield l) #[] #[])) (hxs:zJ σ xs.toList=some vs) (hex:X.ex=some J) (hfl:fl=false) (h0:X.h0=⟨#[],none⟩) (hm:X.mods=[]) (hs1:vS X.lo J1) (hs0:vS X.lo J0)
  (hY:∀D w,uS X.lo D w→J (μ.map (·.1)) D w→(∀p∈μ,w.heap[p.1]?= some p.2∧D p.1=[])→(∀D₁∈Ds,Le D₁ D)→gH P l vs w fun b D' w'=>uS X.lo D' w'∧uK (μ.map (·.1)) D w D' w'∧(if b then J1 (μ.map (·.1)) D' w' else J0 (μ.map (·.1)) D' w'))
  (hN:Nat.blt d X.N=true) (hg:cR all σ g)
  (k1:WL P (X.withEx J1) bad all K Q os ((d,.bool true)::σ) μ Ds) (k0:WL P (X.withEx J0) bad all K Q os ((d,.bool false)::σ) μ Ds):WL P X bad all K Q ((fl,ix)::os) σ μ Ds:=by
 refine dW ho rfl rfl hg fun a w hh=>?_
 obtain⟨h1,h2,h3,D,h4,h5,h6⟩:=id hh;have hJ:J (μ.map (·.1)) D w:=by unfold sG at h6;rw[hex]at h6;exact h6.2
 obtain⟨fn,tmps,assign,body,hy,hr⟩:=hY D w h4.dom hJ (fun p hp=>⟨(h4.box p hp).1,(h4.box p hp).2.1⟩) h5;have e:xs.map a.eval=vs.toArray:=by rw[←iJ (fun _ _ hx=>hh.eval hx) hxs,←Array.toList_map]
 have hrun:(execOp a.eval ⟨some d,.call {callee:=.value c,args:=xs,argTypes:=ats},ty,pos,aft,g⟩).run P w=.ok (.round l fn tmps assign body) w:=by
  simp only[execOp,resolve,hh.eval hc,Deferred.ofValue,pure_bind,invoke,e];rw[←hy];simp
 rw[hrun];refine⟨fun h=>by simp[FW]at h,(xP hr).mono ?_⟩;rintro e' w' ⟨b,D',rfl,hd',hh',hb⟩;have hst:fA X.h0 X.lo X.D0 X.mods μ D' w':=by
  refine⟨h4.hlo,hd'.2,(fun b hb=>by rw[h0]at hb;exact absurd hb (Nat.not_lt_zero _)),(fun b hb=>by rw[h0]at hb;exact absurd hb (Nat.not_lt_zero _)),hd'.1,fun p hp=>?_,h4.nd,h4.fz,fun e he=>by rw[h0]at he;cases he⟩;obtain⟨p1,p2,p3⟩:=h4.box p hp;obtain⟨q1,q2⟩:=hh'.2.2 p.1 (List.mem_map.2 ⟨p,hp,rfl⟩);exact⟨q1.trans p1,q2.trans p2,p3⟩
 have hds:∀D₁∈Ds,Le D₁ D':=fun D₁ hD₁=>(h5 D₁ hD₁).trans hh'.2.1
 refine⟨(fun h=>by rw[hfl]at h;cases h),?_⟩;cases b with
 |true=>
  refine k1 _ _ (Hl.put (X:=X.withEx J1) ⟨h1,h2,h3,D',hst,hds,⟨hs1,hb⟩⟩ hN _)
 |false=>
  refine k0 _ _ (Hl.put (X:=X.withEx J0) ⟨h1,h2,h3,D',hst,hds,⟨hs0,hb⟩⟩ hN _)
theorem DY{J J1 J0:oU}{l N lo:Nat}{c:Operand}{xs:Array Operand}{ats:Array TypeId}{vs:List Value}(ho:all[ix]?= some ⟨some d,.call {callee:=.value c,args:=xs,argTypes:=ats},ty,pos,aft,g⟩)
  (hc:ev σ c=some (.func (.yield l) #[] #[])) (hxs:zJ σ xs.toList=some vs) (hfl:fl=false) (hs1:vS lo J1) (hs0:vS lo J0)
  (hY:∀D w,uS lo D w→J (μ.map (·.1)) D w→(∀p∈μ,w.heap[p.1]?= some p.2∧D p.1=[])→(∀D₁∈Ds,Le D₁ D)→gH P l vs w fun b D' w'=>uS lo D' w'∧uK (μ.map (·.1)) D w D' w'∧(if b then J1 (μ.map (·.1)) D' w' else J0 (μ.map (·.1)) D' w'))
  (hN:Nat.blt d N=true) (hg:cR all σ g)
  (kk:∀b J',J'=(if b=true then J1 else J0)→WL P (Xj N lo J') bad all K Q os ((d,.bool b)::σ) μ Ds):WL P (Xj N lo J) bad all K Q ((fl,ix)::os) σ μ Ds:=
 LD (X:=Xj N lo J) ho hc hxs rfl hfl rfl rfl hs1 hs0 hY hN hg (kk true J1 rfl) (kk false J0 rfl)
def RF{γ:Type}(h0:H0)(lo:Nat)(D0:aA)(mods:List Nat)(Ds:List aA)(Φ:γ→Prop)(Mx:γ→aB):oU:=fun β D w=>
 ∃g,Φ g∧fA h0 lo D0 mods (Mx g) D w∧(∀D₁∈Ds,Le D₁ D)∧(∀b∈β,h0.size≤b∧∀D₁∈Ds,D₁ b=[])∧(∀p∈Mx g,p.1∉β)∧∀k∈mods,k∈(Mx g).ks
theorem S3{γ:Type}{h0:H0}{lo:Nat}{D0:aA}{mods:List Nat}{Ds:List aA}{Φ:γ→Prop}{Mx:γ→aB}:vS lo (RF h0 lo D0 mods Ds Φ Mx):=by
 constructor
 ·rintro β D w D' w' ⟨g,hg,hs,hD,hβ,hM,hmk⟩ ⟨hl1,hl2,hl3⟩ hd;have box':∀p∈Mx g,w'.heap[p.1]?= w.heap[p.1]?∧D' p.1=D p.1:=fun p hp=>hl2 p.1 (bA (hs.box p hp).1) (hM p hp)
  refine⟨g,hg,⟨hs.hlo,hd.2,fun b hb hm=>?_,fun b hb=>?_,hd.1,fun p hp=>?_,hs.nd,hs.fz,fun e he=>hl3.trans (hs.env e he)⟩,fun D₁ hD₁=>⟨fun b=>?_,?_⟩,hβ,hM,hmk⟩
  ·have hlt:b<w.heap.size:=by have:=hs.hlo;have:=hs.size;omega
   have hn:b∉β:=fun h=>by have:=(hβ b h).1;omega
   rw[(hl2 b hlt hn).1];exact hs.old b hb hm
  ·have hlt:b<w.heap.size:=by have:=hs.hlo;have:=hs.size;omega
   have hn:b∉β:=fun h=>by have:=(hβ b h).1;omega
   rw[(hl2 b hlt hn).2];exact hs.dold b hb
  ·obtain⟨p1,p2,p3⟩:=hs.box p hp;obtain⟨q1,q2⟩:=box' p hp;exact⟨q1.trans p1,q2.trans p2,p3⟩
  ·by_cases hb:b∈β
   ·rw[(hβ b hb).2 D₁ hD₁];exact List.nil_prefix
   ·by_cases hlt:b<w.heap.size
    ·rw[(hl2 b hlt hb).2];exact(hD D₁ hD₁).1 b
    ·have:=(hD D₁ hD₁).1 b;rw[hs.agr.fresh (Nat.le_of_not_lt hlt)]at this;rw[List.prefix_nil.1 this];exact List.nil_prefix
  ·have h0:(0:Nat)∉β:=fun hm=>hs.agr.2.1 ((hD D₁ hD₁).2.trans ((hβ 0 hm).2 D₁ hD₁))
   rw[(hl2 0 hs.agr.pos h0).2];exact(hD D₁ hD₁).2
 ·rintro β β' D w ⟨g,hg,hs,hD,hβ,hM,hmk⟩ hb';refine⟨g,hg,hs,hD,fun b hb=>?_,fun p hp hb=>?_,hmk⟩
  ·rcases hb' b hb with h|h
   ·exact hβ b h
   ·refine⟨by have:=hs.hlo;have:=hs.size;omega,fun D₁ hD₁=>?_⟩;have:=(hD D₁ hD₁).1 b;rw[hs.agr.fresh h]at this;exact List.prefix_nil.1 this
  ·rcases hb' _ hb with h|h
   ·exact hM p hp h
   ·have:=bA (hs.box p hp).1;omega
theorem fA.roundM{h0:H0}{lo:Nat}{D0 D D':aA}{mods:List Nat}{μ μ':aB}{w w':World}(h:fA h0 lo D0 mods μ D w)(hmk:∀k∈mods,k∈μ.ks)(hs:fA (hd w) w.heap.size D (μ.map (·.1)) μ' D' w'):fA h0 lo D0 mods μ' D' w':=by
 have hle:=Nat.le_trans h.hlo h.size;have hkey:∀b∈μ.map (·.1),lo≤b∨b∈mods:=by
  intro b hb;obtain⟨p,hp,rfl⟩:=List.mem_map.1 hb;exact(h.box p hp).2.2
 refine⟨h.hlo,Nat.le_trans h.size hs.size,fun b hb hm=>?_,fun b hb=>?_,hs.agr,fun p hp=>?_,hs.nd,hs.fz,fun e he=>(hs.env _ rfl).trans (h.env e he)⟩
 ·rw[hs.old b (Nat.lt_of_lt_of_le hb hle) (fun hk=>by
   rcases hkey b hk with h1|h1
   ·have:=h.hlo;omega
   ·exact hm h1)]
  exact h.old b hb hm
 ·rw[hs.dold b (Nat.lt_of_lt_of_le hb hle)];exact h.dold b hb
 ·obtain⟨p1,p2,p3⟩:=hs.box p hp;refine⟨p1,p2,?_⟩;rcases p3 with p3|p3
  ·exact Or.inl (by have:=h.size;omega)
  ·exact hkey _ p3
theorem I8{α γ:Type}{xs:List α}{enc:Nat→List Value}{cells:α→List Value}{Dr:aA}{f:FuncId}{cap:List Value}{gop:Operand}{ps:Array Tmp}{assign body:Code}
  (Φ:List α→γ→Prop) (Ψ:List α→Code→γ→Prop) (M:γ→aB) (g₀:γ) (hr:X.r=none) (hex:X.ex=none) (hmods:∀g,∀k∈X.mods,k∈(M g).ks)
  (hg:ev σ gop=some (.func (.func f) #[] cap.toArray)) (hit:z7 P f cap Dr xs enc cells) (hDr:Dr∈Ds) (hps:∀b,(enc b).length=ps.size) (hpN:(ps.toList.all fun p=>Nat.blt p X.N)=true) (h₀:Φ [] g₀) (hμ:M g₀=μ)
  (hround:∀pre x g,(∃r,xs=pre++x::r)→Φ pre g→∀(l bd bo:Nat) (rec:Loop) (h0:H0) (D:aA),(∀D₁∈Ds,Le D₁ D)→At D bo 0 (cells x)→rec.state=.ready→rec.pending=none→
   WC P (Xr l X.N h0 D ((M g++(l,Obj.loop rec)::[(bd,Obj.deferred (some []))]).map (·.1)))
    (Exit.then (fun a₁ w₁=>∃w₂,(Instr.beginRound l).run P w₁=.ok () w₂∧body.wpIn ((FW none).inRound l) 0 P (roundPost P l (tQ h0 D ((M g++(l,Obj.loop rec)::[(bd,Obj.deferred (some []))]).map (·.1)) (Φ (pre++[x])) (Ψ (pre++[x]))
     (fun g=>M g++(l,Obj.loop {rec with state:=.ready,pending:=none})::[(bd,Obj.deferred (some []))]) (fun c g=>M g++(l,Obj.loop {rec with state:=.done,pending:=some c})::[(bd,Obj.deferred (some []))]))) a₁ w₂) (fun _ _ _=>False))
    assign (rZ ps.toList (enc bo) σ) (M g++(l,Obj.loop rec)::[(bd,Obj.deferred (some []))]) (D::Ds))
  (hdone:∀g bd,Φ xs g→∀a w,Hl (X.withDs bd) σ (M g++[(bd,Obj.deferred (some []))]) Ds a w→Q .normal a w)
  (hstop:∀pre c g bd,Ψ pre c g→WC P (X.withDs bd) Q c σ (M g++[(bd,Obj.deferred (some []))]) Ds):WC P X Q (.rangeFunc gop ps assign body) σ μ Ds:=by
 intro a w hh;subst hμ;have hev:=hh.eval hg;obtain⟨h1,h2,h3,D,h4,h5,h6⟩:=hh;refine wpIn_rangeFunc fun fn _=>?_
 have hround':(FW X.r).round=none:=hr;rw[hround'];have hmk:∀g (B:aB),∀k∈X.mods,k∈(M g++B).ks:=fun g B k hk=>by
  show k∈(M g++B).map _;rw[List.map_append];exact List.mem_append_left _ (hmods g k hk)
 let bd:=w.heap.size
 let l:=w.heap.size+1
 let rec0:Loop:={state:=.ready,pending:=none,fn,tmps:=a.tmps,params:=ps,assign,body,defers:=bd}
 let w1:World:={w with heap:=w.heap.push (.deferred (some []))}
 let w2:World:={w1 with heap:=w1.heap.push (.loop rec0)}
 have hs1:fA X.h0 X.lo X.D0 X.mods ((bd,Obj.deferred (some []))::M g₀) D w1:=h4.push (.deferred (some [])) trivial;have hs2:fA X.h0 X.lo X.D0 X.mods ((l,Obj.loop rec0)::(bd,Obj.deferred (some []))::M g₀) D w2:=by
  have:=hs1.push (.loop rec0) trivial;have e:w1.heap.size=l:=by simp[w1,l]
  rw[e]at this;exact this
 have hperm:fA X.h0 X.lo X.D0 X.mods (M g₀++(l,Obj.loop rec0)::[(bd,Obj.deferred (some []))]) D w2:=by
  refine hs2.sub (fun p hp=>?_) ?_
  ·simp only[List.mem_append,List.mem_cons,List.not_mem_nil,or_false]at hp ⊢
   rcases hp with hp|hp|hp
   ·exact Or.inr (Or.inr hp)
   ·exact Or.inl hp
   ·exact Or.inr (Or.inl hp)
  ·have hn:=hs2.nd;simp only[List.map_cons,List.nodup_cons,List.mem_cons,not_or]at hn;simp only[List.map_append,List.map_cons,List.map_nil,List.nodup_append,List.nodup_cons,List.mem_cons,List.not_mem_nil,or_false,not_false_eq_true,List.nodup_nil,and_true];refine⟨hn.2.2,hn.1.1,fun q hq r hr'=>?_⟩;rcases hr' with rfl|rfl
   ·rintro rfl;exact hn.1.2 hq
   ·rintro rfl;exact hn.2.1 hq
 -- the call
 refine⟨l,[jV bd],w2,{target:=.fn (.func f) cap.toArray,args:=#[.func (.yield l) #[] #[]]},w2,f,(.func (.yield l) #[] #[]::cap).toArray,w2,run_enterLoop_outer fn a.tmps ps assign body,?_,fun _ _=>trivial,?_,fun h=>by simp[FW]at h,?_⟩
 ·simp only[resolve,Deferred.ofValue];have e:Array.map a.eval #[Operand.const (Value.func (Fn.yield l) #[] #[])]=#[.func (.yield l) #[] #[]]:=by simp[Act.eval]
  rw[e,hev];rfl
 ·simp only[invoke];rw[hit.1];simp
 ·refine cQ.2 ((hit.2 X.lo l
   (fun pre=>RF X.h0 X.lo X.D0 X.mods Ds (Φ pre) fun g=>M g++(l,Obj.loop rec0)::[(bd,Obj.deferred (some []))])
   (fun pre=>RF X.h0 X.lo X.D0 X.mods Ds (fun cg:Code×γ=>Ψ pre cg.1 cg.2) fun cg=>M cg.2++(l,Obj.loop {rec0 with state:=.done,pending:=some cg.1})::[(bd,Obj.deferred (some []))])
   (fun _=>S3) (fun _=>S3) ?_ D w2 hs2.dom (h5 Dr hDr) ⟨g₀,h₀,hperm,h5,(fun _ h=>by cases h),(fun _ _ h=>by cases h),hmk g₀ _⟩).mono ?_)
  ·rintro pre x β Dx wx bo hx hdx ⟨g,hΦ,hst,hDs,hβ,hM,hmg⟩ hβs hle ⟨hbo,hbD,be,bfz,hbw⟩;have hbox:=(hst.box (l,Obj.loop rec0) Ye).1;refine⟨fn,_,assign,body,run_yield hbox (by simpa using hps bo),?_⟩;refine(roundIn_of_wpIn (F:=FW none) trivial (R:=tQ (hd wx) (gK Dx bo (cells x)) ((M g++(l,Obj.loop rec0)::[(bd,Obj.deferred (some []))]).map (·.1)) (Φ (pre++[x])) (Ψ (pre++[x]))
     (fun g=>M g++(l,Obj.loop {rec0 with state:=.ready,pending:=none})::[(bd,Obj.deferred (some []))]) (fun c g=>M g++(l,Obj.loop {rec0 with state:=.done,pending:=some c})::[(bd,Obj.deferred (some []))])) ?_).mono ?_
   ·have hw:=hround pre x g hx hΦ l bd bo rec0 (hd wx) (gK Dx bo (cells x)) (fun D₁ h=>(hDs D₁ h).trans (S5 hbD (hst.agr.ne0 hbD))) (JV _ _ _) rfl rfl;have ht:(ps.zip (enc bo).toArray).foldl (fun tmps (t,a)=>tmps.setIfInBounds t a) a.tmps=(ps.toList.zip (enc bo)).foldl (fun tmps (p:Tmp×Value)=>tmps.setIfInBounds p.1 p.2) a.tmps:=by
     rw[←Array.foldl_toList];simp
    have hpN':∀p∈ps.toList,p<a.tmps.size:=fun p hp=>by rw[h1];simpa [Nat.blt_eq]using List.all_eq_true.1 hpN p hp
    refine hw {tmps:=_,defers:=[]} wx ⟨?_,fun s v hs=>?_,rfl,gK Dx bo (cells x),⟨Nat.le_refl _,Nat.le_refl _,fun _ _ _=>rfl,fun _ _=>rfl,AX hst.agr hbw hbD,fun p hp=>?_,hst.nd,hst.fz,fun e he=>Option.some.inj he⟩,fun D₁ hD₁=>?_,trivial⟩
    ·show((ps.zip (enc bo).toArray).foldl _ a.tmps).size=X.N;rw[ht,xC];exact h1
    ·show((ps.zip (enc bo).toArray).foldl _ a.tmps)[s]?= some v;rw[ht];exact wU _ _ _ _ h2 hpN' s v hs
    ·obtain⟨p1,p2,p3⟩:=hst.box p hp;exact⟨p1,by unfold gK;rw[if_neg (fun e=>hM p hp (by rw[e];exact hbo))];exact p2,Or.inr (List.mem_map.2 ⟨p,hp,rfl⟩)⟩
    ·rcases List.mem_cons.1 hD₁ with rfl|hD₁
     ·exact Le.refl _
     ·exact(hDs D₁ hD₁).trans (S5 hbD (hst.agr.ne0 hbD))
   ·rintro e w' ⟨b,D',rfl,hb⟩;have fin:∀μ',fA (hd wx) wx.heap.size (gK Dx bo (cells x)) ((M g++(l,Obj.loop rec0)::[(bd,Obj.deferred (some []))]).map (·.1)) μ' D' w'→fA X.h0 X.lo X.D0 X.mods μ' (gK D' bo []) w'∧uK β Dx wx (gK D' bo []) w'∧(∀D₁∈Ds,Le D₁ (gK D' bo []))∧(∀p∈μ',p.1∉β):=by
     intro μ' hs0;have hs':=hs0.hide hbD (hst.agr.ne0 hbD);refine⟨hst.roundM hmg hs',fA.roundHigh hst.agr hs' hβs hM,fun D₁ hD₁=>(hDs D₁ hD₁).trans (eM hst.agr hs'),fun p hp hpb=>?_⟩;rcases(hs'.box p hp).2.2 with h|h
     ·have:=hβs _ hpb;omega
     ·obtain⟨q,hq,he⟩:=List.mem_map.1 h;exact hM q hq (by rw[he];exact hpb)
    refine⟨b,gK D' bo [],rfl,?_⟩;cases b with
    |true=>
     obtain⟨g',hg',hs'⟩:=hb;obtain⟨f1,f2,f3,f4⟩:=fin _ hs';exact⟨f1.dom,f2,g',hg',f1,f3,hβ,f4,hmk g' _⟩
    |false=>
     obtain⟨c',g',hg',hs'⟩:=hb;obtain⟨f1,f2,f3,f4⟩:=fin _ hs';exact⟨f1.dom,f2,(c',g'),hg',f1,f3,hβ,f4,hmk g' _⟩
  ·rintro e w' ⟨v,D',rfl,hd,hend⟩;have post:∀(g:γ) (r:Loop),fA X.h0 X.lo X.D0 X.mods (M g++(l,Obj.loop r)::[(bd,Obj.deferred (some []))]) D' w'→(∀D₁∈Ds,Le D₁ D')→
     Hl (X.withDs bd) σ (M g++[(bd,Obj.deferred (some []))]) Ds {a with defers:=[jV bd]++a.defers} (w'.putObj l (.loop {r with state:=.exhausted})):=by
    intro g r hs hD';have hHas:cY (M g++(l,Obj.loop r)::[(bd,Obj.deferred (some []))]) l (.loop r) (.loop {r with state:=.exhausted}) (M g++(l,Obj.loop {r with state:=.exhausted})::[(bd,Obj.deferred (some []))]):=.app .head;have hs':=hs.set (w':=w'.putObj l (.loop {r with state:=.exhausted})) hHas ⟨rfl,rfl⟩ trivial;have hs'':=hs'.sub (μ':=M g++[(bd,Obj.deferred (some []))]) (fun p hp=>by
     rcases List.mem_append.1 hp with hp|hp
     ·exact List.mem_append_left _ hp
     ·exact List.mem_append_right _ (List.mem_cons_of_mem _ hp)) (by
     have hn:=hs'.nd;rw[List.map_append,List.nodup_append]at hn ⊢
     simp only[List.map_cons]at hn;exact⟨hn.1,(List.nodup_cons.1 hn.2.1).2,fun q hq r hr=>hn.2.2 q hq r (List.mem_cons_of_mem _ hr)⟩)
    exact⟨h1,h2,congrArg (jV bd:: ·) h3,D',hs'',hD',by unfold sG;show(match X.ex with|none=>True|some J=>_);rw[hex];trivial⟩
   rcases hend with⟨g,hΦ,hs,hDs,_,_,_⟩|⟨pre,⟨c,g⟩,hΨ,hs,hDs,_,_,_⟩
   ·have hb:=(hs.box (l,Obj.loop rec0) Ye).1;exact⟨none,_,run_endLoop hb (by simp[rec0]),hdone g bd hΦ _ _ (post g rec0 hs hDs)⟩
   ·have hb:=(hs.box (l,Obj.loop {rec0 with state:=.done,pending:=some c}) Ye).1;refine⟨some c,_,run_endLoop hb Ye,?_⟩;have:=hstop pre c g bd hΨ _ _ (post g _ hs hDs);exact this

theorem d6{α:Type}{f:FuncId}{fn:Func}{c:Code}{cap:List Value}{Dr:aA}{xs:List α}{enc:Nat→List Value}{cells:α→List Value}(N:Nat)(hf:P.funcs[f]?= some fn)(hn:(fn.name== "runtime.NumGoroutine")=false)(hb:fn.body=some c)(hN:fn.ntmps=N)(hsz:Nat.ble (cap.length+1) N=true)
  (h:∀(lo l:Nat) (J Jx:List α→oU),(∀pre,vS lo (J pre))→(∀pre,vS lo (Jx pre))→
   (∀pre x β D w bo,(∃r,xs=pre++x::r)→uS lo D w→J pre β D w→(∀b∈β,b<w.heap.size)→Le Dr D→HE β D w bo (cells x)→
    gH P l (enc bo) w fun b D' w'=>uS lo D' w'∧uK β D w D' w'∧(if b then J (pre++[x]) β D' w' else Jx (pre++[x]) β D' w'))→
   WC P (Xj N lo (J [])) (bodyPost P fn (H9 lo [Dr] fun _ J' _=>J'=J xs∨∃pre,J'=Jx pre)) c (fJ 0 (.func (.yield l) #[] #[]::cap)) [] [Dr]):z7 P f cap Dr xs enc cells:=by
 refine⟨EF.of hf hn hb,fun lo l J Jx hs hsx hY D w hd hle hJ=>?_⟩;have hF:=xV (μ:=[]) N hf hn hb hN (by simpa using hsz) (h lo l J Jx hs hsx hY);refine(hF.2 w ⟨D,⟨Nat.zero_le _,hd.2,fun b hb=>absurd hb (Nat.not_lt_zero _),fun b hb=>absurd hb (Nat.not_lt_zero _),hd.1,(fun p hp=>by cases hp),List.nodup_nil,(fun p hp=>by cases hp),fun e he=>by cases he⟩,fun D₁ h1=>?_,hs [],hJ⟩).mono ?_
 ·simp only[List.mem_singleton]at h1;subst h1;exact hle
 ·rintro e w' ⟨v,J',μ',rfl,⟨D',hst,hds,hex⟩,hpost⟩;refine⟨v,D',rfl,hst.dom,?_⟩;have hJ':J' [] D' w':=hex.1.own _ [] D' w' hex.2 (fun b hb=>by cases hb);rcases hpost with rfl|⟨pre,rfl⟩
  ·exact Or.inl hJ'
  ·exact Or.inr ⟨pre,hJ'⟩
theorem N6{t e:TypeId}{sz n:Nat}{z0:Value}{zs cs:List Value}{k k':IntKind}(ho:all[ix]?= some ⟨some d,.makeSlice t x y,ty,pos,aft,g⟩)(ht:P.underlying t=some (.slice e))(hs:TS P e sz)(hz:TZ P e z0)(hzc:z0.cells=zs.toArray)(hi:(P.info? e).map (fun i=>Nat.ble 1 i.bytes&&Nat.ble i.bytes 4096)=some true)
  (hx:ev σ x=some (.int k n)) (hy:ev σ y=some (.int k' n)) (hn:n≤10000) (hcs:((Array.range (n*sz)).map (zs.toArray[· %zs.toArray.size]!)).toList=cs) (hN:Nat.blt d X.N=true) (hg:cR all σ g)
  (kk:∀b,WL P X bad all K Q os ((d,.slice (some ⟨b,0,none⟩) n n)::σ) ((b,.cells cs.toArray e (0,0))::μ) Ds):WL P X bad all K Q ((fl,ix)::os) σ μ Ds:=by
 refine dW ho rfl rfl hg fun a w hh=>?_
 obtain⟨h1,h2,h3,D,h4,h5,h6⟩:=id hh;have hn':=hn;obtain⟨i0,hi0,hb⟩:=Option.map_eq_some_iff.1 hi;simp only[Bool.and_eq_true]at hb;have hb1:=Nat.le_of_ble_eq_true hb.1;have hb2:=Nat.le_of_ble_eq_true hb.2;have hti:∀w,(typeInfo e).run P w=.ok i0 w:=fun w=>by simp[typeInfo,program,Sem.run,hi0,go_sem]
 have hw:IntKind.i64.wrap (n:Int)=n:=jF Yf;have hbn:i0.bytes*n≤4096*10000:=Nat.mul_le_mul hb2 hn';have hlarge:(((n:Int)<0)||decide ((i0.bytes:Int)*n>2^48))=false:=by
  have:((i0.bytes*n:Nat):Int)≤40960000:=by omega
  rw[Int.natCast_mul]at this;simp only[Bool.or_eq_false_iff,decide_eq_false_iff_not];constructor
  ·omega
  ·omega
 have hzz:∀w,(zeroValue e).run P w=.ok z0 w:=hz;have hrun:(execOp a.eval ⟨some d,.makeSlice t x y,ty,pos,aft,g⟩).run P w=.ok (.value (.slice (some ⟨w.heap.size,0,none⟩) n n)) {w with heap:=w.heap.push (.cells cs.toArray e (0,0))}:=by
  have hcs':(Array.range (n*sz)).map (zs.toArray[· %zs.toArray.size]!)=cs.toArray:=by rw[←hcs]
  have hai:∀(k:IntKind) (m:Int) (w:World),(asInt (.int k m)).run P w=.ok m w:=fun _ _ _=>rfl
  simp only[execOp,Instr.makeSlice,hh.eval hx,hh.eval hy,hai,Sem.run_bind,TU.of ht w,Result.andThen_ok,Sem.run_pure,hti,hw,pure_bind];rw[if_neg (by simp only[Bool.or_eq_true,decide_eq_true_eq,not_or];exact⟨⟨by simpa using hlarge,by omega⟩,by omega⟩)]
  simp only[Sem.run_bind,vR,Result.andThen_ok,hs w,Int.toNat_natCast];by_cases hnz:n*sz=0
  ·rw[if_pos hnz];have h00:∀f:Nat→Value,(Array.range 0).map f=#[]:=fun f=>by simp
   have hc0:cs.toArray=#[]:=by rw[←hcs',hnz];exact h00 _
   simp only[Sem.run_pure,Sem.run_bind,hc0];rw[hnz];simp only[h00,gW,Result.andThen_ok]
  ·rw[if_neg hnz];simp only[Sem.run_bind,hzz,Result.andThen_ok,Sem.run_pure,hzc,hcs',gW]
 rw[hrun];have hs':=h4.push (.cells cs.toArray e (0,0)) rfl;refine⟨fun _=>jU _ _ _,kk w.heap.size _ _ (Hl.put ⟨h1,h2,h3,D,hs',h5,h6.step (fun _ p hp=>?_) (fun _=>⟨by simp,fun b hb _=>⟨cF hb,rfl⟩,rfl⟩) hs'.dom⟩ hN _)⟩;rcases List.mem_cons.1 hp with rfl|hp
 ·exact Or.inr (Nat.le_refl _)
 ·exact Or.inl (List.mem_map.2 ⟨p,hp,rfl⟩)
theorem b6{n sz:Nat}{zs:List Value}(h:∀u∈zs,u=.int .i64 0)(hl:zs.length=sz):((Array.range (n*sz)).map (zs.toArray[· %zs.toArray.size]!)).toList=ints (List.replicate (n*sz) 0):=by
 apply List.ext_getElem?;intro i;simp only[Array.toList_map,Array.toList_range,List.getElem?_map,ints,List.map_replicate,List.getElem?_replicate];by_cases hi:i<n*sz
 ·rw[List.getElem?_range hi,if_pos hi];have hpos:0<sz:=by
   rcases Nat.eq_zero_or_pos sz with h0|h0
   ·subst h0;simp at hi
   ·exact h0
  have hm:i%zs.toArray.size<zs.length:=by simp only[List.size_toArray,hl];exact Nat.mod_lt _ hpos
  simp only[Option.map_some];congr 1;rw[getElem!_pos _ _ (by simpa using hm)];exact h _ Ye
 ·rw[List.getElem?_eq_none (by simpa using hi),if_neg hi];rfl

theorem Hl.freezeM{A B ν:aB}{e sz n:Nat}{cells:List Value}{a:Act}{w:World}(hacc:bC e sz v n cells ν)(hmods:∀k∈X.mods,k∈(A++B).ks)(hh:Hl X σ (A++ν++B) Ds a w):
  ∃D',(∀D₁∈Ds,Le D₁ D')∧kQ D' v n cells∧Hl X σ (A++B) (D'::Ds) a w:=by
 obtain⟨h1,h2,h3,D,h4,h5,h6⟩:=hh;rcases hacc with⟨old,hv,hn,hc,hν⟩|⟨b,cap,junk,hv,hncap,hν,hl1,hl2⟩
 ·subst hν;refine⟨D,h5,Or.inl ⟨old,hv,hn,hc⟩,h1,h2,h3,D,by simpa using h4,fun D₁ hD₁=>?_,by simpa using h6⟩;rcases List.mem_cons.1 hD₁ with rfl|hD₁
  ·exact Le.refl _
  ·exact h5 D₁ hD₁
 ·subst hν;have hb:=(h4.box (b,.cells (cells++junk).toArray e (0,0)) Ye).2.2;have hnb:b∉(A++B).ks:=fun hm=>by
   have hnd:=h4.nd;simp only[List.map_append,List.map_cons,List.append_assoc,List.singleton_append]at hnd;have:=List.nodup_append.1 hnd;have h2':=List.nodup_cons.1 this.2.1;simp only[aB.ks,List.map_append,List.mem_append]at hm;rcases hm with hm|hm
   ·exact this.2.2 b hm b List.mem_cons_self rfl
   ·exact h2'.1 hm
  have hb':=hb.resolve_right (fun h=>hnb (hmods b h));obtain⟨D',hle,hD',hDo,hs⟩:=h4.freeze hb';refine⟨D',fun D₁ hD₁=>(h5 D₁ hD₁).trans hle,Or.inr ⟨b,cap,hv,hncap,fun j u hj=>by rw[hD',Nat.zero_add];exact hj⟩,h1,h2,h3,D',hs,fun D₁ hD₁=>?_,h6.step (fun _ p hp=>Or.inl (List.mem_map.2 ⟨p,by rcases List.mem_append.1 hp with hp|hp;exact List.mem_append_left _ (List.mem_append_left _ hp);exact List.mem_append_right _ hp,rfl⟩)) (fun _=>⟨Nat.le_refl _,fun c _ hn=>⟨rfl,hDo c (by rintro rfl;exact hn Ye)⟩,rfl⟩) hs.dom⟩
  rcases List.mem_cons.1 hD₁ with rfl|hD₁
  ·exact Le.refl _
  ·exact(h5 D₁ hD₁).trans hle
theorem H1{T:Act→World→Prop}{A B ν:aB}{e sz n:Nat}{cells:List Value}(hacc:bC e sz v n cells ν)(hmods:∀k∈X.mods,k∈(A++B).ks)(kk:∀D,(∀D₁∈Ds,Le D₁ D)→kQ D v n cells→∀a w,Hl X σ (A++B) (D::Ds) a w→T a w):∀a w,Hl X σ (A++ν++B) Ds a w→T a w:=by
 intro a w hh;obtain⟨D',h1,h2,h3⟩:=hh.freezeM hacc hmods;exact kk D' h1 h2 a w h3
theorem Hl.apart{a:Act}{w:World}{D₁:aA}{b o:Nat}{c:Value}{cs:List Value}(hh:Hl X σ μ Ds a w)(hA:At D₁ b o (c::cs))(hD:D₁∈Ds):b∉μ.ks:=by
 obtain⟨h1,h2,h3,D,h4,h5,h6⟩:=hh;intro hm;obtain⟨p,hp,rfl⟩:=List.mem_map.1 hm;have h0:=(h5 D₁ hD).get (hA 0 c rfl);rw[(h4.box p hp).2.1]at h0;simp at h0
theorem gO{c':Code}{D₁:aA}{b o:Nat}{c:Value}{cs:List Value}(hA:At D₁ b o (c::cs))(hD:D₁∈Ds)(k:b∉μ.ks→WC P X Q c' σ μ Ds):WC P X Q c' σ μ Ds:=fun a w hh=>k (hh.apart hA hD) a w hh
theorem At.tail{D:aA}{b o:Nat}{c:Value}{cs:List Value}(h:At D b o (c::cs)):At D b (o+1) cs:=fun j v hj=>by
 have:=h (j+1) v (by simpa using hj);rw[show o+1+j=o+(j+1) by omega];exact this

theorem m7{f:FuncId}{fn:Func}{c:Code}{args:List Value}{D:aA}{ν:aB}{post:aA→Value→aB→Prop}(N:Nat)(hf:P.funcs[f]?= some fn)(hn:(fn.name== "runtime.NumGoroutine")=false)(hb:fn.body=some c)(hN:fn.ntmps=N)(hsz:Nat.ble args.length N=true)
  (h:∀h0:H0,(∀p∈ν,p.1<h0.size)→ν.ks.Nodup→WC P (kJ N h0 D ν.ks) (qZ P fn (iH (kJ N h0 D ν.ks) ν.ks post)) c (fJ 0 args) ν [D]):O8 P f args D ν post:=by
 refine⟨EF.of hf hn hb,fun w hw hν hnd=>?_⟩;subst hN;have hsz:=Nat.le_of_ble_eq_true hsz;have hq:∀e a w',qZ P fn (iH (kJ fn.ntmps (hd w) D ν.ks) ν.ks post) e a w'→bodyPostM (FW none) 0 P fn (iH (kJ fn.ntmps (hd w) D ν.ks) ν.ks post) e a w':=by
  intro e a w' he;cases e<;>first|exact he|exact he.elim
 have hwp:=h (hd w) (fun p hp=>bA (hν p hp).1) hnd {tmps:=args.toArray++Array.replicate (fn.ntmps-args.toArray.size) undef,defers:=[]} w ⟨by simp[kJ];omega,fun s v hs=>by
  obtain⟨_,h2⟩:=dP args 0 s v hs;have hl:=(List.getElem?_eq_some_iff.1 h2).1;simp only[Nat.sub_zero]at h2 hl;show(args.toArray++_)[s]?= some v;rw[Array.getElem?_append_left Yab];simpa using h2,rfl,D,⟨Nat.le_refl _,Nat.le_refl _,(fun _ _ _=>rfl),(fun _ _=>rfl),hw,(fun p hp=>⟨(hν p hp).1,(hν p hp).2.1,Or.inr (List.mem_map.2 ⟨p,hp,rfl⟩)⟩),hnd,(fun p hp=>(hν p hp).2.2),fun e he=>Option.some.inj he⟩,(fun D₁ h1=>by simp only[List.mem_singleton]at h1;subst h1;exact Le.refl _),trivial⟩
 refine(cQ (r:=none) (n:=0)).1 ((callsIn_of_wp_marks hf hb trivial (wpIn_mono hwp hq) rfl).mono ?_);rintro e w' ⟨v,D',ν',rfl,hk,hs,hp⟩;exact⟨v,D',ν',rfl,hk,hs,hp⟩
theorem V2{fn:Func}{bd:Nat}{ks:List Nat}{post:aA→Value→aB→Prop}{e:Exit}(he:(match e with|.normal=>true|.ret=>true|_=>false)=true){rs:List ResultVar}{vs:List Value}{A B ν':aB}(hds:X.ds=[])(hr:fn.results=rs.toArray)(h:oX P X σ (A++ν'++B++[(bd,Obj.deferred none)]) rs vs)
  (hk:ν'.ks=ks) (hp:∀D,(∀D₁∈Ds,Le D₁ D)→post D (lZ vs) ν'):∀a w,Hl (X.withDs bd) σ (A++ν'++B++[(bd,Obj.deferred (some []))]) Ds a w→qZ P fn (iH X ks post) e a w:=by
 intro a w hh;obtain⟨h1,h2,h3,D,h4,h5,h6⟩:=hh;have hHas:cY (A++ν'++B++[(bd,Obj.deferred (some []))]) bd (.deferred (some [])) (.deferred none) (A++ν'++B++[(bd,Obj.deferred none)]):=.app .head;have hs:=h4.set (w':=w.putObj bd (.deferred none)) hHas ⟨rfl,rfl⟩ trivial;have hh':Hl X σ (A++ν'++B++[(bd,Obj.deferred none)]) Ds {a with defers:=[]} (w.putObj bd (.deferred none)):=
  ⟨h1,h2,hds.symm,D,hs,h5,h6.step (X:=X.withDs bd) (fun _ p hp=>Or.inl Yr) (fun _=>gL ⟨rfl,rfl⟩ (List.mem_map.2 ⟨_,hHas.mem,rfl⟩)) hs.dom⟩
 have hrun:=eT hh' hr h;have hb:=(h4.box (bd,Obj.deferred (some [])) Ye).1;have hnd:=h4.nd;simp only[List.map_append]at hnd;have hsub:=hs.sub (μ':=ν') (fun p hp=>List.mem_append_left _ (List.mem_append_left _ (List.mem_append_right _ hp))) (List.nodup_append.1 (List.nodup_append.1 (List.nodup_append.1 hnd).1).1).2.1;have:LeavesInM (FW none) 0 P fn a.tmps (iH X ks post) a.defers .returning w:=by
  have h3':a.defers=[jV bd]:=h3.trans (by show jV bd::X.ds=_;rw[hds]);rw[h3'];exact⟨by simp,Or.inl ⟨bd,_,rfl,run_takeDeferred hb,_,hrun,_,D,ν',rfl,hk,hsub,hp D h5⟩⟩
 cases e<;>first|exact this|cases he
theorem JI{t:TypeId}{b k:Nat}{l:List Int}{n:Int}{e:TypeId}{μ':aB}(ho:all[ix]?= some ⟨none,.store t x y,ty,pos,aft,g⟩)(hs:TS P t 1)(hx:ev σ x=some (.pointer (some ⟨b,k,none⟩)))(hy:ev σ y=some (.int .i64 n))
  (hm:cY μ b (.cells (ints l).toArray e (0,0)) (.cells (ints (l.set k n)).toArray e (0,0)) μ') (hl:k<l.length) (hg:cR all σ g)
  (kk:WL P X bad all K Q os σ μ' Ds):WL P X bad all K Q ((false,ix)::os) σ μ Ds:=by
 have hil:(ints l).length=l.length:=aQ l;refine aT (off:=k) (us:=[.int .i64 n]) (vs:=ints l) (ws:=ints (l.set k n)) ho hx hy rfl hs hm (by simp[hil];omega) ?_ (fun u hu=>by simp at hu;subst hu;rfl) hg kk
 rw[show ints (l.set k n)=(ints l).set k (.int .i64 n) by simp[ints,List.map_set],List.set_eq_take_append_cons_drop,if_pos (by rw[hil];exact hl)];simp
theorem hC{t e tr:TypeId}{a:Option Addr}{n c:Nat}{ats:Array TypeId}(ho:all[ix]?= some ⟨some d,.call {callee:=.builtin .len,args:=#[x],argTypes:=ats},tr,pos,aft,g⟩)(ht:P.underlying t=some (.slice e))(hx:ev σ x=some (.slice a n c))(hat:ats[0]?= some t)
  (hN:Nat.blt d X.N=true) (hg:cR all σ g) (kk:WL P X bad all K Q os ((d,.int .i64 (n:Int))::σ) μ Ds):WL P X bad all K Q ((fl,ix)::os) σ μ Ds:=
 bD ho rfl rfl hN hg (fun ρ hρ w'=>by
  have hx':=hρ x _ hx;simp[Builtin.len_,hat,hx',Sem.run_bind,TU.of ht w',goInt,Sem.run_pure,go_sem]) kk
theorem Hl.boxesEq{a:Act}{w:World}{μ':aB}(hh:Hl X σ μ Ds a w)(h:μ=μ'):Hl X σ μ' Ds a w:=h▸hh
theorem tO{T:Act→World→Prop}(μ':aB)(h:μ=μ')(k:∀a w,Hl X σ μ' Ds a w→T a w):∀a w,Hl X σ μ Ds a w→T a w:=h▸k
theorem lJ{t t' e:TypeId}{a:Option Addr}{n c:Nat}(ho:all[ix]?= some ⟨some d,.binOp .eql t x y t',ty,pos,aft,g⟩)(ht:P.underlying t=some (.slice e))(hx:ev σ x=some (.slice a n c))(hy:ev σ y=some (.slice none 0 0))(hN:Nat.blt d X.N=true)(hg:cR all σ g)
  (kk:WL P X bad all K Q os ((d,.bool (a.isNone))::σ) μ Ds):WL P X bad all K Q ((fl,ix)::os) σ μ Ds:=
 uE ho (fun w=>by
  have hgd:(eqGuard .eql t x y (.slice a n c) (.slice none 0 0)).run P w=.ok () w:=by
   simp only[eqGuard];simp[go_sem]
  have heq:(Op.equal t (.slice a n c) (.slice none 0 0)).run P w=.ok a.isNone w:=by
   show(Op.equalIn (9999+1) t (.slice a n c) (.slice none 0 0)).run P w=_;rw[Op.equalIn,Sem.run_bind,TU.of ht w];cases a<;>rfl
  rw[Sem.run_bind,hgd];show((do Pure.pure (Value.bool (←Op.equal t (.slice a n c) (.slice none 0 0)))):Sem Value).run P w=_;rw[Sem.run_bind,heq];rfl) hx hy hN hg kk
theorem KB{t:TypeId}{b off:Nat}{vs us:List Value}{e:TypeId}{μ':aB}(ho:all[ix]?= some ⟨none,.store t x y,ty,pos,aft,g⟩)(hx:ev σ x=some (.pointer (some ⟨b,off,none⟩)))(hy:ev σ y=some v)(hv:v.cells=us.toArray)(hs:TS P t us.length)
  (hm:cY μ b (.cells vs.toArray e (0,0)) (.cells vs.toArray e (0,0)) μ') (hl:off+us.length≤vs.length) (hw:vs.take off++us++vs.drop (off+us.length)=vs) (hc1:∀u∈us,cell1 u=true) (hg:cR all σ g)
  (kk:WL P X bad all K Q os σ μ' Ds):WL P X bad all K Q ((fl,ix)::os) σ μ Ds:=by
 refine dW ho rfl rfl hg fun a w hh=>?_
 obtain⟨h1,h2,h3,D,h4,h5,h6⟩:=id hh;obtain⟨w',hr,hw'⟩:=pL (P:=P) hs hv (h4.box _ hm.mem).1 hl hc1;have:(execOp a.eval ⟨none,.store t x y,ty,pos,aft,g⟩).run P w=.ok .skip w':=by
  simp only[execOp,hh.eval hx,hh.eval hy,Sem.run_bind,hr,Result.andThen_ok,Sem.run_pure]
 rw[this];rw[hw]at hw';refine⟨fun _=>⟨by rw[hw'.1];simp,fun c _ _=>?_⟩,kk _ _ ⟨h1,h2,h3,D,h4.set hm hw' rfl,h5,h6.step (fun _ p hp=>Or.inl (by rw[←hm.keys];exact List.mem_map.2 ⟨p,hp,rfl⟩)) (fun _=>gL hw' (List.mem_map.2 ⟨_,hm.mem,rfl⟩)) (h4.set hm hw' rfl).dom⟩⟩
 have hb:=(h4.box _ hm.mem).1;rw[hw'.1];by_cases hc:b=c
 ·subst hc;rw[Array.getElem?_setIfInBounds_self_of_lt (bA hb)];exact hb.symm
 ·rw[Array.getElem?_setIfInBounds_ne hc]

theorem x5{α:Type}{D:aA}{b sz:Nat}{cells:α→List Value}(hsz:∀x,(cells x).length=sz):∀{xs:List α} {o:Nat},(∀i x,xs[i]?= some x→At D b (o+i*sz) (cells x))→At D b o (xs.flatMap cells)
 | [],o,_=>fun j v hj=>by simp at hj
 |x::xs,o,h=>fun j v hj=>by
  rw[List.flatMap_cons]at hj;have h0:=h 0 x rfl;rw[Nat.zero_mul,Nat.add_zero]at h0;have hr:=x5 hsz (xs:=xs) (o:=o+sz) fun i y hy=>by
   have:=h (i+1) y (by simpa using hy);rw[show o+sz+i*sz=o+(i+1)*sz by rw[Nat.add_mul];omega];exact this
  rcases Nat.lt_or_ge j (cells x).length with hl|hl
  ·rw[List.getElem?_append_left hl]at hj;exact h0 j v hj
  ·rw[List.getElem?_append_right hl]at hj;have:=hr _ v hj;rw[hsz]at this;rw[show o+j=o+sz+(j-sz) by rw[hsz]at hl;omega];exact this
theorem iG.of{α:Type}{R:Rd α}{D:aA}{sz:Nat}{xs:List α}{cells:α→List Value}(hR:∀D x cs,R D x cs→cs=cells x)(hsz:∀x,(cells x).length=sz)(h:Sl D R sz v xs):iG D v xs.length (xs.flatMap cells):=by
 obtain⟨a,cap,rfl,h1,h2,h3⟩:=h;rcases h3 with rfl|⟨b,o,rfl,h3⟩
 ·exact Or.inl ⟨a,cap,rfl,rfl,rfl⟩
 ·refine Or.inr ⟨b,o,cap,rfl,x5 hsz fun i x hx=>?_⟩;obtain⟨cs,hr,hc,hA⟩:=h3 i x hx;rw[hR _ _ _ hr]at hA;exact hA
theorem oI{α:Type}{R:Rd α}{D:aA}{sz n c:Nat}{xs:List α}(h:Sl D R sz (.slice none n c) xs):xs=[]:=by
 obtain⟨a,cap,hv,h1,h2,h3⟩:=h;rcases h3 with h3|⟨b,o,ha,_⟩
 ·exact h3
 ·rw[ha]at hv;cases hv
theorem aO{α:Type}{R:Rd α}{D₁:aA}{sz:Nat}{t e:TypeId}{xs:List α}{k:IntKind}{i:Int}{el:α}{bt ot ct:Nat}(ho:all[ix]?= some ⟨some d,.indexAddr t x y,ty,pos,aft,g⟩)(ht:P.underlying t=some (.slice e))(hs:TS P e sz)(hx:ev σ x=some (.slice (some ⟨bt,ot,none⟩) xs.length ct))(hS:Sl D₁ R sz (.slice (some ⟨bt,ot,none⟩) xs.length ct) xs)
  (hy:ev σ y=some (.int k i)) (h0:0≤i) (hi:xs[i.toNat]?= some el) (hN:Nat.blt d X.N=true) (hg:cR all σ g)
  (kk:∀cs,R D₁ el cs→cs.length=sz→At D₁ bt (ot+i.toNat*sz) cs→WL P X bad all K Q os ((d,.pointer (some ⟨bt,ot+i.toNat*sz,none⟩))::σ) μ Ds):WL P X bad all K Q ((fl,ix)::os) σ μ Ds:=by
 obtain⟨a,cap,hv,h1,h2,h3⟩:=hS;cases hv;have hlt:=(List.getElem?_eq_some_iff.1 hi).1;rcases h3 with h3|⟨b,o,ha,h3⟩
 ·subst h3;simp at hi
 ·cases ha;obtain⟨cs,hr,hc,hA⟩:=h3 _ _ hi;exact jL ho ht hs hx hy h0 Yd hN hg (kk cs hr hc hA)
theorem fX{α:Type}{R:Rd α}{D:aA}{sz:Nat}{xs:List α}{v:Value}(h:Sl D R sz v xs)(hne:xs≠[]):∃bt ot ct,v=.slice (some ⟨bt,ot,none⟩) xs.length ct:=by
 obtain⟨a,cap,hv,h1,h2,h3⟩:=h;rcases h3 with h3|⟨b,o,ha,_⟩
 ·exact absurd h3 hne
 ·exact⟨b,o,cap,by rw[hv,ha]⟩
theorem FV{t:TypeId}{b off:Nat}{vs us ws:List Value}{e:TypeId}{μ':aB}(ho:all[ix]?= some ⟨none,.store t x y,ty,pos,aft,g⟩)(hx:ev σ x=some (.pointer (some ⟨b,off,none⟩)))(hy:ev σ y=some v)(hv:v.cells=us.toArray)(hs:TS P t us.length)
  (hm:cY μ b (.cells vs.toArray e (0,0)) (.cells ws.toArray e (0,0)) μ') (hl:off+us.length≤vs.length) (hw:vs.take off++us++vs.drop (off+us.length)=ws) (hc1:∀u∈us,cell1 u=true) (hfl:fl=false∨b∈bad) (hg:cR all σ g)
  (kk:WL P X bad all K Q os σ μ' Ds):WL P X bad all K Q ((fl,ix)::os) σ μ Ds:=by
 refine dW ho rfl rfl hg fun a w hh=>?_
 obtain⟨h1,h2,h3,D,h4,h5,h6⟩:=id hh;obtain⟨w',hr,hw'⟩:=pL (P:=P) hs hv (h4.box _ hm.mem).1 hl hc1;have:(execOp a.eval ⟨none,.store t x y,ty,pos,aft,g⟩).run P w=.ok .skip w':=by
  simp only[execOp,hh.eval hx,hh.eval hy,Sem.run_bind,hr,Result.andThen_ok,Sem.run_pure]
 rw[this];rw[hw]at hw';refine⟨fun h=>⟨by rw[hw'.1];simp,fun c _ hn=>?_⟩,kk _ _ ⟨h1,h2,h3,D,h4.set hm hw' rfl,h5,h6.step (fun _ p hp=>Or.inl (by rw[←hm.keys];exact List.mem_map.2 ⟨p,hp,rfl⟩)) (fun _=>gL hw' (List.mem_map.2 ⟨_,hm.mem,rfl⟩)) (h4.set hm hw' rfl).dom⟩⟩
 rcases hfl with hf|hf
 ·rw[hf]at h;cases h
 ·rw[hw'.1,Array.getElem?_setIfInBounds_ne (by rintro rfl;exact hn hf)]
end Go.Fs
namespace Go.Fs
variable{P:Program}{X:Cx}{γb:Type}[Membership Nat γb]{bad:γb}{all:Array Oper}{K:Act→World→Prop}{Q:Exit→Act→World→Prop}
variable{σ:bF}{μ:aB}{Ds:List aA}{os:List (Bool×Nat)}{fl:Bool}{ix:Nat}
variable{d:Nat}{x y z:Operand}{u v:Value}{ty:TypeId}{pos:String}{aft:Array Edge}{g:Option (Nat×Bool)}
end Go.Fs
namespace Go.Fs
variable{P:Program}{X:Cx}{γb:Type}[Membership Nat γb]{bad:γb}{all:Array Oper}{K:Act→World→Prop}{Q:Exit→Act→World→Prop}
variable{σ:bF}{μ:aB}{Ds:List aA}{os:List (Bool×Nat)}{fl:Bool}{ix:Nat}
variable{d:Nat}{x y z:Operand}{u v:Value}{ty:TypeId}{pos:String}{aft:Array Edge}{g:Option (Nat×Bool)}
theorem Hl.subB{μ':aB}{a:Act}{w:World}(h:Hl X σ μ Ds a w)(hμ:μ'.Sublist μ):Hl X σ μ' Ds a w:=by
 obtain⟨g1,g2,g3,D,h4,h5,h6⟩:=h;exact⟨g1,g2,g3,D,h4.sub (fun p hp=>hμ.subset hp) (h4.nd.sublist (hμ.map _)),h5,h6.step (fun _ p hp=>Or.inl (List.mem_map.2 ⟨p,hμ.subset hp,rfl⟩)) (fun _=>LU.refl _ _ _) h4.dom⟩
theorem x8{K':Act→World→Prop}(h:∀a w,Hl X σ μ Ds a w→K' a w):∀a w,Hl X σ μ Ds a w→(Exit.then K' Q) .normal a w:=h
theorem QK{c c':Code}{γ:Type}(I:γ→Prop)(S:γ→bF)(M:γ→aB)(E:γ→List aA)(h1:WC P X (Exit.then (fun a w=>∃g,I g∧Hl X (S g) (M g) (E g) a w) Q) c σ μ Ds)(h2:∀g,I g→WC P X Q c' (S g) (M g) (E g)):WC P X Q (.seq c c') σ μ Ds:=
 fun a w hh=>wpIn_seq (wpIn_mono (h1 a w hh) fun e a w he=>by
  cases e with
  |normal=>obtain⟨g,hg,h⟩:=he;exact h2 g hg a w h
  |_=>exact he)
end Go.Fs
namespace Go.Fs
variable{P:Program}{X:Cx}{γb:Type}[Membership Nat γb]{bad:γb}{all:Array Oper}{K:Act→World→Prop}{Q:Exit→Act→World→Prop}
variable{σ:bF}{μ:aB}{Ds:List aA}{os:List (Bool×Nat)}{fl:Bool}{ix:Nat}
variable{d:Nat}{x y z:Operand}{u v:Value}{ty:TypeId}{pos:String}{aft:Array Edge}{g:Option (Nat×Bool)}
def jH(v:Value):List PanicEntry:=[{v,recovered:=false}]
def iL(P:Program)(f:FuncId)(args:List Value)(D:aA)(ν:aB)(post:aA→Value→aB→Prop)(pan:Value→Prop):Prop:=
 EF P f∧∀w,dD D w→(∀p∈ν,w.heap[p.1]?= some p.2∧D p.1=[]∧cB p.2)→ν.ks.Nodup→Calls P f args.toArray w fun e w'=>
  (∃v D' ν',e=.returned v∧fA (hd w) w.heap.size D ν.ks ν' D' w'∧post D' v ν')∨(∃v D',e=.panicked (jH v)∧fA (hd w) w.heap.size D ν.ks [] D' w'∧pan v)
theorem fA.afterG{h0:H0}{lo:Nat}{D0 D D':aA}{mods:List Nat}{A B ν ν':aB}{w w':World}(h:fA h0 lo D0 mods (A++ν++B) D w)(hs:fA (hd w) w.heap.size D ν.ks ν' D' w'):fA h0 lo D0 mods (A++ν'++B) D' w':=by
 have hle:=Nat.le_trans h.hlo h.size;have hin:∀c∈ν.ks,∃o,(c,o)∈ν:=fun c hc=>by
  obtain⟨p,hp,rfl⟩:=List.mem_map.1 hc;exact⟨p.2,hp⟩
 have hbx:∀p∈ν,_:=fun p hp=>h.box p (List.mem_append_left _ (List.mem_append_right _ hp))
 have hnd:=h.nd;simp only[List.map_append]at hnd;have hA:∀p∈A,p.1∉ν.ks∧p.1<w.heap.size:=fun p hp=>⟨fun hm=>(List.nodup_append.1 (List.nodup_append.1 hnd).1).2.2 p.1 (List.mem_map.2 ⟨p,hp,rfl⟩) p.1 hm rfl,bA (h.box p (List.mem_append_left _ (List.mem_append_left _ hp))).1⟩
 have hB:∀p∈B,p.1∉ν.ks∧p.1<w.heap.size:=fun p hp=>⟨fun hm=>(List.nodup_append.1 hnd).2.2 p.1 (List.mem_append_right _ hm) p.1 (List.mem_map.2 ⟨p,hp,rfl⟩) rfl,bA (h.box p (List.mem_append_right _ hp)).1⟩
 have hN:∀p∈ν',p.1∈ν.ks∨w.heap.size≤p.1:=fun p hp=>((hs.box p hp).2.2).symm
 refine⟨h.hlo,Nat.le_trans h.size hs.size,fun c hc hm=>?_,fun c hc=>?_,hs.agr,fun p hp=>?_,?_,fun p hp=>?_,fun e he=>(hs.env _ rfl).trans (h.env e he)⟩
 ·have hne:c∉ν.ks:=by
   intro hcm;obtain⟨o,ho⟩:=hin c hcm;rcases(hbx _ ho).2.2 with h'|h'
   ·have:=h.hlo;simp at h';omega
   ·exact hm h'
  rw[hs.old c (Nat.lt_of_lt_of_le hc hle) hne];exact h.old c hc hm
 ·rw[hs.dold c (Nat.lt_of_lt_of_le hc hle)];exact h.dold c hc
 ·rcases List.mem_append.1 hp with hp|hp
  ·rcases List.mem_append.1 hp with hp|hp
   ·obtain⟨h1,h2,h3⟩:=h.box p (List.mem_append_left _ (List.mem_append_left _ hp));obtain⟨hne,hl⟩:=hA p hp;exact⟨by rw[hs.old _ hl hne];exact h1,by rw[hs.dold _ hl];exact h2,h3⟩
   ·obtain⟨q1,q2,q3⟩:=hs.box p hp;refine⟨q1,q2,?_⟩;rcases q3 with q3|q3
    ·exact Or.inl (Nat.le_trans h.size q3)
    ·obtain⟨o,ho⟩:=hin p.1 q3;exact(hbx _ ho).2.2
  ·obtain⟨h1,h2,h3⟩:=h.box p (List.mem_append_right _ hp);obtain⟨hne,hl⟩:=hB p hp;exact⟨by rw[hs.old _ hl hne];exact h1,by rw[hs.dold _ hl];exact h2,h3⟩
 ·simp only[List.map_append];rw[List.nodup_append,List.nodup_append];refine⟨⟨(List.nodup_append.1 (List.nodup_append.1 hnd).1).1,hs.nd,fun a ha b hb e=>?_⟩,(List.nodup_append.1 hnd).2.1,fun a ha b hb e=>?_⟩
  ·obtain⟨p,hp,rfl⟩:=List.mem_map.1 ha;obtain⟨q,hq,rfl⟩:=List.mem_map.1 hb;obtain⟨h1,h2⟩:=hA p hp;rcases hN q hq with h3|h3
   ·exact h1 (e▸h3)
   ·omega
  ·rcases List.mem_append.1 ha with ha|ha
   ·exact(List.nodup_append.1 hnd).2.2 a (List.mem_append_left _ ha) b hb e
   ·obtain⟨p,hp,rfl⟩:=List.mem_map.1 ha;obtain⟨q,hq,rfl⟩:=List.mem_map.1 hb;obtain⟨h1,h2⟩:=hB q hq;rcases hN p hp with h3|h3
    ·exact h1 (e▸h3)
    ·omega
 ·rcases List.mem_append.1 hp with hp|hp
  ·rcases List.mem_append.1 hp with hp|hp
   ·exact h.fz p (List.mem_append_left _ (List.mem_append_left _ hp))
   ·exact hs.fz p hp
  ·exact h.fz p (List.mem_append_right _ hp)
theorem PB{c:Operand}{xs:Array Operand}{ats:Array TypeId}{f:FuncId}{c1 c2:List Value}{vs:List Value}{A B ν:aB}{post:aA→Value→aB→Prop}{pan:Value→Prop}(ho:all[ix]?= some ⟨some d,.call {callee:=.value c,args:=xs,argTypes:=ats},ty,pos,aft,g⟩)(hc:ev σ c=some (.func (.func f) c1.toArray c2.toArray))(hxs:zJ σ xs.toList=some vs)
  (hex:X.ex=none) (hfl:fl=false∨∀p∈ν,p.1∈bad) (hu:∀p∈ν,cB p.2) (hf:∀D,(∀D₁∈Ds,Le D₁ D)→iL P f (c1++vs++c2) D ν post pan) (hN:Nat.blt d X.N=true) (hg:cR all σ g)
  (kp:∀v D,(∀D₁∈Ds,Le D₁ D)→pan v→∀a w,Hl X σ (A++B) (D::Ds) a w→Q (.panic (jH v)) a w)
  (kk:∀v D ν',(∀D₁∈Ds,Le D₁ D)→post D v ν'→WL P X bad all K Q os ((d,v)::σ) (A++ν'++B) (D::Ds)):
  WL P X bad all K Q ((fl,ix)::os) σ (A++ν++B) Ds:=by
 refine dW ho rfl rfl hg fun a w hh=>?_
 obtain⟨h1,h2,h3,D,h4,h5,h6⟩:=id hh;have hF:=hf D h5;have hbx:∀p∈ν,_:=fun p hp=>h4.box p (List.mem_append_left _ (List.mem_append_right _ hp))
 have hnd:=h4.nd;simp only[List.map_append]at hnd;rw[pK hF.1 (hh.eval hc) (iJ (fun _ _ hx=>hh.eval hx) hxs)];refine⟨fun h=>by simp[FW]at h,cQ.2 ((hF.2 w h4.agr (fun p hp=>⟨(hbx p hp).1,(hbx p hp).2.1,hu p hp⟩) (List.nodup_append.1 (List.nodup_append.1 hnd).1).2.1).mono ?_)⟩;rintro e w' (⟨v,D',ν',rfl,hs,hpost⟩|⟨v,D',rfl,hs,hpan⟩)
 ·have hle:=eM h4.agr hs;refine⟨fun hflt=>⟨hs.size,fun c hc hcb=>hs.old c hc (fun hm=>?_)⟩,kk v D' ν' (fun D₁ hD₁=>(h5 D₁ hD₁).trans hle) hpost _ _ ?_⟩
  ·obtain⟨p,hp,rfl⟩:=List.mem_map.1 hm;rcases hfl with h|h
   ·rw[hflt]at h;cases h
   ·exact hcb (h p hp)
  ·refine Hl.put ⟨h1,h2,h3,D',h4.afterG hs,fun D₁ hD₁=>?_,by unfold sG;rw[hex];trivial⟩ hN v;rcases List.mem_cons.1 hD₁ with rfl|hD₁
   ·exact Le.refl _
   ·exact(h5 D₁ hD₁).trans hle
 ·have hle:=eM h4.agr hs;have h7:=h4.afterG hs;rw[List.append_nil]at h7;exact kp v D' (fun D₁ hD₁=>(h5 D₁ hD₁).trans hle) hpan a w' ⟨h1,h2,h3,D',h7,fun D₁ hD₁=>by
   rcases List.mem_cons.1 hD₁ with rfl|hD₁
   ·exact Le.refl _
   ·exact(h5 D₁ hD₁).trans hle,by unfold sG;rw[hex];trivial⟩
theorem _root_.Go.Fs.Zf{c:Operand}{xs:Array Operand}{ats:Array TypeId}{f:FuncId}{c1:List Value}{c2:List Value}{vs:List Value}(A:aB)(B:aB)(ν:aB){post:aA→Value→aB→Prop}{pan:Value→Prop}(e9:(all[ix]?,ev σ c,zJ σ xs.toList,X.ex)=(some ⟨some d,.call {callee:=.value c,args:=xs,argTypes:=ats},ty,pos,aft,g⟩,some (.func (.func f) c1.toArray c2.toArray),some vs,none))(hfl:fl=false∨∀p∈ν,p.1∈bad)(hu:∀p∈ν,cB p.2)(hf:∀D,(∀D₁∈Ds,Le D₁ D)→iL P f (c1++vs++c2) D ν post pan)(kp:∀v D,(∀D₁∈Ds,Le D₁ D)→pan v→∀a w,Hl X σ (A++B) (D::Ds) a w→Q (.panic (jH v)) a w)(kk:∀v D ν',(∀D₁∈Ds,Le D₁ D)→post D v ν'→WL P X bad all K Q os ((d,v)::σ) (A++ν'++B) (D::Ds))(hN:Nat.blt d X.N=true:=by exact rfl)(hg:cR all σ g:=by exact trivial):WL P X bad all K Q ((fl,ix)::os) σ (A++ν++B) Ds:=PB (A:=A) (B:=B) (ν:=ν) (congrArg (fun z=>z.1) e9) (congrArg (fun z=>z.2.1) e9) (congrArg (fun z=>z.2.2.1) e9) (congrArg (fun z=>z.2.2.2) e9) hfl hu hf hN hg kp kk

def H7(X:Cx)(post:aA→Value→aB→Prop)(pan:Value→Prop):Ending→World→Prop:=fun e w'=>
 (∃v D' ν',e=.returned v∧fA X.h0 X.lo X.D0 X.mods ν' D' w'∧post D' v ν')∨(∃v D',e=.panicked (jH v)∧fA X.h0 X.lo X.D0 X.mods [] D' w'∧pan v)
theorem bW{fn:Func}{R:Ending→World→Prop}:PI (bodyPost P fn R):=fun _ _ _ _ he h=>⟨he.trans h.1,h.2⟩
theorem dJ{f:FuncId}{fn:Func}{c:Code}{args:List Value}{D:aA}{ν:aB}{post:aA→Value→aB→Prop}{pan:Value→Prop}(N:Nat)(hf:P.funcs[f]?= some fn)(hn:(fn.name== "runtime.NumGoroutine")=false)(hb:fn.body=some c)(hN:fn.ntmps=N)(hsz:Nat.ble args.length N=true)
  (h:∀h0:H0,(∀p∈ν,p.1<h0.size)→ν.ks.Nodup→WC P (kJ N h0 D ν.ks) (bodyPost P fn (H7 (kJ N h0 D ν.ks) post pan)) c (fJ 0 args) ν [D]):iL P f args D ν post pan:=by
 refine⟨EF.of hf hn hb,fun w hw hν hnd=>?_⟩;subst hN;have hsz:=Nat.le_of_ble_eq_true hsz;refine(cQ (r:=none) (n:=0)).1 ((callsIn_of_wp (R:=H7 (kJ fn.ntmps (hd w) D ν.ks) post pan) hf hb trivial (h (hd w) (fun p hp=>bA (hν p hp).1) hnd _ w ⟨?_,fun s v hs=>?_,rfl,D,⟨Nat.le_refl _,Nat.le_refl _,fun _ _ _=>rfl,fun _ _=>rfl,hw,(fun p hp=>?_),hnd,(fun p hp=>(hν p hp).2.2),fun e he=>Option.some.inj he⟩,fun D₁ h1=>?_,trivial⟩) rfl).mono ?_)
 ·simp[kJ];omega
 ·obtain⟨_,h2⟩:=dP args 0 s v hs;have hl:=(List.getElem?_eq_some_iff.1 h2).1;simp only[Nat.sub_zero]at h2 hl;show(args.toArray++_)[s]?= some v;rw[Array.getElem?_append_left Yab];simpa using h2
 ·exact⟨(hν p hp).1,(hν p hp).2.1,Or.inr (List.mem_map.2 ⟨p,hp,rfl⟩)⟩
 ·simp only[List.mem_singleton]at h1;subst h1;exact Le.refl _
 ·rintro e w' (⟨v,D',ν',rfl,hs,hp⟩|⟨v,D',rfl,hs,hp⟩)
  ·exact Or.inl ⟨v,D',ν',rfl,hs,hp⟩
  ·exact Or.inr ⟨v,D',rfl,hs,hp⟩
theorem dC{fn:Func}{A B ν':aB}{post:aA→Value→aB→Prop}{pan:Value→Prop}{e:Exit}(he:(match e with|.normal=>true|.ret=>true|_=>false)=true){rs:List ResultVar}{vs:List Value}(hds:X.ds=[])(hr:fn.results=rs.toArray)(h:oX P X σ (A++ν'++B) rs vs)
  (hp:∀D,(∀D₁∈Ds,Le D₁ D)→post D (lZ vs) ν'):∀a w,Hl X σ (A++ν'++B) Ds a w→bodyPost P fn (H7 X post pan) e a w:=by
 intro a w hh;have hrun:=eT hh hr h;obtain⟨h1,h2,h3,D,h4,h5,h6⟩:=hh;have hnd:=h4.nd;simp only[List.map_append]at hnd;have:a.defers=[]∧∃v,(results fn a.tmps).run P w=.ok v w∧H7 X post pan (.returned v) w:=⟨h3.trans hds,_,hrun,Or.inl ⟨_,D,ν',rfl,h4.sub (fun p hp=>List.mem_append_left _ (List.mem_append_right _ hp)) (List.nodup_append.1 (List.nodup_append.1 hnd).1).2.1,hp D h5⟩⟩
 cases e<;>first|exact this|cases he
theorem bK{fn:Func}{post:aA→Value→aB→Prop}{pan:Value→Prop}{v:Value}(hds:X.ds=[])(hp:pan v):∀a w,Hl X σ μ Ds a w→bodyPost P fn (H7 X post pan) (.panic (jH v)) a w:=by
 rintro a w ⟨h1,h2,h3,D,h4,h5,h6⟩;exact⟨h3.trans hds,Or.inr ⟨v,D,rfl,h4.sub (fun p hp=>by cases hp) List.nodup_nil,hp⟩⟩
theorem SS{t:TypeId}{fs:Array Field}(ho:all[ix]?= some ⟨some d,.makeInterface t x,ty,pos,aft,g⟩)(ht:P.underlying t=some (.struct fs))(hx:ev σ x=some v)(hN:Nat.blt d X.N=true)(hg:cR all σ g)(k:WL P X bad all K Q os ((d,.iface t v)::σ) μ Ds):WL P X bad all K Q ((fl,ix)::os) σ μ Ds:=
 bD ho rfl rfl hN hg (fun ρ hρ w'=>by
  simp only[execOp,hρ x _ hx];unfold Instr.makeInterface;rw[Sem.run_bind,Sem.run_bind,TU.of ht w'];rfl) k
theorem MY{t:TypeId}{v:Value}(ho:all[ix]?= some ⟨none,.panic x,ty,pos,aft,g⟩)(hx:ev σ x=some (.iface t v))(hg:cR all σ g)(k:∀a w,Hl X σ μ Ds a w→Q (.panic (jH (.iface t v))) a w):WL P X bad all K Q ((fl,ix)::os) σ μ Ds:=by
 refine dW ho rfl rfl hg fun a w hh=>?_
 have e:(execOp a.eval ⟨none,.panic x,ty,pos,aft,g⟩).run P w=.halt (.panic (.iface t v)) w:=by
  simp only[execOp,hh.eval hx,Instr.panic];rfl
 rw[e];exact k a w hh
theorem eD{D:aA}{b:Nat}{l:List Bool}{R:Rd Bool}(hR:∀D x cs,cs=[Value.bool x]→R D x cs)(hA:At D b 0 (l.map Value.bool))(hl:l.length≤1000):Sl D R 1 (.slice (some ⟨b,0,none⟩) l.length l.length) l:=by
 refine⟨_,_,rfl,Nat.le_refl _,by omega,Or.inr ⟨b,0,rfl,fun i x hi=>⟨_,hR _ _ _ rfl,rfl,fun j v hj=>?_⟩⟩⟩;cases j with
 |zero=>
  obtain rfl:Value.bool x=v:=by simpa using hj
  have h:=hA i (.bool x) (by rw[List.getElem?_map,hi];rfl);simpa using h
 |succ j=>simp at hj
theorem iL.frame{f:FuncId}{args:List Value}{D:aA}{ν A B:aB}{post post':aA→Value→aB→Prop}{pan:Value→Prop}(h:iL P f args D ν post pan)(h1:∀D' v ν',Le D D'→post D' v ν'→post' D' v (A++ν'++B)):iL P f args D (A++ν++B) post' pan:=by
 refine⟨h.1,fun w hw hν hn=>?_⟩;have hnd:=hn;unfold aB.ks at hnd;simp only[List.map_append]at hnd;refine(h.2 w hw (fun p hp=>hν p (List.mem_append_left _ (List.mem_append_right _ hp))) (List.nodup_append.1 (List.nodup_append.1 hnd).1).2.1).mono ?_;have hst:fA (hd w) w.heap.size D (A++ν++B).ks (A++ν++B) D w:=by
  refine⟨Nat.le_refl _,Nat.le_refl _,fun _ _ _=>rfl,fun _ _=>rfl,hw,fun p hp=>⟨(hν p hp).1,(hν p hp).2.1,Or.inr (List.mem_map.2 ⟨p,hp,rfl⟩)⟩,hn,(fun p hp=>(hν p hp).2.2),fun e he=>Option.some.inj he⟩
 rintro e w' (⟨v,D',ν',he,hs,hp⟩|⟨v,D',he,hs,hp⟩)
 ·exact Or.inl ⟨v,D',A++ν'++B,he,hst.afterG hs,h1 _ _ _ (eM hw hs) hp⟩
 ·have h7:=hst.afterG hs;exact Or.inr ⟨v,D',he,h7.sub (fun p hp=>by cases hp) List.nodup_nil,hp⟩
theorem GP{t e tr:TypeId}{a:Option Addr}{n c:Nat}{ats:Array TypeId}(ho:all[ix]?= some ⟨some d,.call {callee:=.builtin .len,args:=#[x],argTypes:=ats},tr,pos,aft,g⟩)(ht:P.underlying t=some (.slice e))(hx:ev σ x=some v)(hv:v=.slice a n c)(h0:ats[0]?= some t)
  (hN:Nat.blt d X.N=true) (hg:cR all σ g) (kk:WL P X bad all K Q os ((d,.int .i64 (n:Int))::σ) μ Ds):WL P X bad all K Q ((fl,ix)::os) σ μ Ds:=by
 subst hv;exact hC ho ht hx h0 hN hg kk
theorem jK{t tr:TypeId}{b:ByteArray}{ats:Array TypeId}(ho:all[ix]?= some ⟨some d,.call {callee:=.builtin .len,args:=#[x],argTypes:=ats},tr,pos,aft,g⟩)(ht:P.underlying t=some .string)(hx:ev σ x=some (.string b))(hat:ats[0]?= some t)
  (hN:Nat.blt d X.N=true) (hg:cR all σ g) (kk:WL P X bad all K Q os ((d,.int .i64 (b.size:Int))::σ) μ Ds):WL P X bad all K Q ((fl,ix)::os) σ μ Ds:=
 bD ho rfl rfl hN hg (fun ρ hρ w'=>by
  have hx':=hρ x _ hx;simp[Builtin.len_,hat,hx',Sem.run_bind,TU.of ht w',goInt,Sem.run_pure,go_sem]) kk
end Go.Fs
namespace Go.Fs
namespace C12
structure aK where
 row:C1.cS
 table:C2.aR
 book:C3.eU
 yard:C7.bO
end C12
open C12
def RB:Rd Bool:=fun _ b cs=>cs=[.bool b]
theorem RB.up:RB.Up:=fun _ _ _ h=>h
def RS:Rd ByteArray:=fun _ b cs=>cs=[.string b]
theorem RS.up:RS.Up:=fun _ _ _ h=>h
def bG(s:aK)(pv cv hv lv mv bl bc yc yq:Value):List Value:=
 [pv,cv,.int .i64 s.row.wrong,.int .i64 s.row.off,.int .i64 s.table.last,hv,.int .i64 s.table.step,lv,mv,.int .i64 s.book.chairs,.int .i64 s.book.coin,.int .i64 s.book.box,bl,bc,yc,.int .i64 s.yard.fit,yq]
@[simp] theorem stC_len(s:aK)(pv cv hv lv mv bl bc yc yq:Value):(bG s pv cv hv lv mv bl bc yc yq).length=17:=rfl
structure fI(D:aA)(s:aK)(pv cv hv lv mv bl bc yc yq:Value):Prop where
 pl:Sl D RI 1 pv s.row.places
 ct:Sl D RC 3 cv s.row.counts
 ht:Sl D vT 2 hv s.table.heights
 lev:Sl D RI 1 lv s.table.levels
 mks:Sl D T1 4 mv s.table.marks
 ln:Sl D oB 3 bl s.book.lines
 cn:Sl D oR 3 bc s.book.counts
 ch:Sl D qY 4 yc s.yard.chairs
 cl:Sl D R2 2 yq s.yard.claims
theorem fI.up{D D':aA}{s:aK}{pv cv hv lv mv bl bc yc yq:Value}(h:fI D s pv cv hv lv mv bl bc yc yq)(hl:Le D D'):fI D' s pv cv hv lv mv bl bc yc yq:=
 ⟨h.pl.up RI.up hl,h.ct.up RC.up hl,h.ht.up vT.up hl,h.lev.up RI.up hl,h.mks.up T1.up hl,h.ln.up oB.up hl,h.cn.up oR.up hl,h.ch.up qY.up hl,h.cl.up R2.up hl⟩
def fK(D:aA)(v:Value)(s:aK):Prop:=∃pv cv hv lv mv bl bc yc yq,v=.agg (bG s pv cv hv lv mv bl bc yc yq).toArray∧fI D s pv cv hv lv mv bl bc yc yq
theorem fK.up{D D':aA}{v:Value}{s:aK}(h:fK D v s)(hl:Le D D'):fK D' v s:=by
 obtain⟨pv,cv,hv,lv,mv,bl,bc,yc,yq,e,h1⟩:=h;exact⟨pv,cv,hv,lv,mv,bl,bc,yc,yq,e,h1.up hl⟩
theorem fI.row{D:aA}{s:aK}{pv cv hv lv mv bl bc yc yq:Value}(h:fI D s pv cv hv lv mv bl bc yc yq):jQ D (.agg #[pv,cv,.int .i64 s.row.wrong,.int .i64 s.row.off]) s.row:=⟨pv,cv,rfl,h.pl,h.ct⟩
theorem fI.table{D:aA}{s:aK}{pv cv hv lv mv bl bc yc yq:Value}(h:fI D s pv cv hv lv mv bl bc yc yq):eR D (.agg #[.int .i64 s.table.last,hv,.int .i64 s.table.step,lv,mv]) s.table:=⟨hv,lv,mv,rfl,h.ht,h.lev,h.mks⟩
theorem fI.book{D:aA}{s:aK}{pv cv hv lv mv bl bc yc yq:Value}(h:fI D s pv cv hv lv mv bl bc yc yq):pS D (.agg #[.int .i64 s.book.chairs,.int .i64 s.book.coin,.int .i64 s.book.box,bl,bc]) s.book:=⟨bl,bc,rfl,h.ln,h.cn⟩
theorem fI.yard{D:aA}{s:aK}{pv cv hv lv mv bl bc yc yq:Value}(h:fI D s pv cv hv lv mv bl bc yc yq):kS D (.agg #[yc,.int .i64 s.yard.fit,yq]) s.yard:=⟨yc,yq,rfl,h.ch,h.cl⟩
end Go.Fs
namespace Go.Fs
open Go.Proofs
namespace L1
open C1
theorem fV{α:Type}{p:α→Bool}{xs:List α}{k:Nat}{x:α}(hx:xs[k]?= some x)(h:(xs.take k).any p=false)(hp:p x=true):idxOf p xs=k:=by
 have hk:=(List.getElem?_eq_some_iff.1 hx).1;have he:=(List.getElem?_eq_some_iff.1 hx).2;have h1:xs.any p=true:=List.any_eq_true.2 ⟨x,List.mem_of_getElem? hx,hp⟩;have h2:xs.findIdx p=k:=by
  rw[List.findIdx_eq hk];refine⟨by rw[he];exact hp,fun j hj=>?_⟩
  have:=List.any_eq_false.1 h (xs[j]'Yd) (by
   rw[List.mem_take_iff_getElem];exact⟨j,by omega,rfl⟩)
  simpa using this
 simp[idxOf,h1,h2]
theorem dX{α:Type}{p:α→Bool}{xs:List α}(h:xs.any p=false):idxOf p xs= -1:=by simp[idxOf,h]
theorem fT{α:Type}{p:α→Bool}{xs:List α}:decide (0≤idxOf p xs)=xs.any p:=by
 unfold idxOf;cases h:xs.any p<;>simp
theorem iR{α:Type}{p:α→Bool}{xs:List α}:(!xs.any fun x=> !p x)=xs.all p:=by
 rw[List.all_eq_not_any_not]
theorem cX(n lo hi:Int)(D:aA):Fn Tryz.prog 113 #[.int .i64 n,.int .i64 lo,.int .i64 hi] D (fun _ v=>v=.bool (eY n lo hi)):=by
 refine enter 15 Tryz.func113 rfl rfl rfl rfl fun h0=>Zy (C.rg (Zj rfl (Zo (Zx (Zy (C.rg (Za rfl (Za rfl (gV rfl rfl rfl rfl trivial (Za rfl ?_))))))))))
 refine' dA [(false,4),(false,5),(false,6),(false,7)] [(false,8)] (s:=10) (p:=14) rfl rfl (fun hg1=>?_) (fun hg1=>?_) ?_;rotate_left
 ·refine Zb rfl (Zb rfl (gV rfl rfl rfl rfl ⟨_,rfl,rfl⟩ (Zv rfl ?_)));exact aF fun a w hh=>hh.cutK 3 rfl
 ·refine Zi rfl (Zi rfl (Zi rfl (Zw rfl ?_)));exact aF fun a w hh=>hh.cutK 3 rfl
 refine Zj rfl (Zo (Zx (aC ?_)));exact Zc [_] rfl ⟨rfl,trivial⟩ (fun D hD=>rfl)
theorem FU(n:Int)(D:aA):Fn Tryz.prog 127 #[iV n] D (fun _ v=>v=.bool (kZ n)):=by
 refine enter 5 Tryz.func127 rfl rfl rfl rfl fun h0=>Zy (C.rg (Zj rfl (Zo (Zx (Zy (C.rg (Za rfl (Zd rfl (fun D1 hD1=>cX _ _ _ _) (Zj rfl (Zo ?_))))))))));refine Zx (aC ?_)
 exact Zc [_] rfl ⟨rfl,trivial⟩ (fun D hD=>rfl)
theorem JG(rv:Value)(r:cS)(c:oW)(D:aA)(hr:jQ D rv r):Fn Tryz.prog 125 #[rv,cV c] D (fun _ v=>v=.bool (kV r.places.length c)):=by
 obtain⟨pv,cv,rfl,hp,hc⟩:=hr;refine enter 16 Tryz.func125 rfl rfl rfl rfl fun h0=>Zy (C.rg (Zr rfl (fun q1 E1 hE1 hB1=>Zr rfl (fun q2 E2 hE2 hB2=>Zj rfl (Zo (Zx (Zy (C.rg (Zk rfl Tf.f142_1 rfl (Zg 1 rfl Tf.a3 rfl hB2 rfl ?_))))))))));refine Zk rfl Tf.f28_0 rfl (Zg 0 rfl Tf.a25 rfl hB1 rfl (aY rfl U25 rfl Yl rfl rfl trivial (Zd rfl (fun D1 hD1=>cX _ _ _ _) (Za rfl ?_))))
 refine' dA [(false,7),(false,8),(false,9),(false,10)] [(false,11)] (s:=11) (p:=15) rfl rfl (fun hg1=>?_) (fun hg1=>?_) ?_;rotate_left
 ·refine Zl rfl Tf.f142_2 rfl (Zh 2 rfl Tf.a3 rfl hB2 rfl (Ze rfl (fun D2 hD2=>cX _ _ _ _) (Zv rfl ?_)));exact aF fun a w hh=>hh.cutK 3 rfl
 ·refine Zi rfl (Zi rfl (Zi rfl (Zw rfl ?_)));exact aF fun a w hh=>hh.cutK 3 rfl
 refine Zj rfl (Zo (Zx (aC ?_)));exact Zc [_] rfl ⟨rfl,trivial⟩ (fun D hD=>rfl)
theorem mR(sv fv:Value)(xs:List Int)(p:Int→Bool)(D:aA)(hS:Sl D RI 1 sv xs)(hp:bM Tryz.prog D iV fv p):
  Fn Tryz.prog 248 #[sv,fv] D (fun _ v=>v=.int .i64 (idxOf p xs)):=by
 have hl:=hS.len;obtain⟨f,c1,c2,rfl,hf⟩:=hp;refine enter 19 Tryz.func248 rfl rfl rfl rfl fun h0=>Zy (C.rg (Zj rfl (Zo (Zx (Zy (Zy (C.rg (Za rfl (aY rfl U25 rfl Yl rfl rfl trivial (Za rfl ?_))))))))));refine Zo (Zx (Zae (bS (γ:=Nat) (fun k=>xs.length-k) (fun k=>k≤xs.length∧(xs.take k).any p=false) (fun k=>[(8,.int .i64 k)]) [(7,_),(4,_),(0,_),(1,_)] (fun k=>[D]) 0 Ye ⟨Yb,trivial⟩ C.rs (aG) ?_)))
 rintro k ⟨h1,h2⟩;refine Zy (C.rg (Zaa rfl (Zo (Zx (Zy (aH rfl (fun hc1=>?_) (fun hc1=>?_)))))))
 ·have hk:k<xs.length:=by omega
  obtain⟨x,hx⟩:∃x,xs[k]?= some x:=⟨_,List.getElem?_eq_getElem hk⟩
  refine Zac (Zx (Zy (Zae (Zy (C.rg (Za rfl (Zj rfl (Zo (Zx (Zy (C.rg ?_)))))))))));refine Za rfl (Za rfl (Za rfl (aJ rfl U25 Tf.s3 rfl Yl rfl Yd Yl rfl trivial (fun b1 o1 cs1 hr1 hcl1 hA1=>?_))));obtain rfl:cs1=[.int .i64 _]:=hr1;refine Zg 0 rfl Tf.a3 rfl hA1 rfl (Zd rfl (fun D1 hD1=>hf x _ (hD1 _ Ye)) (Zo (Zx (aP rfl (fun hc2=>?_) (fun hc2=>?_)))))
  ·refine Zy (C.rg (Za rfl (Zj rfl (Zo (Zx (aC (aD (Zad (Zad (aD (Zad ?_)))))))))));exact Zc [_] rfl ⟨rfl,trivial⟩ (fun D hD=>by show Value.int _ _=_;rw[fV hx h2 hc2])
  ·refine Zac (Zag (Zx (C.rg (Zt rfl (Za rfl (Zo ?_))))));have hpx:p x=false:=hc2;have h3:(xs.take (k+1)).any p=false:=by rw[List.take_add_one,hx,List.any_append,h2];simp[hpx]
   exact aN 12 (k+1) ⟨by omega,h3⟩ Yd ⟨Yb,trivial⟩ rfl rfl (List.Sublist.refl _) (aG)
 ·refine aZ (Zaf (Zaf (aE (Zx (Zy (C.rg (Zj rfl (Zo (Zx (aC ?_))))))))));exact Zc [_] rfl ⟨rfl,trivial⟩ (fun D hD=>by show Value.int _ _=_;rw[dX Yx])
theorem hZ(sv fv:Value)(xs:List Int)(p:Int→Bool)(D:aA)(hS:Sl D RI 1 sv xs)(hp:bM Tryz.prog D iV fv p):
  Fn Tryz.prog 207 #[sv,fv] D (fun _ v=>v=.bool (xs.any p)):=by
 refine enter 9 Tryz.func207 rfl rfl rfl rfl fun h0=>Zy (C.rg (Zj rfl (Zo (Zx (Zy (C.rg (Za rfl (Za rfl (Zd rfl (fun D1 hD1=>mR _ _ xs p _ (Sl.at RI.up hD1 Yl Ye) (hp.up (hD1 _ Ye))) (kX rfl rfl rfl rfl trivial ?_))))))))));refine Zj rfl (Zo (Zx (aC ?_)))
 exact Zc [_] rfl ⟨rfl,trivial⟩ (fun D hD=>by show Value.bool (decide _)=_;rw[fT])
theorem pM(b:Nat)(fv:Value)(p:Int→Bool)(x:Int)(D:aA)(hp:bM Tryz.prog D iV fv p)(hB:At D b 0 [fv]):
  Fn Tryz.prog 208 #[iV x,.pointer (some ⟨b,0,none⟩)] D (fun _ v=>v=.bool (!p x)):=by
 obtain⟨f,c1,c2,rfl,hf⟩:=hp;refine enter 8 Tryz.func208 rfl rfl rfl rfl fun h0=>Zy (C.rg (Zj rfl (Zo (Zx (Zy (C.rg (Zg 0 rfl Tf.a108 rfl hB rfl (Za rfl (Zd rfl (fun D1 hD1=>hf x _ (hD1 _ Ye)) (bV rfl rfl rfl trivial ?_))))))))));refine Zj rfl (Zo (Zx (aC ?_)))
 exact Zc [_] rfl ⟨rfl,trivial⟩ (fun D hD=>rfl)
theorem sR(sv fv:Value)(xs:List Int)(p:Int→Bool)(D:aA)(hS:Sl D RI 1 sv xs)(hp:bM Tryz.prog D iV fv p)(h1:fv.cells=#[fv]):
  Fn Tryz.prog 126 #[sv,fv] D (fun _ v=>v=.bool (xs.all p)):=by
 refine enter 9 Tryz.func126 rfl rfl rfl rfl fun h0=>Zy (C.rg (kM (vs:=[fv]) rfl rfl h1 rfl trivial (fun b D1 hD1 hB=>Zj rfl (Zo (Zx (Zy (C.rg (Za rfl (bH rfl rfl rfl rfl trivial (Zd rfl (fun D1 hD1=>hZ _ _ xs (fun x=> !p x) _ (Sl.at RI.up hD1 Yl Ye) ⟨_,[],[.pointer (some ⟨b,0,none⟩)],rfl,fun x D2 hl=>pM b fv p x D2 (hp.up ((hD1 _ Ye).trans hl)) (hB.up ((hD1 _ Ye).trans hl))⟩) ?_))))))))));refine bV rfl rfl rfl trivial (Zj rfl (Zo (Zx (aC ?_))))
 exact Zc [_] rfl ⟨rfl,trivial⟩ (fun D hD=>by show Value.bool (!_)=_;rw[iR])
theorem mU(sv fv:Value)(xs:List oW)(p:oW→Bool)(D:aA)(hS:Sl D RC 3 sv xs)(hp:bM Tryz.prog D cV fv p):
  Fn Tryz.prog 249 #[sv,fv] D (fun _ v=>v=.int .i64 (idxOf p xs)):=by
 have hl:=hS.len;obtain⟨f,c1,c2,rfl,hf⟩:=hp;refine enter 19 Tryz.func249 rfl rfl rfl rfl fun h0=>Zy (C.rg (Zj rfl (Zo (Zx (Zy (Zy (C.rg (Za rfl (aY rfl U26 rfl Yl rfl rfl trivial (Za rfl ?_))))))))));refine Zo (Zx (Zae (bS (γ:=Nat) (fun k=>xs.length-k) (fun k=>k≤xs.length∧(xs.take k).any p=false) (fun k=>[(8,.int .i64 k)]) [(7,_),(4,_),(0,_),(1,_)] (fun k=>[D]) 0 Ye ⟨Yb,trivial⟩ C.rs (aG) ?_)))
 rintro k ⟨h1,h2⟩;refine Zy (C.rg (Zaa rfl (Zo (Zx (Zy (aH rfl (fun hc1=>?_) (fun hc1=>?_)))))))
 ·have hk:k<xs.length:=by omega
  obtain⟨x,hx⟩:∃x,xs[k]?= some x:=⟨_,List.getElem?_eq_getElem hk⟩
  refine Zac (Zx (Zy (Zae (Zy (C.rg (Za rfl (Zj rfl (Zo (Zx (Zy (C.rg ?_)))))))))));refine Za rfl (Za rfl (Za rfl (aJ rfl U26 Tf.s142 rfl Yl rfl Yd Yl rfl trivial (fun b1 o1 cs1 hr1 hcl1 hA1=>?_))));obtain rfl:cs1=[.bool _,.int .i64 _,.int .i64 _]:=hr1;refine Zq rfl Tf.a142 rfl hA1 Tf.s142 (Zd rfl (fun D1 hD1=>hf x _ (hD1 _ Ye)) (Zo (Zx (aP rfl (fun hc2=>?_) (fun hc2=>?_)))))
  ·refine Zy (C.rg (Za rfl (Zj rfl (Zo (Zx (aC (aD (Zad (Zad (aD (Zad ?_)))))))))));exact Zc [_] rfl ⟨rfl,trivial⟩ (fun D hD=>by show Value.int _ _=_;rw[fV hx h2 hc2])
  ·refine Zac (Zag (Zx (C.rg (Zt rfl (Za rfl (Zo ?_))))));have hpx:p x=false:=hc2;have h3:(xs.take (k+1)).any p=false:=by rw[List.take_add_one,hx,List.any_append,h2];simp[hpx]
   exact aN 12 (k+1) ⟨by omega,h3⟩ Yd ⟨Yb,trivial⟩ rfl rfl (List.Sublist.refl _) (aG)
 ·refine aZ (Zaf (Zaf (aE (Zx (Zy (C.rg (Zj rfl (Zo (Zx (aC ?_))))))))));exact Zc [_] rfl ⟨rfl,trivial⟩ (fun D hD=>by show Value.int _ _=_;rw[dX Yx])
theorem jY(sv fv:Value)(xs:List oW)(p:oW→Bool)(D:aA)(hS:Sl D RC 3 sv xs)(hp:bM Tryz.prog D cV fv p):
  Fn Tryz.prog 209 #[sv,fv] D (fun _ v=>v=.bool (xs.any p)):=by
 refine enter 9 Tryz.func209 rfl rfl rfl rfl fun h0=>Zy (C.rg (Zj rfl (Zo (Zx (Zy (C.rg (Za rfl (Za rfl (Zd rfl (fun D1 hD1=>mU _ _ xs p _ (Sl.at RC.up hD1 Yl Ye) (hp.up (hD1 _ Ye))) (kX rfl rfl rfl rfl trivial ?_))))))))));refine Zj rfl (Zo (Zx (aC ?_)))
 exact Zc [_] rfl ⟨rfl,trivial⟩ (fun D hD=>by show Value.bool (decide _)=_;rw[fT])
theorem xY(b:Nat)(fv:Value)(p:oW→Bool)(x:oW)(D:aA)(hp:bM Tryz.prog D cV fv p)(hB:At D b 0 [fv]):
  Fn Tryz.prog 210 #[cV x,.pointer (some ⟨b,0,none⟩)] D (fun _ v=>v=.bool (!p x)):=by
 obtain⟨f,c1,c2,rfl,hf⟩:=hp;refine enter 8 Tryz.func210 rfl rfl rfl rfl fun h0=>Zy (C.rg (Zr rfl (fun q1 E1 hE1 hB1=>Zj rfl (Zo (Zx (Zy (C.rg (Zg 0 rfl Tf.a237 rfl hB rfl (Zq rfl Tf.a142 rfl hB1 Tf.s142 (Zd rfl (fun D1 hD1=>hf x _ (hD1 _ Ye)) ?_))))))))));refine bV rfl rfl rfl trivial (Zj rfl (Zo (Zx (aC ?_))))
 exact Zc [_] rfl ⟨rfl,trivial⟩ (fun D hD=>rfl)
theorem M9(sv fv:Value)(xs:List oW)(p:oW→Bool)(D:aA)(hS:Sl D RC 3 sv xs)(hp:bM Tryz.prog D cV fv p)(h1:fv.cells=#[fv]):
  Fn Tryz.prog 128 #[sv,fv] D (fun _ v=>v=.bool (xs.all p)):=by
 refine enter 9 Tryz.func128 rfl rfl rfl rfl fun h0=>Zy (C.rg (kM (vs:=[fv]) rfl rfl h1 rfl trivial (fun b D1 hD1 hB=>Zj rfl (Zo (Zx (Zy (C.rg (Za rfl (bH rfl rfl rfl rfl trivial (Zd rfl (fun D1 hD1=>jY _ _ xs (fun x=> !p x) _ (Sl.at RC.up hD1 Yl Ye) ⟨_,[],[.pointer (some ⟨b,0,none⟩)],rfl,fun x D2 hl=>xY b fv p x D2 (hp.up ((hD1 _ Ye).trans hl)) (hB.up ((hD1 _ Ye).trans hl))⟩) ?_))))))))));refine bV rfl rfl rfl trivial (Zj rfl (Zo (Zx (aC ?_))))
 exact Zc [_] rfl ⟨rfl,trivial⟩ (fun D hD=>by show Value.bool (!_)=_;rw[iR])
theorem xX(sv:Value)(x:Int)(xs:List Int)(D:aA)(hS:Sl D RI 1 sv (x::xs)):
  Fn Tryz.prog 109 #[sv] D (fun _ v=>v=.int .i64 (xs.foldl min x)):=by
 have hl:=hS.len;simp only[List.length_cons]at hl;refine enter 25 Tryz.func109 rfl rfl rfl rfl fun h0=>Zy (C.rg (Zj rfl (Zo (Zx (Zy (Zy (C.rg (Za rfl (aY rfl U25 rfl Yl rfl rfl trivial (Zaa rfl ?_))))))))));refine Zo (Zx (aH rfl (fun hc1=>?_) (fun hc1=>?_)))
 ·exact absurd hc1 (by simp only[List.length_cons];omega)
 ·refine Zac (Zx (Zy (C.rg (Za rfl (aJ rfl U25 Tf.s3 rfl Yl rfl Yd (by rfl) rfl trivial (fun b1 o1 cs1 hr1 hcl1 hA1=>?_))))));obtain rfl:cs1=[.int .i64 _]:=hr1;refine Zg 0 rfl Tf.a3 rfl hA1 rfl (Zj rfl (Zo (Zx (Zy (Zy (C.rg (Zj rfl (Zo (Zx (Zae (bS (γ:=Nat) (fun k=>xs.length-k) (fun k=>k≤xs.length) (fun k=>[(3,.int .i64 ((xs.take k).foldl min x)),(4,.int .i64 (k+1:Int))]) [(2,_),(0,_)] (fun k=>[D]) 0 Yd ⟨Yb,Yb,trivial⟩ C.rs (aG) ?_)))))))))));rintro k h1;refine Zy (Zy (C.rg (Za rfl (Za rfl (aY rfl U25 rfl Yl rfl rfl trivial (Zaa rfl (Zo (Zx (aH rfl (fun hc2=>?_) (fun hc2=>?_))))))))))
  ·simp only[List.length_cons]at hc2;have hk:k<xs.length:=by omega
   obtain⟨y,hy⟩:∃y,xs[k]?= some y:=⟨_,List.getElem?_eq_getElem hk⟩
   have hy2:(x::xs)[(k+1:Int).toNat]?= some y:=by rw[show((k:Int)+1).toNat=k+1 by omega];simpa using hy
   refine Zac (Zx (Zy (Zae (C.rg (Za rfl (Za rfl (Za rfl (aJ rfl U25 Tf.s3 rfl Yl rfl Yd Yl rfl trivial (fun b2 o2 cs2 hr2 hcl2 hA2=>?_)))))))));obtain rfl:cs2=[.int .i64 _]:=hr2;refine Zg 0 rfl Tf.a3 rfl hA2 rfl (IC rfl rfl rfl rfl trivial (Zj rfl (Zo (Zag (Zx (C.rg (Za rfl (Zt rfl (Zj rfl (Zo ?_))))))))));have h3:(xs.take (k+1)).foldl min x=min ((xs.take k).foldl min x) y:=by rw[List.take_add_one,hy,List.foldl_append];rfl
   exact aN 16 (k+1) Yd Yd ⟨(by rw[h3];rfl),Yb,trivial⟩ rfl rfl (List.Sublist.refl _) (aG)
  ·simp only[List.length_cons]at hc2;refine aZ (Zaf (Zaf (aE (Zx (Zy (C.rg (Za rfl (Zj rfl (Zo (Zx (aC ?_)))))))))));exact Zc [_] rfl ⟨rfl,trivial⟩ (fun D hD=>by show Value.int _ _=_;rw[List.take_of_length_le Yd])
theorem iY(sv:Value)(x:Int)(xs:List Int)(D:aA)(hS:Sl D RI 1 sv (x::xs)):
  Fn Tryz.prog 132 #[sv] D (fun _ v=>v=.int .i64 (xs.foldl min x)):=by
 refine enter 5 Tryz.func132 rfl rfl rfl rfl fun h0=>Zy (C.rg (Zj rfl (Zo (Zx (Zy (C.rg (Za rfl (Zd rfl (fun D1 hD1=>xX _ x xs _ (Sl.at RI.up hD1 Yl Ye)) (Zj rfl (Zo ?_))))))))));refine Zx (aC ?_)
 exact Zc [_] rfl ⟨rfl,trivial⟩ (fun D hD=>rfl)
end L1
end Go.Fs
namespace Go.Fs
open Go.Proofs
namespace L1
open C1
theorem R6{r:cS}(h:(decide ((9:Int)<r.places.length)||decide ((6:Int)<r.counts.length))=true):aV r=3:=by
 simp only[Bool.or_eq_true,decide_eq_true_eq]at h;unfold aV;rw[if_pos Yd]
theorem B4{r:cS}{b:Bool}(h:(decide ((9:Int)<r.places.length)||decide ((6:Int)<r.counts.length))=false)
  (h2:((((decide ((r.places.length:Int)=0)|| !eY r.wrong 0 6)|| !eY r.off 0 9)|| !r.places.all kZ)|| !r.counts.all (kV r.places.length))=b):aV r=if b then 1 else 0:=by
 simp only[Bool.or_eq_false_iff,decide_eq_false_iff_not]at h;unfold aV;rw[if_neg Yd]
 subst h2;by_cases h1:r.places.length=0<;>cases eY r.wrong 0 6<;>cases eY r.off 0 9<;>cases r.places.all kZ<;>cases r.counts.all (kV r.places.length)<;>simp[h1]
theorem uQ{r:cS}(h:(decide ((9:Int)<r.places.length)||decide ((6:Int)<r.counts.length))=false)
  (h2:((((decide ((r.places.length:Int)=0)|| !eY r.wrong 0 6)|| !eY r.off 0 9)|| !r.places.all kZ)|| !r.counts.all (kV r.places.length))=true):aV r=1:=B4 h h2
theorem pO{r:cS}(h:(decide ((9:Int)<r.places.length)||decide ((6:Int)<r.counts.length))=false)
  (h2:((((decide ((r.places.length:Int)=0)|| !eY r.wrong 0 6)|| !eY r.off 0 9)|| !r.places.all kZ)|| !r.counts.all (kV r.places.length))=false):aV r=0:=B4 h h2
theorem Y1{r:cS}{t:List Int}{k:Nat}{x:oW}(hx:r.counts[k]?= some x)(h2:(r.counts.take k).all (fun c=>decide (fN t c≤r.off))=true)(h:¬r.off<fN t x):(r.counts.take (k+1)).all (fun c=>decide (fN t c≤r.off))=true:=by
 rw[List.take_add_one,hx,List.all_append,h2];simp;omega
theorem R4{r:cS}{t:List Int}{k:Nat}{x:oW}(hx:r.counts[k]?= some x)(hb:0≤fN t x∧fN t x≤9):
  ((((r.counts.take (k+1)).filter fun c=>decide (0<fN t c)).length:Nat):Int)=((r.counts.take k).filter fun c=>decide (0<fN t c)).length+ [1].foldl min (fN t x):=by
 rw[List.take_add_one,hx,List.filter_append,List.length_append];by_cases h:0<fN t x
 ·simp[h];omega
 ·simp[h];omega
theorem GY{r:cS}{t:List Int}{x:oW}(hx:x∈r.counts)(h:r.off<fN t x):fO r t=false:=by
 unfold fO;rw[List.all_eq_false];exact⟨x,hx,by simp;omega⟩
theorem DK{r:cS}{t:List Int}(h:r.counts.all (fun c=>decide (fN t c≤r.off))=true):fO r t=true:=h
open C1
theorem Y2(rv:Value)(r:cS)(D:aA)(hr:jQ D rv r):Fn Tryz.prog 72 #[rv] D (fun _ v=>v=.int .i64 (aV r)):=by
 obtain⟨pv,cv,rfl,hp,hc⟩:=hr;refine enter 47 Tryz.func72 rfl rfl rfl rfl fun h0=>Zy (C.rg (Zr rfl (fun q1 E1 hE1 hB1=>Zj rfl (Zo (Zx (Zy (C.rg (Zq rfl Tf.a28 rfl hB1 Tf.s28 (bH rfl rfl rfl rfl trivial (Zj rfl ?_))))))))));refine Zo (Zx (Zy (Zae (Zy (C.rg (Zk rfl Tf.f28_0 rfl (Zg 0 rfl Tf.a25 rfl hB1 rfl (aY rfl U25 rfl Yl rfl rfl trivial (dO rfl rfl rfl rfl trivial (Za rfl ?_))))))))))
 refine' eI [(false,5),(false,6),(false,7),(false,8),(false,9)] [(false,10)] (s:=11) (p:=16) rfl rfl (fun hg1=>?_) (fun hg1=>?_) ?_;rotate_left
 ·refine Zl rfl Tf.f28_1 rfl (Zh 1 rfl Tf.a26 rfl hB1 rfl (aY rfl U26 rfl Yl rfl rfl ⟨_,rfl,rfl⟩ (dO rfl rfl rfl rfl ⟨_,rfl,rfl⟩ (Zw rfl ?_))));exact aF fun a w hh=>hh.cutK 4 rfl
 ·refine Zi rfl (Zi rfl (Zi rfl (Zi rfl (Zv rfl ?_))));exact aF fun a w hh=>hh.cutK 4 rfl
 refine Zj rfl (Zo (Zx (aP rfl (fun hc1=>?_) (fun hc1=>?_))))
 ·refine Zy (C.rg (Zj rfl (Zo (Zx (aC (aD (Zad ?_)))))));exact Zc [_] rfl ⟨rfl,trivial⟩ (fun D hD=>by show Value.int _ _=_;rw[R6 hc1])
 ·refine Zy (C.rg (Zk rfl Tf.f28_0 rfl (Zg 0 rfl Tf.a25 rfl hB1 rfl (aY rfl U25 rfl Yl rfl rfl trivial (eL rfl rfl rfl rfl trivial (Za rfl ?_))))));refine' eI [(false,5),(false,6),(false,7),(false,8),(false,9)] [(false,10),(false,11),(false,12),(false,13),(false,14),(false,15),(false,16),(false,17),(false,18),(false,19),(false,20),(false,21),(false,22),(false,23),(false,24),(false,25),(false,26),(false,27),(false,28),(false,29)] (s:=22) (p:=27) rfl rfl (fun hg2=>?_) (fun hg2=>?_) ?_;rotate_left
  ·refine Zl rfl Tf.f28_2 rfl (Zh 2 rfl Tf.a3 rfl hB1 rfl (Ze rfl (fun D1 hD1=>cX _ _ _ _) (bV rfl rfl rfl ⟨_,rfl,rfl⟩ (Zw rfl ?_))));exact aF fun a w hh=>hh.cutK 4 rfl
  ·refine Zi rfl (Zi rfl (Zi rfl (Zi rfl (Zv rfl ?_))));exact aF fun a w hh=>hh.cutK 4 rfl
  refine Za rfl ?_;refine' eI [(false,11),(false,12),(false,13),(false,14),(false,15)] [(false,16),(false,17),(false,18),(false,19),(false,20),(false,21),(false,22),(false,23),(false,24),(false,25),(false,26),(false,27),(false,28),(false,29)] (s:=28) (p:=33) rfl rfl (fun hg3=>?_) (fun hg3=>?_) ?_;rotate_left
  ·refine Zl rfl Tf.f28_3 rfl (Zh 3 rfl Tf.a3 rfl hB1 rfl (Ze rfl (fun D2 hD2=>cX _ _ _ _) (bV rfl rfl rfl ⟨_,rfl,rfl⟩ (Zw rfl ?_))));exact aF fun a w hh=>hh.cutK 4 rfl
  ·refine Zi rfl (Zi rfl (Zi rfl (Zi rfl (Zv rfl ?_))));exact aF fun a w hh=>hh.cutK 4 rfl
  refine Za rfl ?_;refine' eI [(false,17),(false,18),(false,19),(false,20),(false,21)] [(false,22),(false,23),(false,24),(false,25),(false,26),(false,27),(false,28),(false,29)] (s:=34) (p:=39) rfl rfl (fun hg4=>?_) (fun hg4=>?_) ?_;rotate_left
  ·refine Zl rfl Tf.f28_0 rfl (Zh 0 rfl Tf.a25 rfl hB1 rfl (Ze rfl (fun D3 hD3=>sR _ _ _ kZ _ (Sl.at RI.up hD3 Yl Ye) (.of fun x D2=>FU x D2) rfl) (bV rfl rfl rfl ⟨_,rfl,rfl⟩ (Zw rfl ?_))));exact aF fun a w hh=>hh.cutK 4 rfl
  ·refine Zi rfl (Zi rfl (Zi rfl (Zi rfl (Zv rfl ?_))));exact aF fun a w hh=>hh.cutK 4 rfl
  refine Za rfl ?_;refine' eI [(false,23),(false,24),(false,25),(false,26),(false,27),(false,28)] [(false,29)] (s:=40) (p:=46) rfl rfl (fun hg5=>?_) (fun hg5=>?_) ?_;rotate_left
  ·refine Zl rfl Tf.f28_1 rfl (Zh 1 rfl Tf.a26 rfl hB1 rfl (Zb rfl (Ze rfl (fun D4 hD4=>M9 _ _ _ (kV r.places.length) _ (Sl.at RC.up hD4 Yl Ye) ⟨_,[_],[],rfl,fun c D2 hl=>JG _ r c D2 ⟨_,_,rfl,hp.up RI.up ((hD4 _ Ye).trans hl),hc.up RC.up ((hD4 _ Ye).trans hl)⟩⟩ rfl) (bV rfl rfl rfl ⟨_,rfl,rfl⟩ (Zw rfl ?_)))));exact aF fun a w hh=>hh.cutK 5 rfl
  ·refine Zi rfl (Zi rfl (Zi rfl (Zi rfl (Zi rfl (Zv rfl ?_)))));exact aF fun a w hh=>hh.cutK 5 rfl
  refine Zj rfl (Zo (Zx (aP rfl (fun hc2=>?_) (fun hc2=>?_))))
  ·refine Zy (C.rg (Zj rfl (Zo (Zx (aC (aD (Zad ?_)))))));exact Zc [_] rfl ⟨rfl,trivial⟩ (fun D hD=>by show Value.int _ _=_;rw[uQ hc1 hc2])
  ·refine Zac (Zag (Zx (Zy (C.rg (Zj rfl (Zo (Zx (aC ?_))))))));exact Zc [_] rfl ⟨rfl,trivial⟩ (fun D hD=>by show Value.int _ _=_;rw[pO hc1 hc2])
theorem OD(c:List Int)(h9:c.length=9)(hb:∀x∈c,0≤x∧x≤1)(D:aA):Fn Tryz.prog 75 #[.agg (ints c).toArray] D (fun _ v=>v=.agg (ints (iF c)).toArray):=by
 refine enter 20 Tryz.func75 rfl rfl rfl rfl fun h0=>Zy (C.rg (Zr rfl (fun q1 E1 hE1 hB1=>Zu rfl Tf.z167 rfl (fun q2=>Zo (Zx (Zy (Zy (C.rg (Zq rfl Tf.a163 rfl hB1 (by first|exact Tf.s163|(simp only[aQ, *];exact Tf.s163)) (Za rfl ?_))))))))));refine Zo (Zx (Zae (cZ (γ:=Nat) (fun k=>9-k) (fun k=>k≤9) (fun k=>[(6,.int .i64 (k:Int))]) [(5,_),(2,_)] (fun k=>[(q2,.cells (ints (kC c k)).toArray 167 (0,0))]) (fun k=>[E1,D]) 0 Yd ⟨Yb,trivial⟩ C.rs (List.Sublist.refl _) (aG) ?_)))
 rintro k h1;refine Zy (C.rg (Zaa rfl (Zo (Zx (Zy (aH rfl (fun hc1=>?_) (fun hc1=>?_)))))))
 ·have hk:k<9:=by omega
  obtain⟨x,hx⟩:∃x,c[k]?= some x:=⟨_,List.getElem?_eq_getElem Yd⟩
  have hx1:=hb x (List.mem_of_getElem? hx);have hx2:=eA hb 0 k;have hg1:=S1 c k Yd;have hlen:=xZ c k;refine Zac (Zx (Zy (Zae (Zy (C.rg (Za rfl (T6 rfl U163 Tf.a3 Tf.s3 rfl rfl Yd Yd Yl rfl trivial (Zj rfl (Zj rfl (Zo (Zx ?_)))))))))));refine C.rg (Za rfl (Zt rfl (Za rfl (bR rfl U167 Tf.s3 rfl rfl Yd Yd rfl trivial (aU rfl Tf.a3 rfl (List.Mem.head _) (cJ Yl) List.not_mem_nil rfl trivial (Za rfl (Zt rfl (bR rfl U167 Tf.s3 rfl rfl Yd Yd rfl trivial (wK rfl Tf.s3 rfl rfl (cY.head) (by simp only[*];omega) trivial (Zo (Zag ?_)))))))))));refine Zx (C.rg (Zt rfl (Za rfl (Zo ?_))));rw[←sE (by simpa using hx),show((k:Int)+1).toNat=k+1 by omega,V7];exact aN 16 (k+1) Yd Yd ⟨Yb,trivial⟩ rfl rfl (List.Sublist.refl _) (aG)
 ·obtain rfl:k=9:=by omega
  rw[N5];have hlen:=kA c;refine aZ (Zaf (Zaf (aE (Zx (Zy (C.rg (aX rfl Tf.a167 rfl (List.Mem.head _) (by first|exact Tf.s167|(simp only[aQ, *];exact Tf.s167)) List.not_mem_nil rfl trivial (bL rfl rfl rfl rfl Tf.s167 Ya Ya (cY.head) (fF _) trivial (Zo (Zx (aC ?_)))))))))))
  exact Zc [_] rfl ⟨⟨_,_,_,rfl,(List.Mem.head _),Or.inr ⟨Tf.a167,(by first|exact Tf.s167|(simp only[List.size_toArray,aQ, *];exact Tf.s167)),rfl⟩⟩,trivial⟩ (fun D hD=>rfl)
theorem QF(rv:Value)(r:cS)(c:oW)(t:List Int)(D:aA)(hr:jQ D rv r)(hok:lH r)(ht:mF r t)(hcm:c∈r.counts):
  Fn Tryz.prog 211 #[rv,cV c,.agg (ints (iF t)).toArray] D (fun _ v=>v=.int .i64 (fN t c)):=by
 obtain⟨pv,cv,rfl,hp,hc⟩:=hr;obtain⟨h1,h2,h3,h4⟩:=hok.cnt c hcm;have h9:=hok.len9;have hab:=vC ht h1 h2 h9;have hs1:=i1 ht h1 h2;have hg1:=lQ t c.many.toNat Yd;have hg2:=lQ t r.places.length Yd;have hg3:=lQ t (r.places.length-c.many.toNat) Yd;have hg4:(iF t)[(↑r.places.length-c.many).toNat]?= some (cN t 0 (r.places.length-c.many.toNat)):=by rw[show(↑r.places.length-c.many).toNat=r.places.length-c.many.toNat by omega];exact hg3
 rw[ht.1]at hs1;have hb1:=eA ht.2 0 r.places.length;have hb2:=eA ht.2 0 (r.places.length-c.many.toNat);have hb3:=eA ht.2 0 c.many.toNat;refine enter 37 Tryz.func211 rfl rfl rfl rfl fun h0=>Zy (C.rg (Zr rfl (fun q1 E1 hE1 hB1=>Zr rfl (fun q2 E2 hE2 hB2=>Zr rfl (fun q3 E3 hE3 hB3=>Zj rfl (Zo (Zx (Zy (C.rg (Zk rfl Tf.f142_1 rfl ?_))))))))));refine Zg 1 rfl Tf.a3 rfl hB2 rfl (bR rfl U167 Tf.s3 rfl rfl Yd Yd rfl trivial (fC rfl Tf.a3 rfl hB3 Ye (cJ hg1) List.not_mem_nil rfl trivial (Zj rfl (Zo (Zx (Zy (Zy (C.rg (Zk rfl Tf.f28_0 rfl (Zg 0 rfl Tf.a25 rfl hB1 rfl (aY rfl U25 rfl Yl rfl rfl trivial ?_)))))))))));refine Zj rfl (Zo (Zx (Zy (C.rg (Zk rfl Tf.f142_0 rfl (Zg 0 rfl Tf.a4 rfl hB2 rfl (Zo (Zx (aP rfl (fun hc1=>?_) (fun hc1=>?_))))))))))
 ·rw[if_pos hc1]at hs1;refine C.drawA [] 5 11 504 (fun _ _ _ h=>dI (P:=Tryz.prog) (fn:=Tryz.f211) _ _ _ h) (Za rfl (bR rfl U167 Tf.s3 rfl rfl Yd Yd rfl trivial (fC rfl Tf.a3 rfl hB3 Ye (cJ hg2) List.not_mem_nil rfl trivial (Za rfl (Zk rfl Tf.f142_1 rfl (Zg 1 rfl Tf.a3 rfl hB2 rfl (fW rfl rfl rfl Yf rfl trivial (bR rfl U167 Tf.s3 rfl rfl Yd Yd rfl trivial (fC rfl Tf.a3 rfl hB3 Ye (cJ hg4) List.not_mem_nil rfl trivial (fW rfl rfl rfl Yf rfl trivial (Zj rfl ?_)))))))))));refine Zo (Zx (Zy (C.rg (Za rfl (Zk rfl Tf.f142_2 rfl (Zg 2 rfl Tf.a3 rfl hB2 rfl (fW rfl rfl rfl Yf rfl trivial (Zk rfl Tf.f142_2 rfl (Zg 2 rfl Tf.a3 rfl hB2 rfl (Za rfl (fW rfl rfl rfl Yf rfl trivial ?_)))))))))));refine mT rfl rfl rfl rfl trivial (Zj rfl (Zo (Zx (aC ?_))));exact Zc [_] rfl ⟨rfl,trivial⟩ (fun D hD=>by show Value.int _ _=_;rw[←hs1];rfl)
 ·rw[if_neg (by simp[hc1])]at hs1;refine Zac (Zx (Zy (C.rg (Za rfl (Zk rfl Tf.f142_2 rfl (Zg 2 rfl Tf.a3 rfl hB2 rfl (fW rfl rfl rfl Yf rfl trivial (Zk rfl Tf.f142_2 rfl (Zg 2 rfl Tf.a3 rfl hB2 rfl (Za rfl (fW rfl rfl rfl Yf rfl trivial ?_)))))))))));refine mT rfl rfl rfl rfl trivial (Zj rfl (Zo (Zx (aC ?_))));exact Zc [_] rfl ⟨rfl,trivial⟩ (fun D hD=>by show Value.int _ _=_;rw[←hs1];rfl)
theorem EU(rv:Value)(r:cS)(t:List Int)(D:aA)(hr:jQ D rv r)(hok:lH r)(ht:mF r t):
  Fn Tryz.prog 131 #[rv,.agg (ints (iF t)).toArray] D (fun D' v=>Sl D' RI 1 v (r.counts.map (fN t))):=by
 obtain⟨pv,cv,rfl,hp,hc⟩:=hr;have h6:=hok.cnt6;have hsl:=kA t;refine enter 23 Tryz.func131 rfl rfl rfl rfl fun h0=>Zy (C.rg (Zr rfl (fun q1 E1 hE1 hB1=>Zr rfl (fun q2 E2 hE2 hB2=>Zj rfl (Zo (Zx (Zy (Zy (C.rg (Zk rfl Tf.f28_1 rfl ?_))))))))));refine Zg 1 rfl Tf.a26 rfl hB1 rfl (aY rfl U26 rfl Yl rfl rfl trivial (Za rfl (Zo (Zx (Zae (cZ (γ:=Nat×Value×aB) (fun g=>r.counts.length-g.1) (fun g=>g.1≤r.counts.length∧bC 3 1 g.2.1 g.1 (ints ((r.counts.take g.1).map (fN t))) g.2.2) (fun g=>[(10,.int .i64 (g.1:Int)),(4,g.2.1)]) [(9,_),(8,_),(3,_),(2,_)] (fun g=>g.2.2++[]) (fun g=>[E2,E1,D]) (0,.slice none 0 0,[]) ⟨by simp,by simpa [ints]using bC.nil⟩ ⟨Yb,Yb,trivial⟩ C.rs (List.Sublist.refl _) (aG) ?_))))))
 rintro⟨k,v,ν⟩ ⟨h1,ha⟩;refine Zy (C.rg (Zaa rfl (Zo (Zx (Zy (aH rfl (fun hc1=>?_) (fun hc1=>?_)))))))
 ·have hk:k<r.counts.length:=by omega
  obtain⟨x,hx⟩:∃x,r.counts[k]?= some x:=⟨_,List.getElem?_eq_getElem hk⟩
  have hxm:=List.mem_of_getElem? hx;refine Zac (Zx (Zy (Zae (Zy (C.rg (aJ rfl U26 Tf.s142 rfl Yl rfl Yd Yl rfl trivial (fun b1 o1 cs1 hr1 hcl1 hA1=>?_)))))));obtain rfl:cs1=[.bool _,.int .i64 _,.int .i64 _]:=hr1;refine Zq rfl Tf.a142 rfl hA1 Tf.s142 (Zu rfl Tf.z142 rfl (fun q3=>Zs rfl Tf.s142 (cY.head) (Zo (Zx (C.rg (Za rfl (Zq rfl Tf.a28 rfl hB1 Tf.s28 (aX rfl Tf.a142 rfl (List.Mem.head _) Tf.s142 List.not_mem_nil rfl trivial (cU rfl Tf.a167 rfl hB2 Yc (by first|exact Tf.s167|(simp only[aQ, *];exact Tf.s167)) List.not_mem_nil rfl trivial (Zd rfl (fun D1 hD1=>QF _ r x t _ ⟨_,_,rfl,hp.up RI.up (hD1 _ Ye),hc.up RC.up (hD1 _ Ye)⟩ hok ht hxm) (Zm rfl U25 Tf.s3 Tf.z3 rfl rfl rfl rfl (.cons rfl rfl .nil) (fun b901 D901 hD901 hA901=>?_))))))))))))
  have hS901:=Sl.ofInts (l:=[_]) (n:=1) (cap:=1) hA901 rfl Yd Yd;refine aS (A:=[(_,_)]) (B:=_) rfl U25 rfl rfl Tf.s3 Tf.z3 rfl Tf.i3 rfl rfl rfl ha (iG.lit hA901) Ye rfl Yaa Ym Yd (Or.inl rfl) rfl trivial (fun v1 ν1 ha1=>?_);have ha2:bC 3 1 v1 (k+1) (ints ((r.counts.take (k+1)).map (fN t))) ν1:=by rw[List.take_add_one,hx,Option.toList_some,List.map_append,←eG];exact ha1
  refine Zj rfl (Zo (Zag (Zx (C.rg (Zt rfl (Za rfl (Zo ?_)))))));exact aN 16 (k+1,v1,ν1) ⟨by simp only;omega,ha2⟩ Yo ⟨Yb,Yb,trivial⟩ rfl rfl (List.Sublist.cons _ (List.Sublist.refl _)) (fun D h=>⟨D,List.Mem.tail _ (h),Le.refl D⟩)
 ·obtain rfl:k=r.counts.length:=by omega
  rw[List.take_length]at ha;refine aZ (Zaf (Zaf (aE (Zx (Zy (C.rg (Za rfl (Zj rfl (Zo (Zx (aC ?_)))))))))));refine eW (A:=[]) (B:=[]) ha rfl (fun D2 hD2 hF=>?_);exact Zc [_] rfl ⟨rfl,trivial⟩ (fun D hD=>(hF.ints Ye Yd).up RI.up (hD _ Ye))
theorem JN(rv:Value)(r:cS)(t:List Int)(D:aA)(hr:jQ D rv r)(hok:lH r)(ht:mF r t):
  Fn Tryz.prog 74 #[rv,.agg (ints (iF t)).toArray] D (fun _ v=>v=.tuple #[.int .i64 (if fO r t then(tL r t:Int)else 0),.bool (fO r t)]):=by
 obtain⟨pv,cv,rfl,hp,hc⟩:=hr;have h6:=hok.cnt6;have hsl:=kA t;refine enter 27 Tryz.func74 rfl rfl rfl rfl fun h0=>Zy (C.rg (Zr rfl (fun q1 E1 hE1 hB1=>Zr rfl (fun q2 E2 hE2 hB2=>Zj rfl (Zj rfl (Zo (Zx (Zy (Zy (C.rg ?_))))))))));refine Zq rfl Tf.a28 rfl hB1 Tf.s28 (cU rfl Tf.a167 rfl hB2 Yc (by first|exact Tf.s167|(simp only[aQ, *];exact Tf.s167)) List.not_mem_nil rfl trivial (cW rfl rfl rfl (fun D1 hD1=>EU _ r t _ ⟨_,_,rfl,hp.up RI.up (hD1 _ Ye),hc.up RC.up (hD1 _ Ye)⟩ hok ht) rfl trivial (fun v1 D1 hD1 hp1=>aY rfl U25 rfl hp1 rfl rfl trivial (Za rfl (Zo (Zx (Zae (bS (γ:=Nat) (fun k=>r.counts.length-k) (fun k=>k≤r.counts.length∧(r.counts.take k).all (fun c=>decide (fN t c≤r.off))=true) (fun k=>[(12,.int .i64 (k:Int)),(4,.int .i64 (((r.counts.take k).filter fun c=>decide (0<fN t c)).length:Int))]) [(11,_),(10,_),(5,_),(2,_)] (fun k=>[D1,E2,E1,D]) 0 Ye ⟨Yb,Yb,trivial⟩ C.rs (aG) ?_))))))))
 rintro k ⟨h1,h2⟩;refine Zy (C.rg (Zaa rfl (Zo (Zx (Zy (aH rfl (fun hc1=>?_) (fun hc1=>?_)))))))
 ·simp only[List.length_map]at hc1;have hk:k<r.counts.length:=by omega
  obtain⟨x,hx⟩:∃x,r.counts[k]?= some x:=⟨_,List.getElem?_eq_getElem hk⟩
  have hxm:=List.mem_of_getElem? hx;have hx2:(r.counts.map (fN t))[k]?= some (fN t x):=by rw[List.getElem?_map,hx];rfl
  have hxb:=T2 hok ht hxm;have hlf:=List.length_filter_le (fun c=>decide (0<fN t c)) (r.counts.take k);have hlt:(r.counts.take k).length≤k:=List.length_take_le _ _;refine Zac (Zx (Zy (Zae (Zy (C.rg (aJ rfl U25 Tf.s3 rfl hp1 rfl Yd hx2 rfl trivial (fun b1 o1 cs1 hr1 hcl1 hA1=>?_)))))));obtain rfl:cs1=[.int .i64 _]:=hr1;refine Zg 0 rfl Tf.a3 rfl hA1 rfl (Zj rfl (Zo (Zx (Zy (Zy (C.rg (Za rfl (Zk rfl Tf.f28_3 rfl (Zg 3 rfl Tf.a3 rfl hB1 rfl (dO rfl rfl rfl rfl trivial (Zo ?_)))))))))));refine Zx (aH rfl (fun hc2=>?_) (fun hc2=>?_))
  ·refine Zy (C.rg (Zj rfl (Zj rfl (Zo (Zx (aC (Zad (aD (Zad (Zad (aD ?_)))))))))));refine Zad ?_;exact Zc [_,_] rfl C.rs (fun D hD=>by show Value.tuple _=_;rw[GY hxm hc2];rfl)
  ·refine Zac (Zx (C.rg (Za rfl (Za rfl (Zm rfl U25 Tf.s3 Tf.z3 rfl rfl rfl rfl (.cons rfl rfl (.cons rfl rfl .nil)) (fun b901 D901 hD901 hA901=>?_))))));have hS901:=Sl.ofInts (l:=[_,_]) (n:=2) (cap:=2) hA901 rfl Yd Yd;refine Zd rfl (fun D2 hD2=>iY _ (fN t x) [1] _ (hS901.up RI.up (hD2 _ Ye))) (AE rfl rfl rfl (by simp only[qD,List.foldl_cons,List.foldl_nil];omega) rfl trivial (Zj rfl (Zo (Zag (Zx (C.rg (Zt rfl (Za rfl (Zo ?_)))))))))
   exact aN 18 (k+1) ⟨by omega,Y1 hx h2 hc2⟩ Yd ⟨Yb,(by rw[R4 hx hxb];rfl),trivial⟩ rfl rfl (List.Sublist.refl _) (fun D h=>⟨D,List.Mem.tail _ (h),Le.refl D⟩)
 ·simp only[List.length_map]at hc1;obtain rfl:k=r.counts.length:=by omega
  rw[List.take_length]at h2;refine aZ (Zaf (Zaf (aE (Zx (Zy (C.rg (Za rfl (Zj rfl (Zj rfl (Zo (Zx ?_)))))))))));refine aC ?_;exact Zc [_,_] rfl C.rs (fun D hD=>by show Value.tuple _=_;rw[DK h2,List.take_length];rfl)
theorem yG(t:List Int)(D:aA)(h:t.length≤9)(hb:∀x∈t,0≤x∧x≤1):Fn Tryz.prog 75 #[.agg (ints (eQ t)).toArray] D (fun _ v=>v=.agg (ints (iF t)).toArray):=
 (OD (eQ t) (eE h) (c6 hb) D).mono fun _ v _ hv=>by rw[hv,m6]
end L1
end Go.Fs
namespace Go.Fs
open Go.Proofs
namespace L12
def dE(code:Int):Value:=.iface 224 (.agg #[.int .i64 code])
theorem CM(sv:Value)(xs:List Bool)(b:Bool)(D:aA)(hS:Sl D RB 1 sv xs):Fn Tryz.prog 245 #[sv,.bool b] D (fun _ v=>v=.int .i64 (idxOf (fun x=>b==x) xs)):=by
 have hl:=hS.len;refine enter 19 Tryz.func245 rfl rfl rfl rfl fun h0=>Zy (C.rg (Zj rfl (Zo (Zx (Zy (Zy (C.rg (Za rfl (aY rfl U277 rfl Yl rfl rfl trivial (Za rfl ?_))))))))));refine Zo (Zx (Zae (bS (γ:=Nat) (fun k=>xs.length-k) (fun k=>k≤xs.length∧(xs.take k).any (fun x=>b==x)=false) (fun k=>[(8,.int .i64 k)]) [(7,_),(4,_),(0,_),(1,_)] (fun k=>[D]) 0 Ye ⟨Yb,trivial⟩ C.rs (aG) ?_)))
 rintro k ⟨h1,h2⟩;refine Zy (C.rg (Zaa rfl (Zo (Zx (Zy (aH rfl (fun hc1=>?_) (fun hc1=>?_)))))))
 ·have hk:k<xs.length:=by omega
  obtain⟨x,hx⟩:∃x,xs[k]?= some x:=⟨_,List.getElem?_eq_getElem hk⟩
  refine Zac (Zx (Zy (Zae (Zy (C.rg (Za rfl (Zj rfl (Zo (Zx (Zy (C.rg ?_)))))))))));refine Za rfl (Za rfl (Za rfl (aJ rfl U277 Tf.s4 rfl Yl rfl Yd Yl rfl trivial (fun b1 o1 cs1 hr1 hcl1 hA1=>?_))));obtain rfl:cs1=[.bool _]:=hr1;refine Zg 0 rfl Tf.a4 rfl hA1 rfl (RE rfl U4 rfl rfl rfl trivial (Zo (Zx (aP rfl (fun hc2=>?_) (fun hc2=>?_)))))
  ·refine Zy (C.rg (Za rfl (Zj rfl (Zo (Zx (aC (aD (Zad (Zad (aD (Zad ?_)))))))))));exact Zc [_] rfl ⟨rfl,trivial⟩ (fun D hD=>by show Value.int _ _=_;rw[L1.fV hx h2 hc2])
  ·refine Zac (Zag (Zx (C.rg (Zt rfl (Za rfl (Zo ?_))))));have h3:(xs.take (k+1)).any (fun x=>b==x)=false:=by rw[List.take_add_one,hx,List.any_append,h2];simpa using hc2
   exact aN 12 (k+1) ⟨by omega,h3⟩ Yd ⟨Yb,trivial⟩ rfl rfl (List.Sublist.refl _) (aG)
 ·refine aZ (Zaf (Zaf (aE (Zx (Zy (C.rg (Zj rfl (Zo (Zx (aC ?_))))))))));exact Zc [_] rfl ⟨rfl,trivial⟩ (fun D hD=>by show Value.int _ _=_;rw[L1.dX Yx])
theorem J5(sv:Value)(xs:List Bool)(b:Bool)(D:aA)(hS:Sl D RB 1 sv xs):Fn Tryz.prog 199 #[sv,.bool b] D (fun _ v=>v=.bool (xs.any fun x=>b==x)):=by
 refine enter 9 Tryz.func199 rfl rfl rfl rfl fun h0=>Zy (C.rg (Zj rfl (Zo (Zx (Zy (C.rg (Za rfl (Za rfl (Zd rfl (fun D1 hD1=>CM _ xs b _ (Sl.at RB.up hD1 Yl Ye)) (kX rfl rfl rfl rfl trivial ?_))))))))));refine Zj rfl (Zo (Zx (aC ?_)))
 exact Zc [_] rfl ⟨rfl,trivial⟩ (fun D hD=>by show Value.bool (decide _)=_;rw[L1.fT])
theorem dG(code:Int)(cs:List Bool)(sv:Value)(D:aA)(hS:Sl D RB 1 sv cs):iL Tryz.prog 121 [.int .i64 code,sv] D [] (fun _ _ ν'=>cs.any (fun x=>true==x)=false∧ν'=[]) (fun v=>cs.any (fun x=>true==x)=true∧v=dE code):=by
 refine dJ 9 Tryz.func121 rfl rfl rfl rfl (fun h0 hwl hwn=>Zy (C.rg (Za rfl (Zd rfl (fun D1 hD1=>J5 _ cs true _ (hS.up RB.up (hD1 _ Ye))) (Zo (Zx (aP rfl (fun hc1=>?_) (fun hc1=>?_))))))))
 ·refine C.rg (Za rfl (Zp [.int .i64 code] rfl Tf.p224 Tf.z224 rfl rfl (SS rfl U224 rfl rfl trivial ?_)));exact MY rfl rfl trivial (bK rfl ⟨hc1,rfl⟩)
 ·refine Zac ?_;exact dC (A:=[]) (ν':=[]) (B:=[]) (vs:=[]) rfl rfl rfl trivial (fun D' hD=>⟨hc1,rfl⟩)
end L12
end Go.Fs
namespace Go.Fs
open Go.Proofs
namespace L1
open C1
def eO(br bY bc bh:Nat)(c:List Int):aB:=[(bh,.cells [.func (.func 130) #[] #[.pointer (some ⟨br,0,none⟩),.pointer (some ⟨bY,0,none⟩),.pointer (some ⟨bc,0,none⟩),.pointer (some ⟨bh,0,none⟩)]].toArray 108 (0,0)),(bc,.cells (ints c).toArray 163 (0,0))]
theorem lK{c pre:List Int}{i:Nat}{k:Int}(h:c.take (i+1)=pre++[k])(hl:pre.length=i):c.take i=pre:=by
 have:=congrArg (List.take i) h;rw[List.take_take,Nat.min_eq_left (Nat.le_succ i)]at this;rw[this,List.take_append_of_le_length Yd,List.take_of_length_le Yd]
def Z5(x:List Int):List Value:=[.agg (ints x).toArray]
def AI(P:Program)(Dr:aA)(lo l:Nat)(J Jx:List (List Int)→oU)(xs:List (List Int)):Prop:=∀pre x β D w,(∃r,xs=pre++x::r)→uS lo D w→J pre β D w→(∀b∈β,b<w.heap.size)→Le Dr D→
    gH P l (Z5 x) w fun b D' w'=>uS lo D' w'∧uK β D w D' w'∧(if b then J (pre++[x]) β D' w' else Jx (pre++[x]) β D' w')
def sI(J Jx:List (List Int)→oU)(br bY bc bh:Nat)(places:List Int)(pre:List Int)(i:Nat)(done:List (List Int))(v:Value)(J':oU)(μ':aB):Prop:=
 ∃b c',v=.bool b∧c'.length=9∧c'.take i=pre∧c'.drop places.length=List.replicate (9-places.length) 0∧μ'=eO br bY bc bh c'∧(if b=true then J'=J (done++(bX (places.drop i)).map fun t=>eQ (pre++t))else ∃p,J'=Jx p)
theorem nM{lo l:Nat}{J Jx:List (List Int)→oU}{places:List Int}{xs:List (List Int)}{Dr Dy:aA}{Ds:List aA}{br bY bc bh:Nat}{pv cv:Value}{w1 w2:Int}(hn9:places.length≤9)
  (hs:∀pre,vS lo (J pre)) (hsx:∀pre,vS lo (Jx pre)) (hY:AI Tryz.prog Dr lo l J Jx xs) (hDr:Dr∈Ds) (hDy:Dy∈Ds) (hA:At Dr br 0 [pv,cv,.int .i64 w1,.int .i64 w2]) (hpl:Sl Dr RI 1 pv places) (hB:At Dy bY 0 [.func (.yield l) #[] #[]]):
  ∀(j i:Nat) (pre c:List Int) (done rest:List (List Int)) (iv:Int),iv=i→i+j=places.length→pre.length=i→c.length=9→c.take i=pre→c.drop places.length=List.replicate (9-places.length) 0→
   xs=done++(bX (places.drop i)).map (fun t=>eQ (pre++t))++rest→
   SW Tryz.prog 130 [.int .i64 iv,.pointer (some ⟨br,0,none⟩),.pointer (some ⟨bY,0,none⟩),.pointer (some ⟨bc,0,none⟩),.pointer (some ⟨bh,0,none⟩)] lo (J done) (eO br bY bc bh c) Ds (sI J Jx br bY bc bh places pre i done):=by
 intro j;induction j using Nat.strongRecOn with
 |_ j ih=>
 intro i pre c done rest iv hiv hij hl h9 hp hz hxs;subst hiv;have hmx:=hpl.len;refine xV (μ:=eO br bY bc bh c) 41 Tryz.func130 rfl rfl rfl rfl (Zy (C.rg (Zj rfl (Zo (Zx (Zy (Zy (C.rg (Za rfl (Zk rfl Tf.f28_0 rfl (Zg 0 rfl Tf.a25 rfl hA rfl ?_)))))))))));refine aY rfl U25 rfl Yl rfl rfl trivial (eL rfl rfl rfl rfl trivial (Zo (Zx (aH rfl (fun hc1=>?_) (fun hc1=>?_)))))
 ·have hin:i=places.length:=by omega
  subst hin;have hleaf:=(P1 h9 hp hl hz).symm;rw[List.drop_length]at hxs;simp only[bX,List.map_cons,List.map_nil,List.append_nil]at hxs;rw[hleaf,List.append_assoc,List.singleton_append]at hxs;refine Zy (C.rg (Zg 0 rfl Tf.a240 rfl hB rfl (aX rfl Tf.a163 rfl (List.Mem.tail _ (List.Mem.head _)) (by first|exact Tf.s163|(simp only[aQ, *];exact Tf.s163)) List.not_mem_nil rfl trivial (W4 (l:=l) (J1:=J (done++[c])) (J0:=Jx (done++[c])) rfl rfl rfl rfl (hs _) (hsx _) (fun D w hd hJ hb hl=>hY done c _ D w ⟨rest,hxs⟩ hd hJ (fun b hbm=>by obtain⟨p,hp,rfl⟩:=List.mem_map.1 hbm;exact hb p hp) (hl _ hDr)) rfl trivial (fun b1 J1 hJ1=>Zj rfl (Zo (Zx (aC (Zad ?_)))))))))
  exact kT (P:=Tryz.prog) (fn:=Tryz.f130) (N:=41) (vs:=[_]) rfl rfl ⟨rfl,trivial⟩ (fun D h=>⟨D,h,Le.refl D⟩) ⟨b1,c,rfl,h9,hp,hz,rfl,by cases b1<;>simp only[hJ1,if_true,Bool.false_eq_true,if_false];exact⟨_,rfl⟩;simp[bX,hleaf]⟩
 ·have hin:i<places.length:=by omega
  obtain⟨p,hpi⟩:∃p,places[i]?= some p:=⟨_,List.getElem?_eq_getElem hin⟩
  have hd:places.drop i=p::places.drop (i+1):=by rw[List.drop_eq_getElem_cons hin];congr 1;exact Option.some.inj ((List.getElem?_eq_getElem hin).symm.trans hpi)
  rw[hd,←AR]at hxs;refine Zac (Zx (Zy (Zy (C.rg (Za rfl (Zo (Zx (Zae (L5 (γ:=Nat×List Int) (fun g=>2-g.1) (fun g=>g.1≤2∧g.2.length=9∧g.2.take i=pre∧g.2.drop places.length=List.replicate (9-places.length) 0) (fun g=>J (done++S0 p (places.drop (i+1)) pre g.1)) (fun g=>[(17,.int .i64 (g.1:Int))]) [(6,_),(0,_),(1,_),(3,_),(4,_)] (fun g=>eO br bY bc bh g.2) (fun g=>Ds) (0,c) ⟨by simp,h9,hp,hz⟩ (by simp[LL]) ⟨Yb,trivial⟩ C.rs (List.Sublist.refl _) (aG) ?_)))))))));rintro⟨k,c1⟩ ⟨h11,h91,hp1,hz1⟩;refine Zy (C.rg (Zaa rfl (Zo (Zx (Zy (aH rfl (fun hc2=>?_) (fun hc2=>?_)))))))
  ·refine Zac (Zx (Zy (Zae (Zy (C.rg (Za rfl (Zj rfl (Zo (Zx (Zy (C.rg ?_)))))))))));refine Zk rfl Tf.f28_0 rfl (Zg 0 rfl Tf.a25 rfl hA rfl (Za rfl (aJ rfl U25 Tf.s3 rfl hpl rfl Yd hpi rfl trivial (fun b1 o1 cs1 hr1 hcl1 hA1=>?_))));obtain rfl:cs1=[.int .i64 _]:=hr1;refine Zg 0 rfl Tf.a3 rfl hA1 rfl (Zj rfl (Zo (Zx (Zy (C.rg (Za rfl (eL rfl rfl rfl rfl trivial (Za rfl ?_))))))));refine' eI [(false,3),(false,4),(false,5),(false,6)] [] (s:=27) (p:=31) rfl rfl (fun hg1=>?_) (fun hg1=>?_) ?_;rotate_left
   ·refine Zb rfl (Zb rfl (eL rfl rfl rfl rfl ⟨_,rfl,rfl⟩ (Zw rfl ?_)));exact aF fun a w hh=>hh.cutK 3 rfl
   ·refine Zi rfl (Zi rfl (Zi rfl (Zv rfl ?_)));exact aF fun a w hh=>hh.cutK 3 rfl
   refine Zo (Zx (aP rfl (fun hc3=>?_) (fun hc3=>?_)))
   ·have hpk:p=2∨p=(k:Int):=by simpa using hc3
    obtain⟨rr,hr⟩:=LN (p:=p) (ps:=places.drop (i+1)) (pre:=pre) (k:=k) Yd;have hset:=q8 (k:=(k:Int)) h91 hin hn9 hp1 hz1;refine Zy (C.rg (Za rfl (Za rfl (bR rfl U163 Tf.s3 rfl rfl Yd Yd rfl trivial (wK rfl Tf.s3 rfl rfl (.tail (cY.head)) (by simp only[*];omega) trivial (Zo (Zx (Zy (C.rg (Zn rfl Tf.a108 rfl (List.Mem.head _) rfl (Za rfl ?_)))))))))));refine Zt rfl (qI rfl rfl rfl rfl (ih (j-1) Yd (i+1) (pre++[(k:Int)]) (c1.set i k) (done++S0 p (places.drop (i+1)) pre k) (rr++rest) (i+1:Int) Yd Yd Yaa hset.1 hset.2.1 hset.2.2 (by rw[hxs,hr,AA hpk];simp)) rfl trivial ?_)
    rintro _ J2 _ ⟨b2,c2,rfl,h9',hp',hz',rfl,hJ2⟩;refine bV rfl rfl rfl trivial (Zo (Zx (aP rfl (fun hc4=>?_) (fun hc4=>?_))))
    ·obtain rfl:b2=false:=by simpa using hc4
     refine Zy (C.rg (Zj rfl (Zo (Zx (aC (aD (Zad (Zad (aD (Zad ?_))))))))));exact kT (P:=Tryz.prog) (fn:=Tryz.f130) (N:=41) (vs:=[_]) rfl rfl ⟨rfl,trivial⟩ (fun D h=>⟨D,h,Le.refl D⟩) ⟨false,c2,rfl,h9',lK hp' hl,hz',rfl,by simpa using hJ2⟩
    ·obtain rfl:b2=true:=by simpa using hc4
     refine Zac (Zag (Zx (C.rg (Zt rfl (Za rfl (Zo ?_))))));exact pP 24 (k+1,c2) ⟨by simp only;omega,h9',lK hp' hl,hz'⟩ Yo (by simpa only[if_true,AA hpk,List.append_assoc]using hJ2) ⟨Yb,trivial⟩ rfl rfl (List.Sublist.refl _) (aG)
   ·have hpk:¬(p=2∨p=(k:Int)):=by simpa using hc3
    refine Zac (Zag (Zx (C.rg (Zt rfl (Za rfl (Zo ?_))))));exact pP 16 (k+1,c1) ⟨by simp only;omega,h91,hp1,hz1⟩ Yo (by rw[PY hpk]) ⟨Yb,trivial⟩ rfl rfl (List.Sublist.refl _) (aG)
  ·refine aZ (Zaf (Zaf (aE (Zx (Zy (C.rg (Zj rfl (Zo (Zx (aC ?_))))))))));exact kT (P:=Tryz.prog) (fn:=Tryz.f130) (N:=41) (vs:=[_]) rfl rfl ⟨rfl,trivial⟩ (fun D h=>⟨D,h,Le.refl D⟩) ⟨true,c1,rfl,h91,hp1,hz1,rfl,by simp only[if_true];rw[hd,←AR,show k=2 by omega]⟩
theorem HB(places:List Int)(Dr:aA)(br:Nat)(pv cv:Value)(w1 w2:Int)(hn9:places.length≤9)(hA:At Dr br 0 [pv,cv,.int .i64 w1,.int .i64 w2])(hpl:Sl Dr RI 1 pv places):
  uR Tryz.prog 129 [.pointer (some ⟨br,0,none⟩)] Dr ((bX places).map eQ) Z5:=by
 refine C9 8 Tryz.func129 rfl rfl rfl rfl (fun lo l J Jx hs hsx hY=>Zy (C.rg (Zr rfl (fun q1 E1 hE1 hB1=>Zo (Zx (Zy (C.rg (Zu rfl Tf.z163 rfl (fun q2=>Zo (Zx (Zy ?_)))))))))));refine C.rg (Zu rfl Tf.z108 rfl (fun q3=>Zo (Zx (Zy (C.rg (bH rfl rfl rfl rfl trivial (aT rfl rfl rfl rfl Tf.s108 (cY.head) Ye rfl Ym trivial (Zo (Zx (C.rg (Zn rfl Tf.a108 rfl (List.Mem.head _) rfl ?_)))))))))));refine qI rfl rfl rfl rfl (nM (l:=l) Yd hs hsx hY Ye Ye hA hpl hB1 places.length 0 [] (List.replicate 9 0) [] [] 0 rfl Yd rfl rfl rfl (List.drop_replicate ..) Ye) rfl trivial ?_;rintro _ J2 _ ⟨b2,c2,rfl,h9',hp',hz',rfl,hJ2⟩;refine Zo ?_;exact kT (P:=Tryz.prog) (fn:=Tryz.f129) (N:=8) (vs:=[]) rfl rfl trivial (fun D h=>⟨D,by simp only[List.mem_singleton]at h;subst h;simp,Le.refl D⟩) (by cases b2<;>simp at hJ2;exact Or.inr hJ2;exact Or.inl hJ2)
theorem LV(rv:Value)(r:cS)(D:aA)(hr:jQ D rv r)(hn9:r.places.length≤9):
  Fn Tryz.prog 73 #[rv] D (fun D' v=>∃br,v=.func (.func 129) #[] #[.pointer (some ⟨br,0,none⟩)]∧uR Tryz.prog 129 [.pointer (some ⟨br,0,none⟩)] D' ((bX r.places).map eQ) Z5):=by
 obtain⟨pv,cv,rfl,hp,hc⟩:=hr;refine enter 4 Tryz.func73 rfl rfl rfl rfl fun h0=>Zy (C.rg (Zr rfl (fun q1 E1 hE1 hB1=>Zj rfl (Zo (Zx (Zy (C.rg (bH rfl rfl rfl rfl trivial (Zj rfl (Zo ?_))))))))));refine Zx (aC ?_)
 exact Zc [_] rfl ⟨rfl,trivial⟩ (fun D hD=>⟨_,rfl,HB r.places _ q1 pv cv r.wrong r.off hn9 (hB1.up (hD _ Ye)) (hp.up RI.up (hD _ Ye))⟩)
end L1
end Go.Fs
namespace Go.Fs
open Go.Proofs
namespace L1
open C1
theorem P8{c:List Int}{i j:Int}(h0:0≤i)(h1:i≤j):cN c 0 (j+1).toNat-cN c 0 i.toNat=fR c i.toNat j.toNat:=by
 unfold fR;have h:=qR c 0 i.toNat (j.toNat+1-i.toNat);rw[show i.toNat+(j.toNat+1-i.toNat)=(j+1).toNat by omega,Nat.zero_add]at h;omega
theorem IT{r:cS}{t:List Int}(h:(fO r t&&decide ((if fO r t=true then(tL r t:Int)else 0)≤r.wrong))=true):fits r t=true:=by
 unfold fits;cases he:fO r t<;>simp[he]at h ⊢;exact h
theorem MP{r:cS}{t:List Int}(h:(fO r t&&decide ((if fO r t=true then(tL r t:Int)else 0)≤r.wrong))=false):fits r t=false:=by
 unfold fits;cases he:fO r t<;>simp[he]at h ⊢;exact h
theorem MV{r:cS}(h:lH r)(k:Nat):(((bX r.places).take k).filter (fits r)).length≤512:=by
 have h1:=List.length_filter_le (fits r) ((bX r.places).take k);have h2:=pN r.places;have h3:2^r.places.length≤2^9:=Nat.pow_le_pow_right Yd h.len9;have h4:((bX r.places).take k).length≤(bX r.places).length:=by rw[List.length_take];omega
 omega
theorem NK{r:cS}(h:lH r)(k:Nat):∀t∈((bX r.places).take k).filter (fits r),t.length≤9:=fun t ht=>by
 have:=(qB (List.mem_of_mem_take (List.mem_filter.1 ht).1)).1;have:=h.len9;omega
theorem qX{r:cS}(h:lH r):(truths r).length≤512:=by
 have h1:=List.length_filter_le (fits r) (bX r.places);have h2:=pN r.places;have h3:2^r.places.length≤2^9:=Nat.pow_le_pow_right Yd h.len9;show((bX r.places).filter (fits r)).length≤512;omega
open C1
theorem MX(rv:Value)(r:cS)(i j:Int)(D:aA)(hr:jQ D rv r):Fn Tryz.prog 66 #[rv,.int .i64 i,.int .i64 j] D (fun _ v=>v=.bool (iT r i j)):=by
 obtain⟨pv,cv,rfl,hp,hc⟩:=hr;have hl:=hp.len;refine enter 22 Tryz.func66 rfl rfl rfl rfl fun h0=>Zy (C.rg (Zr rfl (fun q1 E1 hE1 hB1=>Zj rfl (Zo (Zx (Zy (C.rg (Za rfl (Zk rfl Tf.f28_0 rfl (Zg 0 rfl Tf.a25 rfl hB1 rfl ?_))))))))));refine aY rfl U25 rfl Yl rfl rfl trivial (fW rfl rfl rfl Yf rfl trivial (Zd rfl (fun D1 hD1=>cX _ _ _ _) (Za rfl ?_)))
 refine' dA [(false,7),(false,8),(false,9),(false,10),(false,11),(false,12),(false,13),(false,14)] [(false,15)] (s:=13) (p:=21) rfl rfl (fun hg1=>?_) (fun hg1=>?_) ?_;rotate_left
 ·refine Zb rfl (Zb rfl (Zl rfl Tf.f28_0 rfl (Zh 0 rfl Tf.a25 rfl hB1 rfl (aY rfl U25 rfl Yl rfl rfl ⟨_,rfl,rfl⟩ (fW rfl rfl rfl Yf rfl ⟨_,rfl,rfl⟩ (Ze rfl (fun D2 hD2=>cX _ _ _ _) (Zv rfl ?_)))))));exact aF fun a w hh=>hh.cutK 7 rfl
 ·refine Zi rfl (Zi rfl (Zi rfl (Zi rfl (Zi rfl (Zi rfl (Zi rfl (Zw rfl ?_)))))));exact aF fun a w hh=>hh.cutK 7 rfl
 refine Zj rfl (Zo (Zx (aC ?_)));exact Zc [_] rfl ⟨rfl,trivial⟩ (fun D hD=>rfl)
theorem PM(c:List Int)(i j:Int)(D:aA)(hi0:0≤i)(hij:i≤j)(hj9:j<9)(hb:∀x∈c,0≤x∧x≤1):Fn Tryz.prog 114 #[.agg (ints (iF c)).toArray,.int .i64 i,.int .i64 j] D (fun _ v=>v=.int .i64 (fR c i.toNat j.toNat)):=by
 have hsl:=kA c;have hg1:=lQ c (j+1).toNat Yd;have hg2:=lQ c i.toNat Yd;have hb1:=eA hb 0 (j+1).toNat;have hb2:=eA hb 0 i.toNat;refine enter 15 Tryz.func114 rfl rfl rfl rfl fun h0=>Zy (C.rg (Zr rfl (fun q1 E1 hE1 hB1=>Zj rfl (Zo (Zx (Zy (C.drawA [] 4 9 112 (fun _ _ _ h=>dI (P:=Tryz.prog) (fn:=Tryz.f114) _ _ _ h) (Za rfl (Zt rfl (bR rfl U167 Tf.s3 rfl rfl Yd Yd rfl trivial ?_))))))))));refine fC rfl Tf.a3 rfl hB1 Ye (cJ hg1) List.not_mem_nil rfl trivial (Za rfl (bR rfl U167 Tf.s3 rfl rfl Yd Yd rfl trivial (fC rfl Tf.a3 rfl hB1 Ye (cJ hg2) List.not_mem_nil rfl trivial (fW rfl rfl rfl Yf rfl trivial (Zj rfl (Zo (Zx (aC ?_))))))))
 exact Zc [_] rfl ⟨rfl,trivial⟩ (fun D hD=>by show Value.int _ _=_;rw[P8 hi0 hij])
theorem lW(lo hi n:Int)(D:aA):Fn Tryz.prog 115 #[.agg #[.int .i64 lo,.int .i64 hi],.int .i64 n] D (fun _ v=>v=.agg #[.int .i64 (min lo n),.int .i64 (max hi n)]):=by
 refine enter 15 Tryz.func115 rfl rfl rfl rfl fun h0=>Zy (C.rg (Zr rfl (fun q1 E1 hE1 hB1=>Zu rfl Tf.z56 rfl (fun q2=>Zo (Zx (Zy (mW [] 4 [0,1,2,5,6,7,8,3,4,9,10] [false,false,true,true,true,true,true,true,true,false,false] [(false,0),(false,1),(true,2),(true,5),(true,6),(true,7),(true,8),(true,3),(true,4),(false,9),(false,10)] Tf.follows (fun _ _ _ h=>dI (P:=Tryz.prog) (fn:=Tryz.f115) _ _ _ h) Yg rfl (Zk rfl Tf.f56_0 rfl (Zg 0 rfl Tf.a3 rfl hB1 rfl (Za rfl ?_))))))))));refine Zk rfl Tf.f56_1 rfl (Zg 1 rfl Tf.a3 rfl hB1 rfl (Za rfl (mT rfl rfl rfl rfl trivial (Zm rfl U25 Tf.s3 Tf.z3 rfl rfl rfl rfl (.cons rfl rfl (.cons rfl rfl .nil)) (fun b901 D901 hD901 hA901=>?_)))))
 have hS901:=Sl.ofInts (l:=[_,_]) (n:=2) (cap:=2) hA901 rfl Yd Yd;refine Zd rfl (fun D1 hD1=>iY _ lo [n] _ (hS901.up RI.up (hD1 _ Ye))) (Zp [.int .i64 (min lo n),.int .i64 (max hi n)] rfl Tf.p56 Tf.z56 rfl rfl (Zs rfl Tf.s56 (cY.head) (Zo (Zx (aC ?_)))));exact Zc [_] rfl ⟨⟨_,_,_,rfl,(List.Mem.head _),Or.inr ⟨Tf.a56,(by first|exact Tf.s56|(simp only[List.size_toArray,aQ, *];exact Tf.s56)),rfl⟩⟩,trivial⟩ (fun D hD=>rfl)
theorem lS(rv:Value)(r:cS)(fine:Bool)(D:aA)(hr:jQ D rv r):Fn Tryz.prog 36 #[rv,.bool fine] D (fun D' v=>∃wv,v=.tuple #[wv,.int .i64 (bE r fine)]∧(bE r fine=0→lH r∧GM D' wv r)):=by
 have hr0:=hr;obtain⟨pv,cv,rfl,hp,hc⟩:=hr;refine LG 55 Tryz.func36 rfl rfl rfl rfl fun h0=>Zy (C.rg (Zr rfl (fun q1 E1 hE1 hB1=>Zj rfl (Zj rfl (Zo (Zx (Zy (Zy (C.rg (Zq rfl Tf.a28 rfl hB1 Tf.s28 ?_))))))))));refine Zd rfl (fun D1 hD1=>Y2 _ r _ (hr0.up (hD1 _ Ye))) (Zj rfl (Zo (Zx (Zy (C.rg (Za rfl (dQ rfl rfl rfl rfl trivial (Zo (Zx (aH rfl (fun hc1=>?_) (fun hc1=>?_)))))))))))
 ·refine Zy (C.rg (Za rfl (Zj rfl (Zj rfl (Zo (Zx (aC (Zad ?_))))))));exact oN (vs:=[_,_]) rfl rfl rfl C.rs (fun D hD=>⟨_,by rw[bE,if_pos hc1];rfl,fun h=>by rw[bE,if_pos hc1]at h;exact absurd h hc1⟩)
 ·have hok:lH r:=pY.1 Yd;refine Zac (Zx (Zy (Zy (C.rg (Za rfl (bV rfl rfl rfl trivial (Zo (Zx (aP rfl (fun hc2=>?_) (fun hc2=>?_))))))))))
  ·refine Zy (C.rg (Zj rfl (Zj rfl (Zo (Zx (aC (Zad ?_)))))));exact oN (vs:=[_,_]) rfl rfl rfl C.rs (fun D hD=>⟨_,by rw[bE,if_neg hc1,if_pos (by simpa using hc2)];rfl,fun h=>by rw[bE,if_neg hc1,if_pos (by simpa using hc2)]at h;omega⟩)
  ·refine Zac (Zx (Zy (C.rg (Zq rfl Tf.a28 rfl hB1 Tf.s28 (Zp [pv,cv,.int .i64 r.wrong,.int .i64 r.off,.slice none 0 0] rfl Tf.p89 Tf.z89 rfl rfl (T4 rfl (e:=89) rfl rfl rfl trivial (fun q2=>Zu rfl Tf.z84 rfl (fun q3=>aT rfl rfl rfl rfl Tf.s84 (cY.head) Ye rfl Ym trivial (Zo (Zx (Zy ?_)))))))))));refine Zy (C.rg (Zq rfl Tf.a28 rfl hB1 Tf.s28 (cW rfl rfl rfl (fun D2 hD2=>LV _ r _ (hr0.up (hD2 _ Ye)) hok.len9) rfl trivial (fun v2 D2 hD2 hp2=>Zo (Zx (Zae ?_))))));obtain⟨br,rfl,hit⟩:=hp2;refine pH (γ:=Value×aB) (xs:=(bX r.places).map eQ) (enc:=Z5) (Dr:=D2) (rI 163 r) (fun _ _ _=>False) (fun g=>[(q3,.cells [.pointer (some ⟨q2,0,none⟩)].toArray 84 (0,0)),(q2,.cells [pv,cv,.int .i64 r.wrong,.int .i64 r.off,g.1].toArray 89 (0,0))]++g.2) (.slice none 0 0,[]) rfl rfl rfl rfl hit Ye (fun _=>rfl) rfl (by simpa [rI]using bC.nil) rfl ?_ ?_ (fun _ _ _ _ h=>h.elim)
   ·rintro pre x ⟨v,ν⟩ ⟨us,hx⟩ hΦ l bd rec hh D7 hD7 hst hpend;obtain⟨t,hk,rfl,htm,htake⟩:=uA hx;obtain⟨hlen,htb⟩:=qB htm;have htr:mF r t:=⟨hlen,htb⟩
    have hp9:=eE (t:=t) (by have:=hok.len9;omega);refine C.rg (Zu rfl Tf.z163 rfl (fun q4=>Zs rfl Tf.s163 (cY.head) (Zo ?_)));refine fun a w hhh=>wD (A:=[(_,_),(_,_),(_,_)]++ν) (B:=[(bd,.deferred (some []))]) (r:=rec) (l:=l) (by rfl) hst ?_ a w hhh
    refine oM (fun hnd=>?_);simp only[List.map_cons,List.map_append,List.nodup_cons,List.nodup_append,List.cons_append,List.nil_append,List.mem_cons,List.mem_append,not_or]at hnd;have hq4:=hnd.1.2.2.1;have hq3:=hnd.2.1.2.1;have hq2:=hnd.2.2.1.1;refine Zae (Zy (C.drawA [] 4 9 198 (fun _ _ _ h=>h) (Zq rfl Tf.a28 rfl hB1 Tf.s28 (aX rfl Tf.a163 rfl (List.Mem.head _) (by first|exact Tf.s163|(simp only[aQ, *];exact Tf.s163)) List.not_mem_nil rfl trivial (Zd rfl (fun D3 hD3=>yG t _ (by have:=hok.len9;omega) htb) (Zd rfl (fun D4 hD4=>JN _ r t _ (hr0.up (hD4 _ Ye)) hok htr) (Za rfl (Zz rfl (Zz rfl (Zj rfl (Zj rfl ?_)))))))))));refine Zo (Zx (Zy (C.rg (Za rfl (Za rfl ?_)))));refine' dA [(false,2),(false,3),(false,4),(false,5),(false,6)] [] (s:=32) (p:=37) rfl rfl (fun hg1=>?_) (fun hg1=>?_) ?_;rotate_left
    ·refine Zb rfl (Zl rfl Tf.f28_2 rfl (Zh 2 rfl Tf.a3 rfl hB1 rfl (gV rfl rfl rfl rfl ⟨_,rfl,rfl⟩ (Zv rfl ?_))));exact aF fun a w hh=>hh.cutK 4 rfl
    ·refine Zi rfl (Zi rfl (Zi rfl (Zi rfl (Zw rfl ?_))));exact aF fun a w hh=>hh.cutK 4 rfl
    refine Zo (Zx (aP rfl (fun hc3=>?_) (fun hc3=>?_)))
    ·have hfit:=IT hc3;refine C.drawA (ν.map (·.1)) 2 11 254 (fun _ _ _ h=>h) (aU rfl Tf.a84 rfl (List.Mem.tail _ (List.Mem.head _)) rfl Yk rfl trivial (aU rfl Tf.a84 rfl (List.Mem.tail _ (List.Mem.head _)) rfl Yk rfl trivial (Zab rfl (Zk rfl Tf.f89_1 rfl (aU rfl Tf.a87 rfl (List.Mem.tail _ (List.Mem.tail _ (List.Mem.head _))) rfl Yk rfl trivial (aX rfl Tf.a163 rfl (List.Mem.head _) (by first|exact Tf.s163|(simp only[aQ, *];exact Tf.s163)) Yk rfl trivial (Zm rfl U87 Tf.s163 Tf.z163 rfl rfl rfl rfl (.cons rfl (by simpa using hp9) .nil) (fun b901 D901 hD901 hA901=>aS (A:=[(_,_),(_,_),(_,_)]) (B:=[(l,_),(bd,_)]) rfl U87 rfl rfl Tf.s163 Tf.z163 rfl Tf.i163 rfl rfl rfl hΦ (iG.lit hA901) Ye (by simp[hp9]) (pF (NK hok pre.length)) (by simpa using fF _) (by have:=MV hok pre.length;omega) (Or.inr (fun p hp=>List.mem_map.2 ⟨p,hp,rfl⟩)) rfl trivial (fun v1 ν1 ha1=>?_)))))))))
     have hI1:rI 163 r (pre++[eQ t]) (v1,ν1):=by unfold rI;rw[htake,List.filter_append,List.filter_cons,if_pos hfit,List.filter_nil,List.flatMap_append,List.flatMap_singleton];simpa using ha1
     simp only[List.cons_append,List.nil_append];refine Zab rfl (Zk rfl Tf.f89_1 rfl (aT rfl rfl rfl ha1.cells1 Tf.s87 (.tail (.tail (cY.head))) Ye rfl ha1.cell1 trivial (Zo (Zag ?_))));exact fun a w hh=>iZ (A:=[(_,_),(_,_)]++ν1) (B:=[(bd,.deferred (some []))]) (v1,ν1) hI1 rfl rfl a w (hh.dropBoxes 1)
    ·have hfit:=MP hc3;have hI0:rI 163 r (pre++[eQ t]) (v,ν):=by unfold rI;rw[htake,List.filter_append,List.filter_cons,if_neg (by simp[hfit]),List.filter_nil,List.append_nil];exact hΦ
     refine Zac (Zag ?_);exact fun a w hh=>iZ (A:=[(_,_),(_,_)]++ν) (B:=[(bd,.deferred (some []))]) (v,ν) hI0 rfl rfl a w (hh.dropBoxes 1)
   ·rintro⟨v,ν⟩ bd hΦ;have hΦ':bC 163 9 v (truths r).length ((truths r).flatMap fun t=>ints (eQ t)) ν:=by simpa [rI,truths]using hΦ
    have hall:∀t∈truths r,t.length≤9:=fun t ht=>by have:=(qB (List.mem_filter.1 ht).1).1;have:=hok.len9;omega
    have hll:=qX hok;refine Zag (Zx (Zy (Zy (C.rg (Zn rfl Tf.a84 rfl (List.Mem.head _) rfl (Zab rfl (Zk rfl Tf.f89_1 rfl (Zn rfl Tf.a87 rfl (List.Mem.tail _ (List.Mem.head _)) rfl (dH rfl U87 rfl hΦ' rfl rfl trivial (eL rfl rfl rfl rfl trivial (Zo ?_)))))))))));refine Zx (aH rfl (fun hc4=>?_) (fun hc4=>?_))
    ·have htn:truths r=[]:=List.length_eq_zero_iff.1 Yd;have hask:bE r fine=11:=by rw[bE,if_neg hc1,if_neg (by simpa using hc2),if_pos htn]
     refine Zy (C.rg (Zj rfl (Zj rfl (Zo (Zx (aC (Zad ?_)))))));exact wB (vs:=[_,_]) (A:=[(_,_),(_,_)]++ν) rfl rfl rfl C.rs (fun D hD=>⟨_,by rw[hask];rfl,fun h=>by rw[hask]at h;omega⟩)
    ·have htn:truths r≠[]:=fun e=>hc4 (by rw[e];rfl)
     have hask:bE r fine=0:=by rw[bE,if_neg hc1,if_neg (by simpa using hc2),if_neg htn]
     refine Zac (Zx (Zy (C.rg (Zn rfl Tf.a84 rfl (List.Mem.head _) rfl (Zj rfl (Zj rfl (Zo (Zx (aC (eW (A:=[(_,_),(_,_)]) (B:=[(bd,.deferred (some []))]) hΦ' rfl (fun D8 hD8 hF8=>eW (A:=[(_,_)]) (ν:=[(q2,_)]) (B:=[(bd,.deferred (some []))]) (OJ (sz:=5) rfl) rfl (fun D9 hD9 hF9=>?_))))))))))));exact wB (vs:=[_,_]) (A:=[(_,_)]) rfl rfl rfl C.rs (fun D hD=>⟨_,by rw[hask];rfl,fun _=>⟨hok,q2,pv,cv,v,rfl,(hF9.at Yd).up (hD _ Ye),hp.up RI.up (hD _ Ye),hc.up RC.up (hD _ Ye),(hF8.truths rfl Yd hall).up RT.up (hD _ Ye)⟩⟩)
end L1
end Go.Fs
