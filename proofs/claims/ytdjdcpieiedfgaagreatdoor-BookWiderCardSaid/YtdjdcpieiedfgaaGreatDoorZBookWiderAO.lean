/- Of the proof of BookWider: BW44, SWY, BW56, Comm, BW51, BW52, BW41, BW42, BW57. -/
import Derived.Test.YtdjdcpieiedfgaaGreatDoorZBookWiderAN
import Derived.Test.YtdjdcpieiedfgaaGreatDoorZBookWiderAH
import Derived.Test.YtdjdcpieiedfgaaGreatDoorZBookWiderAD
namespace Go.Fs
open Go.Proofs Tryz
namespace L12
open C12 Go.Lib
def kQ(s:aN):Prop:=∀r∈s.table.heights,r.2≤r.1+2
theorem aDC:kQ qZ:=by
 intro r hr;simp only[qZ,n4,n3,bBB,or_self]at hr;rw[hr];decide
theorem hZ{k:Int}{f:fZ}(h:sS k f)(hk:¬k=2){s s':aN}{n:List Int}(hs:kQ s)(e:f s n=.ok s'):kQ s':=by
 have h2:=(h s n s' e).2.1.resolve_left hk;unfold kQ;rw[h2];exact hs
theorem aCO{s s':aN}{n:List Int}(hs:kQ s)(e:xN s n=.ok s'):kQ s':=by
 unfold xN at e;repeat' split at e
 all_goals cases e
 intro r hr;rcases bDB hr with h|rfl
 ·exact hs r h
 ·simp only;omega
theorem aBI{s s':aN}{n:List Int}(hs:kQ s)(e:W6 s n=.ok s'):kQ s':=by
 unfold W6 at e;repeat' split at e
 all_goals cases e
 all_goals exact hs
theorem SA{s s':aN}{n:List Int}(hs:kQ s)(e:wF s n=.ok s'):kQ s':=by
 unfold wF at e;repeat' split at e
 all_goals cases e
 all_goals exact hs
theorem SR{s s':aN}{n:List Int}(hs:kQ s)(e:wW s n=.ok s'):kQ s':=by
 unfold wW at e;repeat' split at e
 all_goals cases e
 all_goals exact hs
theorem YR{s s':aN}{n:List Int}(hs:kQ s)(e:yG s n=.ok s'):kQ s':=by
 unfold yG at e;repeat' split at e
 all_goals cases e
 all_goals exact hs
theorem LU{s s':aN}{n:List Int}(hs:kQ s)(e:uJ s n=.ok s'):kQ s':=by
 unfold uJ at e;repeat' split at e
 all_goals cases e
 all_goals exact hs
theorem XV:∀x∈jF,∀(s:aN) (n:List Int) (s':aN),kQ s→x.2.2 s n=.ok s'→kQ s':=by
 intro x hx s n s' hs e;simp only[jF,n4,n3,bBB]at hx;rcases hx with rfl|rfl|rfl|rfl|rfl|rfl|rfl|rfl|rfl|rfl|rfl|rfl|rfl|rfl|rfl|rfl|rfl|rfl|rfl|rfl|rfl|rfl
 ·exact hZ KN Yy (n:=n) hs e
 ·exact hZ SI Yy (n:=n) hs e
 ·exact hZ (Y6 false) Yy (n:=n) hs e
 ·exact hZ (Y6 true) Yy (n:=n) hs e
 ·exact hZ BE Yy (n:=n) hs e
 ·exact hZ MH Yy (n:=n) hs e
 ·exact hZ aCD Yy (n:=n) hs e
 ·exact aCO hs e
 ·exact aBI hs e
 ·exact SA hs e
 ·exact SR hs e
 ·exact YR hs e
 ·exact LU hs e
 ·exact hZ (W9 1) Yy (n:=n) hs e
 ·exact hZ (W9 2) Yy (n:=n) hs e
 ·exact hZ FI Yy (n:=n) hs e
 ·exact hZ GO Yy (n:=n) hs e
 ·exact hZ GS Yy (n:=n) hs e
 ·exact hZ SF Yy (n:=n) hs e
 ·exact hZ XY Yy (n:=n) hs e
 ·exact hZ KP Yy (n:=n) hs e
 ·exact hZ BR Yy (n:=n) hs e
theorem PY{line:ByteArray}{act:fZ}{n:List Int}(h:jK line=some (act,n)):∃x∈jF,x.2.2=act:=by
 obtain⟨p,ps,hc⟩:=wT line;rw[A2 hc]at h;split at h
 ·cases h
 ·rename_i hf;split at h
  ·cases hm:ps.mapM tM with
   |none=>rw[hm]at h;cases h
   |some m=>rw[hm]at h;cases h;exact⟨_,List.mem_of_find?_eq_some hf,rfl⟩
  ·cases h
theorem aTD(s:aN)(line:ByteArray)(h:kQ s):kQ (nB s line).1:=by
 unfold nB;cases hp:jK line with
 |none=>exact h
 |some a=>
  obtain⟨act,n⟩:=a;simp only[];cases ha:act s n with
  |error c=>exact h
  |ok s'=>
   simp only[];split
   ·obtain⟨x,hx,rfl⟩:=PY hp;exact XV x hx s n s' h ha
   ·exact h
theorem DU(ls:List ByteArray):kQ (cA ls).1:=p7 (I:=kQ) aTD aDC ls
theorem aQR:jF.find? (fun x=>x.1==(⟨#[115,101,101,110]⟩:ByteArray).data.toList)=some ([115,101,101,110],2,yQ):=rfl
theorem aOL:jF.find? (fun x=>x.1==(⟨#[116,105,100,101]⟩:ByteArray).data.toList)=some ([116,105,100,101],3,xN):=rfl
theorem aNK:jF.find? (fun x=>x.1==(⟨#[112,97,114,116]⟩:ByteArray).data.toList)=some ([112,97,114,116],3,vM):=rfl
theorem aHU{α:Type}{l:List α}{i:Nat}(a:α)(h:i<l.length):l[i]?= some (l.getD i a):=by
 rw[bAQ,aYU h];rfl
def aJB(p:C7.Pt)(i:Nat):Int:=if i=0 then p.a else if i=1 then p.b else p.c
structure aUC(s:aN):Prop where
 row:C1.oQ s.row
 tab:C2.BX s.table
 yard:L7.aXU s.yard
 hts:kQ s
theorem SU{s:aN}(h:dK s=0)(hh:kQ s):aUC s:=by
 obtain⟨h1,h2,h3,h4,h5,G⟩:=nX h;refine⟨C1.sC.1 ?_,C2.A3 h2,L7.aYP h5,hh⟩;unfold C1.cK at h1;split at h1
 ·exact h1
 ·rename_i hf;simpa using hf
section
variable{s:aN}(h:aUC s)
include h
end
theorem aAH{ns:List Int}(hr:∀n∈ns,0≤n∧n≤99):∀w:ByteArray,(yY w ns).size≤w.size+3*ns.length:=by
 induction ns with
 |nil=>intro w;exact aZL _
 |cons n ns ih=>
  intro w;have h1:=ih (fun m hm=>hr m (n5 _ hm)) (w++(⟨#[32]⟩++zZ (itoa n)));have h2:=DC (hr n LT).1 (hr n LT).2;have h3:(⟨#[32]⟩:ByteArray).size=1:=rfl;rw[bCL,bCL]at h1;rw[aYW];exact bBE h1 Yd
theorem W1(w:ByteArray)(nv:Value)(ns:List Int)(D:aC)(hS:Sl D RI 1 nv ns)(hn:ns.length≤10)(hw:w.size≤10)(hr:∀n∈ns,0≤n∧n≤99):Fn prog 85 #[.string w,nv] D (fun _ v=>v=.string (yY w ns)):=by
 refine Zs 21 func85 rfl (fun h0=>aA<|Zg rfl<|bJ<|Zg rfl<|aF<|Zar<|gX (γ:=Nat×ByteArray) (fun g=>ns.length-g.1) (fun g=>g.1≤ns.length∧g.2=yY w (ns.take g.1)∧g.2.size≤10+3*g.1) (fun g=>[(5,qI (g.1:Int)),(0,.string g.2)]) [(4,_),(1,_)] (fun g=>[D]) (0,w) ⟨by simp,rfl,by simpa using hw⟩ ⟨Yb,Yb,bDY⟩ cQ (aH) ?_);rintro⟨k,s⟩ ⟨h1,h2,h3⟩;simp only at h1 h2 h3;refine eH<|Za rfl<|Za rfl<|Zab rfl U25 rfl hS rfl<|Zai rfl<|aF<|Zz rfl (fun G=>?_) (fun G=>?_)
 ·simp only at G;have hk:k<ns.length:=by omega
  obtain⟨x,hx⟩:=dV ns k;obtain⟨hx0,hx1⟩:=hr x (LE hx);have M:=DC hx0 hx1;have z2:(⟨#[32]⟩:ByteArray).size=1:=rfl;refine aT<|aS<|Zar<|aU<|Za rfl<|Za rfl<|Za rfl<|jZ rfl hS rfl hx (fun O o1=>Zc rfl (fun R I=>aID x hx0 hx1 _)<|kS rfl rfl rfl Yd rfl bDY<|kS rfl rfl rfl (by simp only[bCL];omega) rfl bDY<|Zg rfl ?_);refine Zah<|Zat<|Zaq<|aU<|Za rfl<|Zaa rfl<|Zg rfl<|Zah ?_;exact aK 18 (k+1,s++(⟨#[32]⟩++zZ (itoa x))) ⟨by simp only;omega,by simp only;rw[h2,aCG hx],by simp only[bCL];omega⟩ Ym ⟨Yb,Yb,bDY⟩ rfl rfl Mm5 (aH)
 ·obtain rfl:k=ns.length:=by simp only at G;omega
  refine aW<|Zas<|Zas<|Zav<|Zaq<|aA<|Za rfl<|Zg rfl<|aG ?_;exact aE rfl (fun D hD=>by show Value.string s=_;rw[h2,bAA])
end L12
open Go.Proofs
namespace L7
open C7
theorem QW{y:bC}{out:List Int}:(0:Int)<((dY y out).length:Int) ↔∃t,kZ y t=true∧oT y.claims out (qK y t:Nat)=true:=by
 rw[show((0:Int)<((dY y out).length:Int) ↔ 0<(dY y out).length) by omega,List.length_pos_iff_exists_mem];constructor
 ·rintro⟨p,hp⟩;obtain⟨t,h1,h2,_⟩:=sZ.1 hp;exact⟨t,h1,h2⟩
 ·rintro⟨t,h1,h2⟩;exact⟨_,sZ.2 ⟨t,h1,h2,rfl⟩⟩
def Tr(y:bC)(t:List Pt):Prop:=kZ y t=true∧oT y.claims [] ((qK y t:Nat):Int)=true
theorem aSF{y:bC}:dY y []≠[] ↔∃t,Tr y t:=by
 rw[show dY y []≠[] ↔ (0:Int)<((dY y []).length:Int) by rw[Ne,←bBP];omega,QW];rfl
theorem SV:∀(l:List Int) (r:Int×Int),((l.foldl (fun r n=>(min r.1 n,max r.2 n)) r).1≤r.1∧r.2≤(l.foldl (fun r n=>(min r.1 n,max r.2 n)) r).2∧∀x∈l,(l.foldl (fun r n=>(min r.1 n,max r.2 n)) r).1≤x∧x≤(l.foldl (fun r n=>(min r.1 n,max r.2 n)) r).2)∧
  ((l.foldl (fun r n=>(min r.1 n,max r.2 n)) r).1=r.1∨(l.foldl (fun r n=>(min r.1 n,max r.2 n)) r).1∈l)∧((l.foldl (fun r n=>(min r.1 n,max r.2 n)) r).2=r.2∨(l.foldl (fun r n=>(min r.1 n,max r.2 n)) r).2∈l)
 | [],r=>⟨⟨bCJ _,bCJ _,by simp⟩,aZE rfl,aZE rfl⟩
 |x::l,r=>by
  rw[bAG];obtain⟨⟨h1,h2,h3⟩,h4,h5⟩:=SV l (min r.1 x,max r.2 x);generalize l.foldl (fun r n=>(min r.1 n,max r.2 n)) (min r.1 x,max r.2 x)=q at h1 h2 h3 h4 h5 ⊢
  simp only at h1 h2 h4 h5;refine⟨⟨by omega,by omega,fun z hz=>?_⟩,?_,?_⟩
  ·rcases n4.1 hz with rfl|hz
   ·omega
   ·exact h3 z hz
  ·rcases h4 with h4|h4
   ·rcases Int.le_total r.1 x with h|h
    ·exact aZE Yd
    ·exact aYZ (by rw[h4,show min r.1 x=x by omega];exact LT)
   ·exact aYZ (n5 _ h4)
  ·rcases h5 with h5|h5
   ·rcases Int.le_total r.2 x with h|h
    ·exact aYZ (by rw[h5,show max r.2 x=x by omega];exact LT)
    ·exact aZE Yd
   ·exact aYZ (n5 _ h5)
theorem X9{y:bC}(h:aV y=0)(ht:∃t,Tr y t):(cF y).2=0∧(∀t,Tr y t→(cF y).1.1≤((qK y t:Nat):Int)∧((qK y t:Nat):Int)≤(cF y).1.2)∧(∃t,Tr y t∧((qK y t:Nat):Int)=(cF y).1.1)∧∃t,Tr y t∧((qK y t:Nat):Int)=(cF y).1.2:=by
 have hne:=aSF.2 ht;have mem:∀z,z∈(dY y []).map (fun p=>(p.2:Int)) ↔∃t,Tr y t∧((qK y t:Nat):Int)=z:=fun z=>by
  rw[GT];constructor
  ·rintro⟨p,hp,rfl⟩;obtain⟨t,h1,h2,rfl⟩:=sZ.1 hp;exact⟨t,⟨h1,h2⟩,rfl⟩
  ·rintro⟨t,h1,rfl⟩;exact⟨_,sZ.2 ⟨t,h1.1,h1.2,rfl⟩,rfl⟩
 have e:∃m l,(dY y []).map (fun p=>(p.2:Int))=m::l:=by
  cases e:dY y []with
  |nil=>exact absurd e hne
  |cons p l=>exact⟨_,_,rfl⟩
 obtain⟨m,l,e⟩:=e;have eb:cF y=((m::l).foldl (fun r n=>(min r.1 n,max r.2 n)) (m,m),0):=by unfold cF;rw[aZB Yd,e]
 rw[e]at mem;obtain⟨⟨_,_,h3⟩,h4,h5⟩:=SV (m::l) (m,m);rw[eb];generalize (m::l).foldl (fun r n=>(min r.1 n,max r.2 n)) (m,m)=q at h3 h4 h5 ⊢
 simp only at h4 h5 ⊢
 refine⟨bDY,fun t hT=>h3 _ ((mem _).2 ⟨t,hT,rfl⟩),(mem _).1 ?_,(mem _).1 ?_⟩
 ·rcases h4 with h4|h4
  ·rw[h4];exact LT
  ·exact h4
 ·rcases h5 with h5|h5
  ·rw[h5];exact LT
  ·exact h5
def aAY(p:Pt)(k:Nat)(v:Int):Pt:=if k=0 then⟨v,p.b,p.c⟩else if k=1 then⟨p.a,v,p.c⟩else⟨p.a,p.b,v⟩
def IJ(l:List Ch)(k p:Nat)(v:Int):List Ch:=l.modify k fun c=>{c with parts:=aAY c.parts p v}
theorem KU(l:List Ch)(k p:Nat)(v:Int):(IJ l k p v).length=l.length:=List.length_modify ..
def tK(y:bC)(k p:Nat)(v:Int):bC:={y with chairs:=IJ y.chairs k p v}
theorem vQ(l:List Ch)(k p i:Nat)(v:Int):(IJ l k p v)[i]?= (l[i]?).map fun c=>if k=i then {c with parts:=aAY c.parts p v}else c:=by
 unfold IJ;rw[List.getElem?_modify];cases l[i]? with
 |none=>rfl
 |some c=>by_cases h:k=i<;>simp[h]
theorem aLV(y:bC)(k p:Nat)(v:Int)(t:List Pt):oZ (tK y k p v) t=oZ y t:=by
 funext i j;unfold oZ tK;simp only[vQ];cases hi:y.chairs[i]? <;>cases hj:y.chairs[j]? <;>cases t[i]? <;>cases t[j]? <;>simp
 rename_i a b _ _;have e:∀(c:Ch) (m:Nat),(if k=m then({c with parts:=aAY c.parts p v}:Ch)else c).size=c.size:=fun c m=>by split<;>rfl
 unfold CC;rw[e,e]
theorem aCS(y:bC)(k p:Nat)(v:Int)(t:List Pt):eC (tK y k p v) t=eC y t:=by unfold eC;rw[aLV]
theorem j3(y:bC)(k p:Nat)(v:Int)(t:List Pt):qK (tK y k p v) t=qK y t:=by
 unfold qK;rw[aCS,show(tK y k p v).chairs.length=y.chairs.length from KU _ _ _ _]
theorem YE{y:bC}{k p:Nat}{v:Int}{c:Ch}{t:List Pt}(hc:y.chairs[k]?= some c)(hp:p<3)(hq:c.parts.l[p]?= some 2)(h:kZ (tK y k p v) t=true):kZ y t=true:=by
 unfold kZ at h ⊢
 rw[aYT,aZI,aZN]at h ⊢
 obtain⟨h1,h2⟩:=h;rw[show(tK y k p v).chairs=IJ y.chairs k p v from rfl]at h1 h2;rw[KU]at h1;refine⟨h1,fun x hx=>?_⟩;obtain⟨i,hi⟩:=bBW.1 hx;obtain⟨c',q⟩:=x;rw[bDV]at hi;obtain⟨G,i2⟩:=hi;have h3:=h2 ((if k=i then {c' with parts:=aAY c'.parts p v}else c'),q) (bBW.2 ⟨i,by rw[bDV,vQ,G];exact⟨rfl,i2⟩⟩)
 by_cases e:k=i
 ·subst e;rw[G]at hc;obtain rfl:c'=c:=aZO hc;rw[aZK rfl]at h3;simp only at h3 ⊢
  obtain⟨sz,pa,pb,pc⟩:=c';obtain⟨qa,qb,qc⟩:=q;have hp':p=0∨p=1∨p=2:=by omega
  simp only[Pt.l]at hq;rcases hp' with rfl|rfl|rfl<;>simp only[List.getElem?_cons_zero,List.getElem?_cons_succ,bCU]at hq<;>subst hq<;>simp only[IV,Pt.l,aAY,bAX,aZB (show ¬(1:Nat)=0 by decide),aZB (show ¬(2:Nat)=0 by decide),aZB (show ¬(2:Nat)=1 by decide),List.zip_cons_cons,List.zip_nil_right,bDS,List.all_nil,Bool.and_true,aYT,J8,bAD,aZI]at h3 ⊢
  ·exact⟨⟨h3.1.1,aZE bDY⟩,h3.2⟩
  ·exact⟨h3.1,⟨h3.2.1.1,aZE bDY⟩,h3.2.2⟩
  ·exact⟨h3.1,h3.2.1,⟨h3.2.2.1,aZE bDY⟩⟩
 ·rw[aZB e]at h3;exact h3
end L7
namespace L12
open C12 Go.Lib
theorem aSE{α:Type}{f:α→Int}{A B:List α}(hne:A≠[])(hs:∀t∈A,t∈B):C1.qO (B.map f)≤C1.qO (A.map f)∧C1.pB (A.map f)≤C1.pB (B.map f):=by
 have hn:A.map f≠[]:=fun e=>hne (List.map_eq_nil_iff.1 e)
 obtain⟨a,ha,G⟩:=GT.1 (C1.KT hn);obtain⟨b,hb,I⟩:=GT.1 (C1.JL hn);rw[←G,←I];exact⟨C1.WQ (GT.2 ⟨a,hs a ha,rfl⟩),C1.UY (GT.2 ⟨b,hs b hb,rfl⟩)⟩

def IA(r:C1.dG)(k:Nat):C1.dG:={r with places:=r.places.set k 2}
theorem QI(r:C1.dG)(k:Nat):C1.OQ r (IA r k):=
 ⟨bBN,rfl,bCJ _,bCJ _,fun i p h=>by
  unfold IA;simp only[];rw[List.getElem?_set];split
  ·rename_i e;subst e;rw[aZK (aYV.1 h).1];exact aYZ rfl
  ·exact aZE h⟩
theorem aMQ{r:C1.dG}(h:C1.oQ r)(k:Nat):C1.oQ (IA r k):=by
 have hl:(IA r k).places.length=r.places.length:=bBN;refine⟨by rw[hl];exact h.len0,by rw[hl];exact h.len9,h.cnt6,h.wrong,h.off,fun p hp=>?_,fun c hc=>by rw[hl];exact h.cnt c hc⟩
 rcases bDB hp with hp|rfl
 ·exact h.place p hp
 ·omega
theorem XM{r:C1.dG}(h:C1.cK r true=0):C1.oQ r∧C1.truths r≠[]:=by
 unfold C1.cK at h;have hf:C1.aV r=0:=by
  split at h
  ·exact h
  ·rename_i hf;simpa using hf
 rw[aZB Yd,aZB Ye]at h;refine⟨C1.sC.1 hf,fun e=>?_⟩;rw[aZK e]at h;cases h
theorem aTV{r:C1.dG}(h:C1.oQ r)(ht:C1.truths r≠[]):C1.cK r true=0:=by
 unfold C1.cK;rw[C1.sC.2 h,aZB Yd,aZB Ye,aZB ht]
theorem aSQ{r:C1.dG}(h:C1.cK r true=0)(k:Nat):C1.cK (IA r k) true=0∧∀i j,C1.AQ (C1.truths (IA r k)) i j≤C1.AQ (C1.truths r) i j∧C1.BB (C1.truths r) i j≤C1.BB (C1.truths (IA r k)) i j:=by
 obtain⟨h1,h2⟩:=XM h;have hs:∀t∈C1.truths r,t∈C1.truths (IA r k):=fun t ht=>C1.HM (QI r k) ht
 refine⟨aTV (aMQ h1 k) fun e=>h2 ?_,fun i j=>aSE h2 hs⟩;exact List.eq_nil_iff_forall_not_mem.2 fun t ht=>by have:=hs t ht;rw[e]at this;cases this

open C2 in
theorem N6{step:Int}:∀{rs ss:List (Int×Int)} {p:Option Int} {s:List Int},rs.length=ss.length→(∀(i:Nat) (r q:Int×Int),rs[i]?= some r→ss[i]?= some q→q.1≤r.1∧r.2≤q.2)→s∈gZ step rs p→s∈gZ step ss p
 | [],[],_,_,_,_,h=>h
 | [],_::_,_,_,hl,_,_=>by simp at hl
 |_::_,[],_,_,hl,_,_=>by simp at hl
 |r::rs,q::ss,p,s,hl,hw,h=>by
  obtain⟨w1,w2⟩:=hw 0 r q rfl rfl;simp only[gZ,bDK,bBF]at h ⊢
  obtain⟨m,hm,h⟩:=h;split at h
  ·rename_i hn;obtain⟨u,hu,rfl⟩:=GT.1 h;have e:q.1+(((r.1-q.1).toNat+m:Nat):Int)=r.1+(m:Int):=by omega
   refine⟨(r.1-q.1).toNat+m,by unfold eW at hm ⊢;omega,?_⟩;rw[e,aZK hn];exact GT.2 ⟨u,N6 Yan (fun i a b ha hb=>hw (i+1) a b (by simpa using ha) (by simpa using hb)) hu,rfl⟩
  ·cases h
def C8(t:C2.aY)(i:Nat)(l u:Int):C2.aY:={t with heights:=t.heights.set i (l,u)}
theorem aLL{t:C2.aY}{i:Nat}{r:Int×Int}{l u:Int}(hi:t.heights[i]?= some r)(h1:l≤r.1)(h2:r.2≤u):∀(j:Nat) (a b:Int×Int),t.heights[j]?= some a→(C8 t i l u).heights[j]?= some b→b.1≤a.1∧a.2≤b.2:=by
 intro j a b ha hb;unfold C8 at hb;simp only[]at hb;rw[List.getElem?_set]at hb;split at hb
 ·rename_i e;subst e;rw[aZK (aYV.1 hi).1]at hb;obtain rfl:=aZO hb;obtain rfl:=aZO (hi.symm.trans ha);exact⟨h1,h2⟩
 ·obtain rfl:=aZO (ha.symm.trans hb);exact⟨bCJ _,bCJ _⟩
theorem YO{t:C2.aY}{s:List Int}(h:s∈C2.bE t):C2.jD t s=true:=by
 have key:∀(l acc:List (List Int)),(∀u∈acc,C2.jD t u=true)→∀u∈l.foldl (C2.uR t) acc,C2.jD t u=true:=by
  intro l;induction l with
  |nil=>exact fun acc h=>h
  |cons x l ih=>
   intro acc h;refine ih _ fun u hu=>?_
   unfold C2.uR at hu;split at hu
   ·exact h u hu
   ·rename_i hx;rcases aZF.1 hu with hu|hu
    ·exact h u hu
    ·obtain rfl:=aZM.1 hu;simp only[not_or]at hx;simpa using hx.1
 exact key _ [] (fun u hu=>by cases hu) s h
theorem LY{t:C2.aY}{i:Nat}{r:Int×Int}{l u:Int}(hi:t.heights[i]?= some r)(h1:l≤r.1)(h2:r.2≤u):∀s∈C2.bE t,s∈C2.bE (C8 t i l u):=fun s hs=>
 LG (N6 (bBN).symm (aLL hi h1 h2) (AP hs)) (show C2.jD t s=true from YO hs)
theorem WN:∀(l:List (Int×Int)) (m:Int),0≤m→(∀r∈l,0≤C2.eW r∧C2.eW r≤3)→l.foldl (fun(m:Int) r=>min (m*C2.eW r) 2001) m≤m*3^l.length
 | [],m,h,_=>by simp
 |r::l,m,h,hr=>by
  obtain⟨a,b⟩:=hr r LT;have h0:0≤m*C2.eW r:=Int.mul_nonneg h a;have h1:m*C2.eW r≤m*3:=Int.mul_le_mul_of_nonneg_left b h;rw[bAG];refine Int.le_trans (WN l _ Yd fun q hq=>hr q (n5 _ hq)) ?_;rw[aYW,Int.pow_succ,Int.mul_comm (3^l.length) 3,←Int.mul_assoc];exact Int.mul_le_mul_of_nonneg_right Yd (Int.pow_nonneg Yd)
theorem aWA{t:C2.aY}(h:C2.BX t)(hm:C2.oF t.heights≤2000)(hl:C2.bE t≠[]):C2.aV t=0∧C2.jV t true=0:=by
 have hne:C2.fO t≠[]:=fun e=>hl (by unfold C2.bE;rw[e];rfl)
 have h1:C2.ZO t=false:=by
  unfold C2.ZO;have:=h.last;have:=h.lev;have:=h.mks
  simp only[bAU,bAH];omega
 have h2:C2.aSM t=true:=by
  unfold C2.aSM C2.eJ;simp only[aYT,aZI,aZN,C1.bX];exact⟨⟨⟨⟨⟨h.last.1,h.len⟩,h.hts⟩,h.step⟩,h.levs⟩,h.mark⟩
 have hf:C2.aV t=0:=by
  unfold C2.aV;rw[h1,h2,aZB Ye,aZB Ye,aZB Yd,aZB hne]
 refine⟨hf,?_⟩;unfold C2.jV;rw[hf,aZB Yd,aZB Ye,aZB hl]
theorem aXA{t:C2.aY}(ha:C2.jV t true=0)(h4:t.heights.length=4)(hw:∀r∈t.heights,r.2≤r.1+2){i:Nat}{r:Int×Int}{l u:Int}(hi:t.heights[i]?= some r)(h1:l≤r.1)(h2:r.2≤u)(h3:0≤l)(h5:u≤99)(I:u≤l+2):
  C2.aV (C8 t i l u)=0∧C2.jV (C8 t i l u) true=0∧∀n,(C2.sN (C8 t i l u) n).1≤(C2.sN t n).1∧(C2.sN t n).2≤(C2.sN (C8 t i l u) n).2:=by
 obtain⟨hf,hne⟩:=aPO ha;have hs:=LY hi h1 h2;have ho:=C2.A3 hf;have G:C2.bE (C8 t i l u)≠[]:=fun e=>hne (List.eq_nil_iff_forall_not_mem.2 fun s hs'=>by have:=hs s hs';rw[e]at this;cases this)
 have hr:=ho.hts r (LE hi);unfold C2.fW C2.eJ at hr;simp only[aYT,aZI,C1.bX]at hr;have hk:∀q∈(C8 t i l u).heights,C2.fW q=true∧q.2≤q.1+2:=fun q hq=>by
  rcases bDB hq with hq|rfl
  ·exact⟨ho.hts q hq,hw q hq⟩
  ·refine⟨?_,I⟩;unfold C2.fW C2.eJ;simp only[aYT,aZI,C1.bX];omega
 have hm:C2.oF (C8 t i l u).heights≤2000:=by
  have:=WN (C8 t i l u).heights 1 Yd fun q hq=>by
   obtain⟨a,b⟩:=hk q hq;unfold C2.fW at a;simp only[aYT,aZI]at a;unfold C2.eW;omega
  rw[show(C8 t i l u).heights.length=4 from(bBN).trans h4]at this;exact Int.le_trans this Yy
 obtain⟨g1,g2⟩:=aWA (t:=C8 t i l u) ⟨ho.last,by show(((C8 t i l u).heights.length:Nat):Int)=_;rw[show(C8 t i l u).heights.length=t.heights.length from bBN];exact ho.len,ho.step,fun q hq=>(hk q hq).1,ho.lev,ho.levs,ho.mks,ho.mark⟩ hm G;exact⟨g1,g2,fun n=>aSE hne hs⟩

open C7 L7 in
theorem aKP{y:bC}{k p:Nat}{c:Ch}(hc:y.chairs[k]?= some c)(hp:p<3):tK (tK y k p 2) k p (aJB c.parts p)=y:=by
 have e:IJ (IJ y.chairs k p 2) k p (aJB c.parts p)=y.chairs:=by
  refine bDE fun i=>?_
  rw[vQ,vQ,Option.map_map];cases hi:y.chairs[i]? with
  |none=>rfl
  |some d=>
   show some _=some d;congr 1;simp only[Function.comp];by_cases h:k=i
   ·subst h;obtain rfl:=aZO (hc.symm.trans hi);rw[aZK rfl,aZK rfl];obtain⟨sz,pa,pb,pc⟩:=c;have h3:p=0∨p=1∨p=2:=by omega
    rcases h3 with rfl|rfl|rfl<;>rfl
   ·rw[aZB h,aZB h]
 unfold tK;simp only[e]
open C7 L7 in
theorem aJK{y:bC}(h0:aV y=0)(hb:(cF y).2=0){k p:Nat}{c:Ch}(hc:y.chairs[k]?= some c)(hp:p<3)(hf:aV (tK y k p 2)=0):(cF (tK y k p 2)).2=0∧(cF (tK y k p 2)).1.1≤(cF y).1.1∧(cF y).1.2≤(cF (tK y k p 2)).1.2:=by
 have hT:∃t,Tr y t:=aSF.1 fun e=>by
  unfold cF at hb;rw[aZB Yd,e]at hb;cases hb
 have hsub:∀t,Tr y t→Tr (tK y k p 2) t:=fun t ht=>by
  have h1:=ht.1;have h2:=ht.2;have hc2:(tK y k p 2).chairs[k]?= some {c with parts:=aAY c.parts p 2}:=by
   show(IJ y.chairs k p 2)[k]?= _;rw[vQ,hc];simp
  refine⟨YE (y:=tK y k p 2) (v:=aJB c.parts p) hc2 hp ?_ (by rw[aKP hc hp];exact h1),by rw[j3];exact h2⟩;have h3:p=0∨p=1∨p=2:=by omega
  rcases h3 with rfl|rfl|rfl<;>rfl
 obtain⟨-, -,⟨t1,a1,a2⟩,⟨t2,b1,b2⟩⟩:=X9 h0 hT;obtain⟨g1,g2, -, -⟩:=X9 hf (hT.imp fun t ht=>hsub t ht);refine⟨g1,?_,?_⟩
 ·have:=(g2 t1 (hsub t1 a1)).1;rw[j3,a2]at this;exact this
 ·have:=(g2 t2 (hsub t2 b1)).2;rw[j3,b2]at this;exact this
theorem aKY{y:C7.bC}{k p:Nat}{c:C7.Ch}(hc:y.chairs[k]?= some c)(hp:p<3):({y with chairs:=y.chairs.set k {c with parts:=LB c.parts p 2}}:C7.bC)=L7.tK y k p 2:=by
 unfold L7.tK;congr 1;refine bDE fun i=>?_
 rw[L7.vQ,List.getElem?_set];by_cases h:k=i
 ·subst h;rw[aZK rfl,aZK (aYV.1 hc).1,hc,aZX,aZK rfl];have h3:p=0∨p=1∨p=2:=by omega
  rcases h3 with rfl|rfl|rfl<;>rfl
 ·rw[aZB h];cases y.chairs[i]? with
  |none=>rfl
  |some d=>rw[aZX,aZB h]

def mL(s:aN)(which:Nat)(low high:Int):ByteArray×List Int:=
 let k:=which%(s.row.places.length+s.table.heights.length+3*s.yard.chairs.length)
 if k<s.row.places.length then(⟨#[115,101,101,110]⟩,[(k:Int),2])
 else if k<s.row.places.length+s.table.heights.length then(⟨#[116,105,100,101]⟩,[((k-s.row.places.length:Nat):Int),max 0 ((s.table.heights.getD (k-s.row.places.length) (0,0)).1-low),min 99 ((s.table.heights.getD (k-s.row.places.length) (0,0)).2+high)])
 else(⟨#[112,97,114,116]⟩,[(((k-s.row.places.length-s.table.heights.length) / 3:Nat):Int),(((k-s.row.places.length-s.table.heights.length)%3:Nat):Int),2])
def tA(s:aN)(which:Nat)(low high:Int):ByteArray:=yY (mL s which low high).1 (mL s which low high).2
structure p6(s t:aN):Prop where
 row:∀i j,C1.AQ (C1.truths t.row) i j≤C1.AQ (C1.truths s.row) i j∧C1.BB (C1.truths s.row) i j≤C1.BB (C1.truths t.row) i j
 len:t.row.places.length=s.row.places.length
 tab:∀n,(C2.sN t.table n).1≤(C2.sN s.table n).1∧(C2.sN s.table n).2≤(C2.sN t.table n).2
 levs:t.table.levels=s.table.levels
 yard:(L7.cF t.yard).1.1≤(L7.cF s.yard).1.1∧(L7.cF s.yard).1.2≤(L7.cF t.yard).1.2
section
variable{s:aN}(hst:dK s=0)(hh:kQ s)(hk:mN s){which:Nat}{low high:Int}(hl:0≤low∧low≤1)(hg:0≤high∧high≤1)
include hst hh hk hl hg
theorem aAC:∃act,jF.find? (fun x=>x.1==(mL s which low high).1.data.toList)=some ((mL s which low high).1.data.toList,(mL s which low high).2.length,act)∧(mL s which low high).1.size≤10∧(mL s which low high).2.length≤3∧(32:UInt8)∉(mL s which low high).1.data.toList∧(∀n∈(mL s which low high).2,0≤n∧n≤99)∧
  (act s (mL s which low high).2=.error 2∨∃s',act s (mL s which low high).2=.ok s'∧(dK s'=0∨dK s'=3)∧(dK s'=0→p6 s s')):=by
 obtain⟨h1,h2,h3,h4,h5,M⟩:=nX hst;have hn:=SU hst hh;have O:=hk.pl;have R:=hk.ht;have U:=hk.ch;have V:=hn.row.len0;obtain⟨k,hkd⟩:∃k,which%(s.row.places.length+s.table.heights.length+3*s.yard.chairs.length)=k:=⟨_,rfl⟩
 have hkl:k<s.row.places.length+s.table.heights.length+3*s.yard.chairs.length:=by rw[←hkd];exact Nat.mod_lt _ Yd
 unfold mL;simp only[hkd];by_cases c1:k<s.row.places.length
 ·simp only[aZK c1];refine⟨yQ,aQR,by decide,by simp,by decide,fun n hn=>?_,aYZ ⟨setRow s (IA s.row k),?_,aZE ?_,fun _=>?_⟩⟩
  ·simp only[n4,n3,bBB]at hn;rcases hn with rfl|rfl<;>omega
  ·show(if(s.row.places.length:Int)≤(k:Int)then _ else if(2:Int)<2 then _ else _)=_;rw[aZB Yd,aZB Yd,bAK];rfl
  ·exact A8 (aSQ h1 k).1 h2 h3 h4 h5 M
  ·exact⟨fun i j=>(aSQ h1 k).2 i j,bBN,fun _=>⟨bCJ _,bCJ _⟩,rfl,bCJ _,bCJ _⟩
 ·simp only[aZB c1];by_cases c2:k<s.row.places.length+s.table.heights.length
  ·simp only[aZK c2];obtain⟨i,hi⟩:∃i,k-s.row.places.length=i:=⟨_,rfl⟩
   have hil:i<s.table.heights.length:=by omega
   rw[hi];have G:=aHU (0,0) hil;obtain⟨r,hr⟩:∃r,s.table.heights.getD i (0,0)=r:=⟨_,rfl⟩
   rw[hr]at G ⊢
   have hm:=LE G;have hp:=hn.tab.hts r hm;unfold C2.fW C2.eJ at hp;simp only[aYT,aZI,C1.bX]at hp;have hE:xN s [(i:Int),max 0 (r.1-low),min 99 (r.2+high)]=if min 99 (r.2+high)<max 0 (r.1-low)∨99<min 99 (r.2+high)∨max 0 (r.1-low)+2<min 99 (r.2+high)then .error 2 else .ok (setTable s (C8 s.table i (max 0 (r.1-low)) (min 99 (r.2+high)))):=by
    show(if(s.table.heights.length:Int)≤(i:Int)then _ else _)=_;rw[aZB Yd,bAK];rfl
   refine⟨xN,aOL,by decide,by simp,by decide,fun n hn=>?_,?_⟩
   ·simp only[n4,n3,bBB]at hn;rcases hn with rfl|rfl|rfl<;>omega
   ·rw[hE];split
    ·exact aZE rfl
    ·rename_i hc;simp only[not_or]at hc;obtain⟨g1,g2,g3⟩:=aXA h3 Yd hh G (l:=max 0 (r.1-low)) (u:=min 99 (r.2+high)) Yd Yd Yd Yd Yd;refine aYZ ⟨_,rfl,aZE ?_,fun _=>?_⟩
     ·exact A8 h1 g1 g2 h4 h5 M
     ·exact⟨fun _ _=>⟨bCJ _,bCJ _⟩,rfl,g3,rfl,bCJ _,bCJ _⟩
  ·simp only[aZB c2];obtain⟨m,hm⟩:∃m,k-s.row.places.length-s.table.heights.length=m:=⟨_,rfl⟩
   have hml:m / 3<s.yard.chairs.length:=by omega
   have I:m%3<3:=Nat.mod_lt _ Yy;rw[hm];have hc:=aYU hml;refine⟨vM,aNK,by decide,by simp,by decide,fun n hn=>?_,?_⟩
   ·simp only[n4,n3,bBB]at hn;rcases hn with rfl|rfl|rfl<;>omega
   ·have hE:vM s [((m / 3:Nat):Int),((m%3:Nat):Int),2]=.ok (setYard s (L7.tK s.yard (m / 3) (m%3) 2)):=by
     show(match s.yard.chairs[(((m / 3:Nat):Int)).toNat]? with|none=>_|some x=>if 3≤((m%3:Nat):Int)then _ else if(2:Int)<2 then _ else _)=_;rw[bAK,hc];show(if 3≤((m%3:Nat):Int)then _ else if(2:Int)<2 then _ else _)=_;rw[aZB Yd,aZB Yd,bAK,←aKY hc I]
    refine aYZ ⟨_,hE,?_,fun h0=>?_⟩
    ·by_cases hf:C7.aV (L7.tK s.yard (m / 3) (m%3) 2)=0
     ·exact aZE (A8 h1 h2 h3 h4 hf (aJK h5 M hc I hf).1)
     ·refine aYZ ?_;unfold dK;show(if C1.cK s.row true≠0 then _ else if C2.aV s.table≠0 then _ else if C2.jV s.table true≠0 then _ else if C3.aV s.book≠0 then _ else if C7.aV (L7.tK s.yard (m / 3) (m%3) 2)≠0 then _ else _)=_;rw[aZB Yd,aZB Yd,aZB Yd,aZB Yd,aZK hf]
    ·obtain⟨-, -, -, -,hf, -⟩:=nX h0;have hw:=aJK h5 M hc I hf;exact⟨fun _ _=>⟨bCJ _,bCJ _⟩,rfl,fun _=>⟨bCJ _,bCJ _⟩,rfl,hw.2⟩
theorem aHY(which:Nat):(tA s which low high).size≤50∧((nB s (tA s which low high)).2=0∨(nB s (tA s which low high)).2=2∨(nB s (tA s which low high)).2=3)∧((nB s (tA s which low high)).2=0→p6 s (nB s (tA s which low high)).1):=by
 obtain⟨act,hf,hs,I,G,hr,ha⟩:=aAC hst hh hk hl hg (which:=which);refine⟨?_,?_⟩
 ·have:=aAH hr (mL s which low high).1;unfold tA;omega
 ·have hp:=OF G hr hf;rcases ha with ha|⟨s',ha,hs',hn⟩
  ·unfold tA;rw[aGD hp ha];exact⟨aYZ (aZE rfl),fun h=>by cases h⟩
  ·unfold tA;by_cases h0:dK s'=0
   ·rw[TO hp ha h0];exact⟨aZE rfl,fun _=>hn h0⟩
   ·rw[aHD hp ha h0];exact⟨aYZ (aYZ (hs'.resolve_left h0)),fun h=>absurd h h0⟩
end
theorem QK(ls:List ByteArray)(which:Nat){low high:Int}(hl:0≤low∧low≤1)(hg:0≤high∧high≤1):
  (cA (ls++[tA (cA ls).1 which low high])).2=(cA ls).2++[(nB (cA ls).1 (tA (cA ls).1 which low high)).2]∧
  ((nB (cA ls).1 (tA (cA ls).1 which low high)).2=0∨(((nB (cA ls).1 (tA (cA ls).1 which low high)).2=2∨(nB (cA ls).1 (tA (cA ls).1 which low high)).2=3)∧(cA (ls++[tA (cA ls).1 which low high])).1=(cA ls).1))∧
  ((nB (cA ls).1 (tA (cA ls).1 which low high)).2=0→p6 (cA ls).1 (cA (ls++[tA (cA ls).1 which low high])).1):=by
 obtain⟨h1,h2,h3⟩:=aHY (tU ls) (DU ls) (yN ls) hl hg which;refine⟨by rw[BS];rfl,?_,fun h=>by rw[m1];exact h3 h⟩
 rw[m1];rcases h2 with h|h
 ·exact aZE h
 ·refine aYZ ⟨h,?_⟩;have h0:(nB (cA ls).1 (tA (cA ls).1 which low high)).2≠0:=by rcases h with h|h<;>rw[h]<;>decide
  exact aTQ h0
end L12
variable{P:Program}{X:Cx}{γb:Type}[Membership Nat γb]{bad:γb}{all:Array Oper}{K:Act→World→Prop}{Q:Exit→Act→World→Prop}
variable{σ:bO}{μ:aD}{Ds:List aC}{fls:List Bool}
structure aVR where
 i:Nat
 d:Nat
 ns:List Nat
 Φ:aC→Value→Prop
 up:∀D D' v,Le D D'→Φ D v→Φ D' v
def aSB:List aVR→Nat→Option aVR
 | [],_=>none
 |e::T,i=>match Nat.beq e.i i with|true=>some e|false=>aSB T i
def aWC(T:List aVR)(D:aC):List Nat→bO→(bO→Prop)→Prop
 | [],σ,k=>k σ
 |i::ns,σ,k=>match aSB T i with
  |none=>aWC T D ns σ k
  |some e=>∀v,e.Φ D v→aWC T D ns ((e.d,v)::σ) k
def aXF(P:Program)(X:Cx){γb:Type}[Membership Nat γb](bad:γb)(all:Array Oper)(fls:List Bool)(Q:Exit→Act→World→Prop)(σ:bO)(μ:aD)(Ds:List aC)(T:List aVR)(e:aVR):Prop:=
 ∀(σx:bO) (D:aC),(∀D₁∈Ds,Le D₁ D)→aWC T D e.ns (σ++σx) fun σ'=>WL P X bad all (fun a w=>∃v D',Le D D'∧e.Φ D' v∧Hl X ((e.d,v)::σ') μ (D'::Ds) a w) Q [(fls.getD e.i false,e.i)] σ' μ (D::Ds)
def aWU:List aVR→Bool
 | []=>true
 |e::T=>(T.all fun x=> !Nat.beq e.d x.d)&&aWU T
section
variable{T:List aVR}(hT:aWU T=true)(hσ:(T.all fun e=>(look σ e.d).isNone)=true)(hst:∀e∈T,aXF P X bad all fls Q σ μ Ds T e)
include hT hσ hst
end
namespace L12
open C12 Go.Lib
section
variable{P:Program}{X:Cx}{γb:Type}[Membership Nat γb]{bad:γb}{all:Array Oper}{K:Act→World→Prop}{Q:Exit→Act→World→Prop}
variable{σ:bO}{μ:aD}{Ds:List aC}{os:List (Bool×Nat)}{fl:Bool}{ix d:Nat}{x y:Operand}{ty t t':TypeId}{pos:String}{aft:Array Edge}{g:Option (Nat×Bool)}{k:IntKind}{a b:Nat}
theorem GW(ho:all[ix]?= some ⟨some d,.binOp .rem t x y t',ty,pos,aft,g⟩)(hx:ev σ x=some (.int k (a:Int)))(hy:ev σ y=some (.int k (b:Int)))(h1:0<b)(hr:uN k ((a%b:Nat):Int))(hN:Nat.blt d X.N=true)(hg:dE all σ g)(kk:WL P X bad all K Q os ((d,.int k ((a%b:Nat):Int))::σ) μ Ds):
  WL P X bad all K Q ((fl,ix)::os) σ μ Ds:=G1 ho hx hy Yd Yd hr hN hg kk
theorem aIG(ho:all[ix]?= some ⟨some d,.binOp .quo t x y t',ty,pos,aft,g⟩)(hx:ev σ x=some (.int k (a:Int)))(hy:ev σ y=some (.int k (b:Int)))(h1:0<b)(hr:uN k ((a / b:Nat):Int))(hN:Nat.blt d X.N=true)(hg:dE all σ g)(kk:WL P X bad all K Q os ((d,.int k ((a / b:Nat):Int))::σ) μ Ds):
  WL P X bad all K Q ((fl,ix)::os) σ μ Ds:=KO ho hx hy Yd Yd hr hN hg kk
end
section
variable{s:aN}{k:Nat}
end
end L12
namespace L12
open C12 Go.Lib
theorem JS{lv:Value}{ls:List ByteArray}{D:aC}(hS:Sl D RS 1 lv ls)(hV:mF D)(hf:eR ls=0):Fn prog 11 #[lv] D (fun D' v=>∃v1 v2,v=.tuple #[v1,v2,qI 0]∧iF D' v1 (cA ls).1∧Sl D' RI 1 v2 (cA ls).2):=
 (Q1 lv ls D hS hV).mono fun D' v _ h=>by rw[nV hf]at h;exact h
end L12
namespace L12
open C12 Go.Lib
theorem aFT{s:aN}(h:dK s=0):C1.cK s.row true=0∧C2.jV s.table true=0:=by
 obtain⟨h1,_,h3,_⟩:=nX h;exact⟨h1,h3⟩
end L12
namespace L12
open C12 Go.Lib
theorem aEM{r:C1.dG}(h:C1.cK r true=0):C1.cK r (C1.oG r 0 ((r.places.length:Int)-1))=0∧0<r.places.length:=by
 have hf:C1.aV r=0:=by
  unfold C1.cK at h;split at h
  ·exact h
  ·rename_i hf;simpa using hf
 have hl:=(C1.sC.1 hf).len0;have hp:C1.oG r 0 ((r.places.length:Int)-1)=true:=by
  simp only[C1.oG,C1.gW,aYT,aZI];omega
 rw[hp];exact⟨h,by omega⟩
theorem j5{lv:Value}{ls:List ByteArray}{D:aC}(hS:Sl D RS 1 lv ls)(hV:mF D)(hf:eR ls=0):Fn prog 19 #[lv] D (fun _ v=>v=.tuple #[kX (C1.AQ (C1.truths (cA ls).1.row) 0 ((cA ls).1.row.places.length-1),C1.BB (C1.truths (cA ls).1.row) 0 ((cA ls).1.row.places.length-1)),qI 0]):=
 (zN lv ls D hS hV).mono fun D' v _ h=>by
  have ha:=(aFT (tU ls)).1;obtain⟨h1,h2⟩:=aEM ha;rw[h];unfold zR;rw[nV hf];simp only[bAX,h1];have e:(((cA ls).1.row.places.length:Int)-1).toNat=(cA ls).1.row.places.length-1:=by omega
  rw[e];rfl
theorem DN{tv:Value}{t:C2.aY}{D:aC}{k:Nat}(hr:iJ D tv t)(h:C2.jV t true=0)(hk:k<t.levels.length):Fn prog 29 #[tv,qI (k:Int)] D (fun _ v=>v=.tuple #[kX (C2.sN t (t.levels.getD k 0)),qI 0]):=
 (L2.KH tv t k D hr).mono fun D' v _ hv=>by
  have e:C1.gW (k:Int) 0 ((t.levels.length:Int)-1)=true:=C1.bX.2 Yd;rw[hv,e,h,aZK rfl,bAK]
end L12
namespace L12
open C12 Go.Lib
theorem RA(sv:Value)(s:aN)(w:Nat)(low high:Int)(D:aC)(hs:iF D sv s)(hn:aUC s)(hl:mN s)(hw:w≤255)(h1:0≤low∧low≤1)(h2:0≤high∧high≤1):Fn prog 27 #[sv,.int .u8 (w:Int),qI low,qI high] D (fun _ v=>v=.string (tA s w low high)):=by
 obtain⟨pv,cv,hv,lv,mv,bl,bc,yc,yq,rfl,hL⟩:=hs;unfold dO;have l0:=hn.row.len0;have l1:=hl.pl;have l2:=hl.ht;have l4:=hl.ch;have hmx:max (1:Int) (((s.row.places.length:Int)+(s.table.heights.length:Int))+3*(s.yard.chairs.length:Int))=((s.row.places.length+s.table.heights.length+3*s.yard.chairs.length:Nat):Int):=by omega
 obtain⟨k,hkd⟩:∃k,w%(s.row.places.length+s.table.heights.length+3*s.yard.chairs.length)=k:=⟨_,rfl⟩
 have hkl:k<s.row.places.length+s.table.heights.length+3*s.yard.chairs.length:=by rw[←hkd];exact Nat.mod_lt _ Yd
 refine Zs 84 func27 rfl (fun h0=>aA<|Zu rfl (fun q1 E1 rB G=>Zg rfl<|bT<|bW [] 3 16 32752<|Zh rfl dC rfl<|Zh rfl eB rfl<|Zj 0 rfl dN rfl G rfl<|Zab rfl U25 rfl hL.pl rfl<|Zh rfl bN rfl<|Zh rfl fP rfl ?_));refine Zj 5 rfl lM rfl G rfl<|Zab rfl U29 rfl hL.ht rfl<|Zh rfl dL rfl<|Zh rfl eO rfl<|Zj 14 rfl jE rfl G rfl<|Zab rfl U37 rfl hL.ch rfl<|k9 rfl rfl rfl Yf rfl bDY<|Zg rfl<|Zg rfl<|Zg rfl<|aL<|Za rfl ?_;refine tO rfl U5 U3 rfl Yf rfl bDY<|Za rfl<|Za rfl<|Zaa rfl<|Za rfl<|Zaa rfl<|qW rfl rfl rfl rfl bDY ?_;rw[hmx];refine GW rfl rfl rfl Yd Yf rfl bDY ?_;rw[hkd];refine Zg rfl<|bJ<|Za rfl<|Za rfl<|Zai rfl<|aF<|Zz rfl (fun Y=>?_) (fun Y=>?_)
 ·have c1:k<s.row.places.length:=by omega
  refine aA<|Za rfl<|Zp rfl U25 aM dS rfl (.cons rfl rfl (.cons rfl rfl .nil)) (fun hN hO Z I=>?_);have M:=Sl.ofInts (l:=[_,_]) (n:=2) (cap:=2) I rfl Yd Yd;refine Zc rfl (fun D1 hB=>W1 _ _ [(k:Int),2] _ (M.up RI.up (hB _ Ye)) Ye Yy (by intro n hn;simp only[n4,n3,bBB]at hn;rcases hn with rfl|rfl<;>omega))<|Zg rfl<|aG<|Zap ?_
  exact aE rfl (fun D hD=>by unfold tA mL;simp only[hkd,aZK c1];rfl)
 ·have c1:¬k<s.row.places.length:=by omega
  refine aT<|eH<|Za rfl<|Za rfl<|Za rfl<|Zaa rfl<|Zai rfl<|aF<|Zz rfl (fun hc2=>?_) (fun hc2=>?_)
  ·have c2:k<s.row.places.length+s.table.heights.length:=by omega
   obtain⟨i,hi⟩:∃i,k-s.row.places.length=i:=⟨_,rfl⟩
   have hki:(k:Int)-(s.row.places.length:Int)=(i:Int):=by omega
   have hg:=aHU (0,0) (show i<s.table.heights.length by omega);have hp:=hn.tab.hts _ (LE hg);unfold C2.fW C2.eJ at hp;simp only[aYT,aZI,C1.bX]at hp;refine aA<|Zh rfl bN rfl<|Zh rfl fP rfl<|Zj 5 rfl lM rfl G rfl<|Za rfl<|Za rfl<|Zan rfl ?_;rw[hki];refine Zw rfl U29 cB rfl hL.ht rfl hg (fun b1 o1 hE hF hR hH=>?_);have e1:hE=_:=hF;subst e1;refine Zq rfl jQ rfl hH cB<|Zx rfl iH rfl (fun q2=>bD rfl rfl rfl rfl cB Ya Ya (bR.head) Yk bDY<|aL<|Za rfl<|Za rfl<|Zan rfl ?_);rw[hki];refine Zh rfl mR rfl<|Zm rfl aJ rfl Mm0 rfl<|Za rfl<|Zan rfl<|qW rfl rfl rfl rfl bDY<|Zh rfl oO rfl<|Zm rfl aJ rfl Mm0 rfl<|Za rfl<|Zaa rfl<|OM rfl rfl rfl rfl bDY<|Zp rfl U25 aM dS rfl (.cons rfl rfl (.cons rfl rfl (.cons rfl rfl .nil))) (fun hS hX hI O=>?_);have R:=Sl.ofInts (l:=[_,_,_]) (n:=3) (cap:=3) O rfl Yd Yd;refine Zc rfl (fun D2 hJ=>W1 _ _ [(i:Int),max 0 ((s.table.heights.getD i (0,0)).1-low),min 99 ((s.table.heights.getD i (0,0)).2+high)] _ (R.up RI.up (hJ _ Ye)) Ye Yy Ya2)<|Zg rfl<|aG<|Zap ?_;exact aE rfl (fun D hD=>by unfold tA mL;simp only[hkd,aZB c1,aZK c2,hi];rfl)
  ·have c2:¬k<s.row.places.length+s.table.heights.length:=by omega
   obtain⟨i,hi⟩:∃i,k-s.row.places.length=i:=⟨_,rfl⟩
   obtain⟨m,hm⟩:∃m,i-s.table.heights.length=m:=⟨_,rfl⟩
   have hki:(k:Int)-(s.row.places.length:Int)=(i:Int):=by omega
   have hmi:(i:Int)-(s.table.heights.length:Int)=(m:Int):=by omega
   refine aT<|aA<|Za rfl<|Za rfl<|Zan rfl ?_;rw[hki];refine Za rfl<|Zan rfl ?_;rw[hmi];refine aIG (b:=3) rfl rfl rfl Yd Yf rfl bDY<|Za rfl<|Za rfl<|Zan rfl ?_;rw[hki];refine Za rfl<|Zan rfl ?_;rw[hmi];refine GW (b:=3) rfl rfl rfl Yd Yf rfl bDY<|Zp rfl U25 aM dS rfl (.cons rfl rfl (.cons rfl rfl (.cons rfl rfl .nil))) (fun hY rA hK U=>?_);have V:=Sl.ofInts (l:=[_,_,_]) (n:=3) (cap:=3) U rfl Yd Yd;refine Zc rfl (fun D3 hM=>W1 _ _ [((m / 3:Nat):Int),((m%3:Nat):Int),2] _ (V.up RI.up (hM _ Ye)) Ye Yy Ya2)<|Zg rfl<|aG ?_;exact aE rfl (fun D hD=>by unfold tA mL;simp only[hkd,aZB c1,aZB c2,hi,hm];rfl)
theorem FG(lv:Value)(ls:List ByteArray)(c d:Int)(hc:0≤c∧c≤255)(hd:0≤d∧d≤255)(D:aC)(hS:Sl D RS 1 lv ls)(hV:mF D):Fn prog 6 #[lv,.int .u8 c,.int .u8 d] D (fun _ v=>v=.bool true):=by
 have hsl:=hS.len;obtain⟨w,rfl⟩:=Int.eq_ofNat_of_zero_le hc.1;obtain⟨y,rfl⟩:=Int.eq_ofNat_of_zero_le hd.1;obtain⟨x,hx⟩:∃x,tA (cA ls).1 w ((y%2:Nat):Int) ((y / 2%2:Nat):Int)=x:=⟨_,rfl⟩
 obtain⟨hpl,hpe,hpn⟩:=QK ls w (low:=((y%2:Nat):Int)) (high:=((y / 2%2:Nat):Int)) Yd Yd;rw[hx]at hpl hpe hpn;obtain⟨e,he⟩:∃e,(nB (cA ls).1 x).2=e:=⟨_,rfl⟩
 rw[he]at hpl hpe hpn;have hle2:(cA (ls++[x])).2.length=ls.length+1:=by rw[T9,aYS];rfl
 refine Zs 222 func6 rfl (fun h0=>aA<|Zg rfl<|bJ<|Za rfl<|Zc rfl (fun D1 hD1=>l9 _ ls _ (hS.up RS.up (hD1 _ Ye)))<|Zal rfl<|Za rfl ?_);refine' cR 4 (s:=31) (p:=35) rfl (fun hg1=>?_) (fun hg1=>?_) ?_;rotate_left
 ·refine Zb rfl<|cZ rfl U22 rfl hS rfl rfl ⟨_,rfl,rfl⟩<|fI rfl rfl rfl rfl ⟨_,rfl,rfl⟩<|Zae rfl ?_;exact aQ 3
 ·refine Zf rfl<|Zf rfl<|Zf rfl<|Zad rfl ?_;exact aQ 3
 refine aF<|aP rfl (fun hH=>?_) (fun hH=>?_)
 ·refine aA<|Zc rfl (fun D2 hD2=>K5 _ (hV.up (hD2 _ Ye)))<|Zg rfl<|aG<|Zap ?_;exact aE rfl (fun D hD=>rfl)
 ·obtain⟨hsh,h39⟩:w0 ls=true∧ls.length≤39:=by have h9:=hH;simp only[bAU,Bool.not_eq_false',bAH]at h9;exact⟨h9.1,by omega⟩
  have hI:=W4 hsh;have hst:=tU ls;have hok:=yN ls;have hlv6:=hok.lev;have hn:=SU hst (DU ls);refine aT<|aA<|Za rfl<|Zv rfl (fun D3 hJ=>zO _ ls _ (hS.up RS.up (hJ _ Ye)) (by first|omega|(simp;omega))) (fun v3 D3 hJ hp3=>?_)
  have hq1:=hp3;refine Zv rfl (fun D4 Z=>JS (ls:=ls) (hq1.up RS.up (Z _ Ye)) (hV.up (Z _ Ye)) hI) (fun v4 D4 Z hp4=>?_);obtain⟨w11,w12,rfl,⟨hK,hM,hO,hR,hX,hY,rA,rB,yq1,rfl,G⟩,hes1⟩:=hp4;unfold dO;refine Za rfl<|Zaf rfl<|Zaf rfl<|Zaf rfl<|Zx rfl oL rfl (fun q1=>bD rfl rfl rfl rfl dX Ya Ya (bR.head) (iU G) bDY<|Zg rfl<|Zg rfl<|bJ<|Za rfl<|Zak rfl<|aF ?_);refine Zz rfl (fun hc2=>?_) (fun hc2=>?_)
  ·exact(hc2 rfl).elim
  ·refine aT<|aS<|lI [] 5 [0,2,3,4,5,6,7,8,9,10,1,11,12,13,14] [false,true,true,true,true,true,true,true,true,true,true,false,false,false,false] [(false,0),(true,2),(true,3),(true,4),(true,5),(true,6),(true,7),(true,8),(true,9),(true,10),(true,1),(false,11),(false,12),(false,13),(false,14)] bI (fun _ _ _ h=>kL (P:=prog) (fn:=f6) _ _ _ h) Yg rfl<|Za rfl<|Zy rfl iT rfl Mm0 dX<|Za rfl<|Za rfl<|tO rfl U5 U3 rfl Yf rfl bDY<|GW (b:=2) rfl rfl rfl Yd Yf rfl bDY<|Za rfl<|tO rfl U5 U3 rfl Yf rfl bDY<|aIG (b:=2) rfl rfl rfl Yd Yf rfl bDY ?_;refine GW (b:=2) rfl rfl rfl Yd Yf rfl bDY<|fX rfl rfl rfl (fun D80 hD80=>RO _ ls _ (hS.up RS.up (hD80 _ Ye)) Yd) rfl bDY (fun w80 D81 ν80 hD81 ha80=>Zv rfl (fun D5 hD5=>RA _ (cA ls).1 w _ _ _ ⟨hK,hM,hO,hR,hX,hY,rA,rB,yq1,rfl,G.up (hD5 _ Ye)⟩ hn hok Yd Yd Yd) (fun v5 D5 hD5 hp5=>?_));obtain rfl:=hp5;rw[hx];refine Zp rfl U22 iY tf_z9 rfl (.cons rfl rfl .nil) (fun b901 D901 hD901 hA901=>bB (A:=[]) (ν:=ν80) (B:=[(_,_)]) rfl U22 rfl rfl iY tf_z9 rfl DY rfl rfl rfl ha80 (mI.lit Yl) Ye rfl Yaq Yk Yd (aZE rfl) rfl bDY (fun v81 ν81 ha81=>?_));have hB:bS 9 1 v81 (ls++[x]).length ((ls++[x]).map Value.string) ν81:=by rw[aYS,aZH];exact ha81
   refine aJJ (A:=[]) (B:=[(_,_)]) hB rfl (fun D82 hD82 hF82=>?_);have hall:Sl D82 RS 1 v81 (ls++[x]):=hF82.strs rfl Yaj;refine Zg rfl<|bJ<|Za rfl<|Zc rfl (fun D6 hD6=>l9 _ (ls++[x]) _ (hall.up RS.up (hD6 _ Ye)))<|Zal rfl<|aF<|aP rfl (fun hc3=>?_) (fun hc3=>?_)
   ·refine aA<|Zc rfl (fun D7 hD7=>K5 _ (hV.up (hD7 _ Ye)))<|Zg rfl<|aG<|Zap ?_;exact aE rfl (fun D hD=>rfl)
   ·have hsh2:w0 (ls++[x])=true:=by simpa using hc3
    have hf2:=W4 hsh2;refine aT<|aA<|Za rfl<|Zv rfl (fun D8 hD8=>zO _ (ls++[x]) _ (hall.up RS.up (hD8 _ Ye)) (by first|omega|(simp;omega))) (fun v8 D8 hD8 hp8=>?_)
    have hq2:=hp8;refine Zv rfl (fun D9 hE=>JS (ls:=(ls++[x])) (hq2.up RS.up (hE _ Ye)) (hV.up (hE _ Ye)) hf2) (fun v9 D9 hE hp9=>?_);obtain⟨w21,w22,rfl,⟨pv2,cv2,hv2,lv2,mv2,bl2,bc2,yc2,yq2,rfl,I⟩,M⟩:=hp9;unfold dO;refine Za rfl<|Zaf rfl<|Zaf rfl<|Zaf rfl<|Zx rfl oL rfl (fun q2=>bD rfl rfl rfl rfl dX Ya Ya (bR.head) (iU I) bDY<|Zg rfl<|Zg rfl<|bJ<|Za rfl<|Zak rfl<|Za rfl ?_);refine' cR 6 (s:=73) (p:=79) rfl (fun hg2=>?_) (fun hg2=>?_) ?_;rotate_left
    ·refine Zb rfl<|cZ rfl U43 rfl M rfl rfl ⟨_,rfl,rfl⟩<|Zb rfl<|cZ rfl U22 rfl hall rfl rfl ⟨_,rfl,rfl⟩<|mS rfl rfl rfl rfl ⟨_,rfl,rfl⟩<|Zae rfl ?_;exact aQ 5
    ·refine Zf rfl<|Zf rfl<|Zf rfl<|Zf rfl<|Zf rfl<|Zad rfl ?_;exact aQ 5
    refine aF<|aP rfl (fun hc4=>?_) (fun hc4=>?_)
    ·exact absurd hc4 (by rw[hle2];simp)
    ·have hel:(cA (ls++[x])).2[(((cA (ls++[x])).2.length:Int)-1).toNat]?= some e:=by rw[hle2,hpl,show((((ls.length+1:Nat)):Int)-1).toNat=ls.length by omega,bCZ (by rw[T9];exact aZL _),T9,Nat.sub_self];rfl
     refine aT<|eH<|Za rfl<|Za rfl<|Zab rfl U43 rfl M rfl<|Zan rfl<|Zw rfl U43 pG rfl M rfl hel (fun b1 o1 cs1 hr1 hcl1 hA1=>?_);obtain rfl:cs1=[qI _]:=hr1;refine Zj 0 rfl pD rfl hA1 rfl<|Zg rfl<|aL<|Za rfl<|Zak rfl<|aF<|Zz rfl (fun hF=>?_) (fun hF=>?_)
     ·obtain⟨he23,hsame⟩:=hpe.resolve_left hF;refine aA<|Za rfl<|Zam rfl<|Za rfl ?_;refine' cR 3 (s:=90) (p:=93) rfl (fun hg3=>?_) (fun hg3=>?_) ?_;rotate_left
      ·refine Zb rfl<|sJ rfl rfl rfl rfl ⟨_,rfl,rfl⟩<|Zae rfl ?_;exact aQ 2
      ·refine Zf rfl<|Zf rfl<|Zad rfl ?_;exact aQ 2
      refine Za rfl ?_;refine' dJ 4 (s:=94) (p:=98) rfl (fun hg4=>?_) (fun hg4=>?_) ?_;rotate_left
      ·refine bK rfl iT rfl Mm1 dX n3 rfl ⟨_,rfl,rfl⟩<|bK rfl iT rfl Mm0 dX n3 rfl ⟨_,rfl,rfl⟩<|Zd rfl (fun D10 O=>aAE _ _ (cA ls).1 (cA (ls++[x])).1 _ ⟨hK,hM,hO,hR,hX,hY,rA,rB,yq1,rfl,G.up (O _ Ye)⟩ ⟨pv2,cv2,hv2,lv2,mv2,bl2,bc2,yc2,yq2,rfl,I.up (O _ Ye)⟩)<|Zad rfl ?_;exact aQ 3
      ·refine Zf rfl<|Zf rfl<|Zf rfl<|Zae rfl ?_;exact aQ 3
      refine Za rfl ?_;refine' dJ 2 (s:=99) (p:=101) rfl (fun hg5=>?_) (fun hg5=>?_) ?_;rotate_left
      ·refine Zd rfl (fun D11 hD11=>K5 _ (hV.up (hD11 _ Ye)))<|Zad rfl ?_;exact aQ 1
      ·refine Zf rfl<|Zae rfl ?_;exact aQ 1
      refine Zg rfl<|aG<|Zap ?_;exact aE rfl (fun D hD=>by rw[hsame];rcases he23 with h|h<;>simp[h,IX]<;>rfl)
     ·have he0:e=0:=bDF.1 hF;have hN:=hpn he0;obtain⟨-, -,hT1, -, -,hy1⟩:=nX hst;obtain⟨-, -,hT2, -, -,hy2⟩:=nX (tU (ls++[x]));refine aT<|aA<|Za rfl<|Zv rfl (fun D12 R=>zO _ ls _ (hS.up RS.up (R _ Ye)) (by first|omega|(simp;omega))) (fun v12 D12 R hp12=>?_)
      have hq3:=hp12;refine Zc rfl (fun D13 U=>j5 (ls:=ls) (hq3.up RS.up (U _ Ye)) (hV.up (U _ Ye)) hI)<|Za rfl<|Zaf rfl<|Zaf rfl<|Zx rfl oA rfl (fun q3=>bD rfl rfl rfl rfl gY Ya Ya (bR.head) Yk bDY<|Zg rfl<|aL<|Za rfl<|Zv rfl (fun D14 V=>zO _ (ls++[x]) _ (hall.up RS.up (V _ Ye)) (by first|omega|(simp;omega))) (fun v14 D14 V hp14=>?_))
      have hq4:=hp14;refine Zc rfl (fun D15 Y=>j5 (ls:=(ls++[x])) (hq4.up RS.up (Y _ Ye)) (hV.up (Y _ Ye)) hf2)<|Za rfl<|Zaf rfl<|Zaf rfl<|Zx rfl oA rfl (fun q4=>bD rfl rfl rfl rfl gY Ya Ya (bR.head) Yk bDY<|Zg rfl<|aL<|Zh rfl dL rfl<|dM rfl jC iO rfl Mm3 rfl rfl n3 rfl bDY<|Zc rfl (fun D16 hD16=>L7.pI _ (cA ls).1.yard _ (G.yard.up (hD16 _ Ye)))<|Za rfl ?_);refine Zaf rfl<|Zaf rfl<|Zx rfl kG rfl (fun q5=>bD rfl rfl rfl rfl cU Ya Ya (bR.head) Yk bDY<|Zg rfl<|aL<|Zh rfl dL rfl<|dM rfl jC iO rfl Mm3 rfl rfl n3 rfl bDY<|Zc rfl (fun D17 hD17=>L7.pI _ (cA (ls++[x])).1.yard _ (I.yard.up (hD17 _ Ye)))<|Za rfl<|Zaf rfl<|Zaf rfl ?_);refine Zx rfl kG rfl (fun q6=>bD rfl rfl rfl rfl cU Ya Ya (bR.head) Yk bDY<|Zg rfl<|bJ<|Za rfl<|Zak rfl<|Za rfl ?_);refine' cR 3 (s:=128) (p:=131) rfl (fun hg6=>?_) (fun hg6=>?_) ?_;rotate_left
      ·refine Zb rfl<|mS rfl rfl rfl rfl ⟨_,rfl,rfl⟩<|Zae rfl ?_;exact aQ 2
      ·refine Zf rfl<|Zf rfl<|Zad rfl ?_;exact aQ 2
      refine Za rfl ?_;refine' cR 3 (s:=132) (p:=135) rfl (fun hg7=>?_) (fun hg7=>?_) ?_;rotate_left
      ·refine Zb rfl<|mS rfl rfl rfl rfl ⟨_,rfl,rfl⟩<|Zae rfl ?_;exact aQ 2
      ·refine Zf rfl<|Zf rfl<|Zad rfl ?_;exact aQ 2
      refine Za rfl ?_;refine' cR 3 (s:=136) (p:=139) rfl (fun hg8=>?_) (fun hg8=>?_) ?_;rotate_left
      ·refine Zb rfl<|mS rfl rfl rfl rfl ⟨_,rfl,rfl⟩<|Zae rfl ?_;exact aQ 2
      ·refine Zf rfl<|Zf rfl<|Zad rfl ?_;exact aQ 2
      refine Za rfl ?_;refine' cR 6 (s:=140) (p:=146) rfl (fun hg9=>?_) (fun hg9=>?_) ?_;rotate_left
      ·refine Zi rfl L6 rfl<|Zn rfl aJ rfl Mm2 rfl<|Zi rfl L6 rfl<|Zn rfl aJ rfl Mm3 rfl<|fI rfl rfl rfl rfl ⟨_,rfl,rfl⟩<|Zae rfl ?_;exact aQ 5
      ·refine Zf rfl<|Zf rfl<|Zf rfl<|Zf rfl<|Zf rfl<|Zad rfl ?_;exact aQ 5
      refine Za rfl ?_;refine' cR 6 (s:=147) (p:=153) rfl (fun hg10=>?_) (fun hg10=>?_) ?_;rotate_left
      ·refine Zi rfl K9 rfl<|Zn rfl aJ rfl Mm2 rfl<|Zi rfl K9 rfl<|Zn rfl aJ rfl Mm3 rfl<|DL rfl rfl rfl rfl ⟨_,rfl,rfl⟩<|Zae rfl ?_;exact aQ 5
      ·refine Zf rfl<|Zf rfl<|Zf rfl<|Zf rfl<|Zf rfl<|Zad rfl ?_;exact aQ 5
      refine Za rfl ?_;refine' cR 6 (s:=154) (p:=160) rfl (fun hg11=>?_) (fun hg11=>?_) ?_;rotate_left
      ·refine Zi rfl qJ rfl<|Zn rfl aJ rfl Mm0 rfl<|Zi rfl qJ rfl<|Zn rfl aJ rfl Mm1 rfl<|fI rfl rfl rfl rfl ⟨_,rfl,rfl⟩<|Zae rfl ?_;exact aQ 5
      ·refine Zf rfl<|Zf rfl<|Zf rfl<|Zf rfl<|Zf rfl<|Zad rfl ?_;exact aQ 5
      refine Za rfl ?_;refine' cR 6 (s:=161) (p:=167) rfl (fun hg12=>?_) (fun hg12=>?_) ?_;rotate_left
      ·refine Zi rfl qT rfl<|Zn rfl aJ rfl Mm0 rfl<|Zi rfl qT rfl<|Zn rfl aJ rfl Mm1 rfl<|DL rfl rfl rfl rfl ⟨_,rfl,rfl⟩<|Zae rfl ?_;exact aQ 5
      ·refine Zf rfl<|Zf rfl<|Zf rfl<|Zf rfl<|Zf rfl<|Zad rfl ?_;exact aQ 5
      refine Za rfl ?_;refine' cR 10 (s:=168) (p:=178) rfl (fun hg13=>?_) (fun hg13=>?_) ?_;rotate_left
      ·refine Zi rfl bN rfl<|Zi rfl gR rfl<|Zn rfl dN rfl (List.Mem.tail _ (List.Mem.tail _ Mm3)) rfl<|cZ rfl U25 rfl G.lev rfl rfl ⟨_,rfl,rfl⟩<|Zi rfl bN rfl<|Zi rfl gR rfl<|Zn rfl dN rfl (List.Mem.tail _ Mm3) rfl<|cZ rfl U25 rfl I.lev rfl rfl ⟨_,rfl,rfl⟩<|mS rfl rfl rfl rfl ⟨_,rfl,rfl⟩<|Zae rfl ?_;exact aQ 9
      ·refine Zf rfl<|Zf rfl<|Zf rfl<|Zf rfl<|Zf rfl<|Zf rfl<|Zf rfl<|Zf rfl<|Zf rfl<|Zad rfl ?_;exact aQ 9
      refine aF<|aP rfl (fun hc6=>?_) (fun hc6=>?_)
      ·exact absurd hc6 (by have h8:=hN.row 0 ((cA ls).1.row.places.length-1);have h9:=hN.yard;rw[hN.len,hN.levs,hy1,hy2];simp;omega)
      ·refine aT<|eH<|Zg rfl<|aF<|Zar<|Zl Nat (fun j=>(cA ls).1.table.levels.length-j) (fun j=>j≤(cA ls).1.table.levels.length) (fun j=>[(23,qI (j:Int))]) [(11,_),(7,_),(6,_)] (fun j=>[D14,D12,D9,D8,D82,D901,D5,D81,D4,D3,D]) 0 ⟨Yb,bDY⟩ ?_;rintro j h1;refine eH<|Za rfl<|Zh rfl bN rfl<|Zh rfl gR rfl<|Zm rfl dN rfl (List.Mem.tail _ (List.Mem.tail _ Mm3)) rfl<|Zab rfl U25 rfl G.lev rfl<|Zai rfl<|aF<|Zz rfl (fun hc7=>?_) (fun hc7=>?_)
       ·have hjl:j<(cA ls).1.table.levels.length:=by omega
        have hjl2:j<(cA (ls++[x])).1.table.levels.length:=by rw[hN.levs];exact hjl
        refine aT<|aS<|Zar<|aA<|Zh rfl bN rfl<|dM rfl iI gT rfl (List.Mem.tail _ (List.Mem.tail _ Mm3)) rfl rfl n3 rfl bDY<|Za rfl<|Zc rfl (fun D18 hD18=>DN (G.table.up (hD18 _ Ye)) hT1 hjl)<|Za rfl<|Zaf rfl<|Zaf rfl<|Zx rfl iH rfl (fun q7=>?_);refine bD rfl rfl rfl rfl cB Ya Ya (bR.head) Yk bDY<|Zg rfl<|aL<|Zh rfl bN rfl<|dM rfl iI gT rfl (List.Mem.tail _ (List.Mem.tail _ Mm3)) rfl rfl n3 rfl bDY<|Za rfl<|Zc rfl (fun D19 hD19=>DN (I.table.up (hD19 _ Ye)) hT2 hjl2)<|Za rfl<|Zaf rfl<|Zaf rfl<|Zx rfl iH rfl (fun q8=>bD rfl rfl rfl rfl cB Ya Ya (bR.head) Yk bDY ?_);refine Zg rfl<|aL<|Za rfl<|Zak rfl<|Za rfl ?_;refine' cR 3 (s:=203) (p:=206) rfl (fun hg14=>?_) (fun hg14=>?_) ?_;rotate_left
        ·refine Zb rfl<|mS rfl rfl rfl rfl ⟨_,rfl,rfl⟩<|Zae rfl ?_;exact aQ 2
        ·refine Zf rfl<|Zf rfl<|Zad rfl ?_;exact aQ 2
        refine Za rfl ?_;refine' cR 6 (s:=207) (p:=213) rfl (fun hg15=>?_) (fun hg15=>?_) ?_;rotate_left
        ·refine Zi rfl mR rfl<|Zn rfl aJ rfl Mm0 rfl<|Zi rfl mR rfl<|Zn rfl aJ rfl Mm1 rfl<|fI rfl rfl rfl rfl ⟨_,rfl,rfl⟩<|Zae rfl ?_;exact aQ 5
        ·refine Zf rfl<|Zf rfl<|Zf rfl<|Zf rfl<|Zf rfl<|Zad rfl ?_;exact aQ 5
        refine Za rfl ?_;refine' cR 6 (s:=214) (p:=220) rfl (fun hg16=>?_) (fun hg16=>?_) ?_;rotate_left
        ·refine Zi rfl oO rfl<|Zn rfl aJ rfl Mm0 rfl<|Zi rfl oO rfl<|Zn rfl aJ rfl Mm1 rfl<|DL rfl rfl rfl rfl ⟨_,rfl,rfl⟩<|Zae rfl ?_;exact aQ 5
        ·refine Zf rfl<|Zf rfl<|Zf rfl<|Zf rfl<|Zf rfl<|Zad rfl ?_;exact aQ 5
        refine aF<|aP rfl (fun hc8=>?_) (fun hc8=>?_)
        ·exact absurd hc8 (by have h8:=hN.tab ((cA ls).1.table.levels.getD j 0);rw[hN.levs];simp at h8 ⊢;omega)
        ·refine bM<|Zat<|Zaq<|aU<|Za rfl<|Zaa rfl<|Zg rfl<|Zah ?_;exact aK 36 (j+1) Yd Yd ⟨Yb,bDY⟩ rfl rfl (List.Sublist.cons _ (List.Sublist.cons _ Mm5)) (aH)
       ·refine aW<|Zas<|Zas<|Zav<|Zaq<|aA<|Zc rfl (fun D20 hD20=>K5 _ (hV.up (hD20 _ Ye)))<|Zg rfl<|aG ?_;exact aE rfl (fun D hD=>rfl)
end L12
end Go.Fs
