/- Of BookAsks. -/
import Derived.Test.YtmmdpkkcedmgoaaGreatDoorZBookAsksAI
namespace Go.Fs
open Go.Proofs Tryz
namespace L1
open C1
theorem Sl.empty{D:aC}{a:Option Addr}:Sl D RI 1 (.slice a 0 0) ([]:List Int):=⟨a,0,rfl,bMH _,Yf,bMF rfl⟩
theorem Sl.one{D:aC}{b:Nat}{v:Γ}{t:List Int}(hA:At D b 0 [v])(h:Sl D RI 1 v t):Sl D RL 1 (qS b 1 1) [t]:=
  Sl.of_at hA rfl (bMH _) Yd fun i x hx=>by
    cases i with
    | zero => obtain rfl : t = x := by simpa using hx
              exact⟨[v],⟨v,rfl,h⟩,rfl,rfl⟩
    |succ i=>simp at hx
theorem RZ(p:Int)(t:List Int)(m:Nat):(J4 p t m).length≤m:=by
 induction m with
 |zero=>simp[J4]
 |succ m ih=>
  by_cases h:p=2∨p=(m:Int)
  ·rw[UC h];simp;omega
  ·rw[aDH h];omega
theorem LQ(p:Int)(out:List (List Int)):(kB p out).length≤2*out.length:=by
 induction out with
 |nil=>simp[kB]
 |cons t out ih=>
  unfold kB at ih ⊢
  rw[bMS,bLT,bLU];have:=RZ p t 2;omega
theorem aOT(p:Int)(out:List (List Int))(k:Nat)(t:List Int)(m:Nat):(kB p (out.take k)++J4 p t m).length≤2*out.length+m:=by
 have h1:=LQ p (out.take k);have h2:=RZ p t m;have h3:(out.take k).length≤out.length:=by rw[bNT];omega
 rw[bLT];omega
theorem WW{l:List Int}{i:Nat}{p:Int}(h:l[i]?= some p):(l.take (i+1)).foldl (fun o p=>kB p o) [[]]=kB p ((l.take i).foldl (fun o p=>kB p o) [[]]):=by
 rw[bLW,h,bMR,bNM];rfl
theorem aLV{r:dO}(hok:mD r)(i:Nat):((r.places.take i).foldl (fun o p=>kB p o) [[]]).length≤512:=by
 rw[U2];have h1:=sO (r.places.take i);have h2:(r.places.take i).length≤9:=by have:=hok.len9;rw[bNT];omega
 have h3:2^(r.places.take i).length≤2^9:=bNQ Yd h2;omega
theorem YA{r:dO}(hok:mD r){i:Nat}{t:List Int}(h:t∈(r.places.take i).foldl (fun o p=>kB p o) [[]]):t.length≤9:=by
 rw[U2]at h;have:=(qL h).1;have:=hok.len9;rw[bNT]at *;omega
theorem YX(rv:Γ)(r:dO)(D:aC)(hr:oI D rv r)(hok:mD r):Fn prog 32 #[rv] D (fun D' v=>Sl D' RL 1 v (cE r.places)):=by
 obtain⟨pv,cv,rfl,hp,hc⟩:=hr;have hl:=hp.len;refine Zw 56 func32 rfl fun h0=>aA<|Zy rfl fun q1 E1 hE1 Y=>Zf rfl<|aJ<|Zt rfl U35 aI cO rfl .nil fun b901 D901 hH hI=>Zt rfl U57 fK vD rfl (.cons rfl rfl .nil) fun b902 R hJ Z=>Zf rfl<|bG<|Zf rfl<|aF<|Za0 ?_;refine bK (γ:=Nat×Γ×aC) (fun g=>r.places.length-g.1) (fun g=>g.1≤r.places.length∧Sl g.2.2 RL 1 g.2.1 ((r.places.take g.1).foldl (fun o p=>kB p o) [[]])) (fun g=>[(4,qI (g.1:Int)),(3,g.2.1)]) [(2,_),(1,_)] (fun g=>[g.2.2,E1,D]) (0,_,R) ⟨Yf,Sl.one (Z) (Sl.empty)⟩ ⟨Ya,Ya,bRD⟩ bQ ((fun D0 h=>by simp only[bLO,n4,bNV]at h;rcases h with h|h|h;exact⟨R,Yf,h▸Le.refl _⟩;exact⟨E1,Yf,h▸Le.refl _⟩;exact⟨D,Yf,h▸Le.refl _⟩)) ?_
 rintro⟨i,outv,Do⟩ ⟨h1,ho⟩;simp only at h1 ho;have hol:=aLV hok i;have hol2:=ho.len;refine bZ<|Za rfl<|Zj rfl iW rfl<|Zh 0 rfl cF rfl Y rfl<|Zah rfl U35 rfl hp rfl<|Zam rfl<|aF<|Zaf rfl (fun hc1=>?_) fun hc1=>?_
 ·have hi:i<r.places.length:=by omega
  obtain⟨p,hx⟩:=cR r.places i;refine aQ<|Za2<|Za0<|aA<|Zf rfl<|bG<|Zf rfl<|aF<|Za0<|fZ (γ:=Nat×Γ×List Γ×aD×aC) (fun g=>((r.places.take i).foldl (fun o p=>kB p o) [[]]).length-g.1) (fun g=>g.1≤((r.places.take i).foldl (fun o p=>kB p o) [[]]).length∧bM 35 1 g.2.1 g.2.2.1.length g.2.2.1 g.2.2.2.1∧LA g.2.2.2.2 g.2.2.1 (kB p (((r.places.take i).foldl (fun o p=>kB p o) [[]]).take g.1))) (fun g=>[(6,qI (g.1:Int)),(5,g.2.1)]) [(14,_),(13,_),(12,_),(11,_),(10,_),(4,_),(3,_),(2,_),(1,_)] (fun g=>g.2.2.2.1++[]) (fun g=>[g.2.2.2.2,Do,E1,D]) (0,qN,[],[],Do) ⟨Yf,Xar,by simpa [kB]using LA.nil⟩ ⟨Ya,Ya,bRD⟩ bQ Mm5 ((fun D0 h=>by simp only[bLO,n4,bNV]at h;rcases h with h|h|h|h;exact⟨Do,Yf,h▸Le.refl _⟩;exact⟨Do,Yf,h▸Le.refl _⟩;exact⟨E1,Yf,h▸Le.refl _⟩;exact⟨D,Yf,h▸Le.refl _⟩)) ?_
  rintro⟨k,v,vs,ν,Dn⟩ ⟨h2,ha,hla⟩;simp only at h2 ha hla;have hvl:=hla.len;refine bZ<|Za rfl<|Za rfl<|Zah rfl U57 rfl ho rfl<|Zam rfl<|aF<|Zaf rfl (fun hc2=>?_) fun hc2=>?_
  ·have hk:k<((r.places.take i).foldl (fun o p=>kB p o) [[]]).length:=by omega
   obtain⟨t,ht⟩:=cR ((r.places.take i).foldl (fun o p=>kB p o) [[]]) k;have htl:=YA hok (n5 ht);refine aQ<|Za2<|Za0<|aA<|Zf rfl<|aF<|Za0<|fZ (γ:=Nat×Γ×List Γ×aD×aC) (fun g=>2-g.1) (fun g=>g.1≤2∧bM 35 1 g.2.1 g.2.2.1.length g.2.2.1 g.2.2.2.1∧LA g.2.2.2.2 g.2.2.1 (kB p (((r.places.take i).foldl (fun o p=>kB p o) [[]]).take k)++J4 p t g.1)) (fun g=>[(7,qI (g.1:Int)),(5,g.2.1)]) [(20,_),(19,_),(18,_),(17,_),(6,_),(14,_),(13,_),(12,_),(11,_),(10,_),(4,_),(3,_),(2,_),(1,_)] (fun g=>g.2.2.2.1++[]) (fun g=>[g.2.2.2.2,Do,E1,D]) (0,v,vs,ν,Dn) ⟨Yf,ha,by simpa [J4]using hla⟩ ⟨Ya,Ya,bRD⟩ bQ Mm5 (Yx) ?_;rintro⟨m,v,vs,ν,Dn⟩ ⟨h3,ha,hla⟩;simp only at h3 ha hla;have hvl:=hla.len;have hsl:=aOT p ((r.places.take i).foldl (fun o p=>kB p o) [[]]) k t m;refine bZ<|Za rfl<|gX rfl rfl rfl rfl bRD<|aF<|Zaf rfl (fun hc3=>?_) fun hc3=>?_
   ·have hm:m<2:=by omega
    refine aQ<|Za2<|Za0<|aA<|Zj rfl iW rfl<|Zh 0 rfl cF rfl Y rfl<|Za rfl<|jA rfl hp rfl hx fun b1 o1=>Was ?_;refine' dQ 8 (s:=33) (p:=41) rfl (fun hK=>?_) (fun hK=>?_) ?_;rotate_left
    ·refine Zk rfl iW rfl<|Zi 0 rfl cF rfl Y rfl<|Zb rfl<|eA rfl U35 aI rfl hp rfl Yd hx rfl ⟨_,rfl,rfl⟩ fun b2 o2 hN hO hcl2 hP=>?_;obtain rfl:hN=[qI _]:=hO;refine Zi 0 rfl aH rfl hP rfl<|Zb rfl<|Wbi ?_;exact aN 7
    ·refine Wal ?_;exact aN 7
    refine aF<|Zag rfl (fun hB=>?_) fun hB=>?_
    ·have hpm:p=2∨p=(m:Int):=by simpa using hB
     refine aP<|Za rfl<|Zt rfl U35 aI cO rfl .nil fun b903 D903 hR hS=>Za rfl<|Za rfl<|Zx rfl U57 fK rfl ho rfl ht fun b3 o3 cs3 hX hcl3 hY=>?_;obtain⟨w3,rfl,rA⟩:=hX;refine Zh 0 rfl cF rfl hY rfl<|aY (([]:aD)++[]++(ν++[])) rfl<|aU (A:=[]) (ν:=[]) (B:=ν++[]) rfl U35 rfl rfl aI cO rfl kD rfl rfl rfl bM.nil (lD.ints rA) Yf Yf rfl (dS _) Yd (bMF rfl) rfl bRD fun v8 ν8 rB=>Za rfl<|Zt rfl U35 aI cO rfl (.cons rfl rfl .nil) fun b904 D904 hD904 I=>?_;have hS904:=Sl.ofInts (l:=[_]) (n:=1) (cap:=1) I rfl Yd Yd;refine aU (A:=[]) (B:=ν++[]) rfl U35 rfl rfl aI cO rfl kD rfl rfl rfl rB (lD.lit I) Yf rfl Yf Yk Yd (bMF rfl) rfl bRD fun v9 ν9 hE=>?_;have ha9':bM 3 1 v9 (t.length+1) (ints (t++[(m:Int)])) ν9:=by rw[←eV,show ints [(m:Int)]=[qI (m:Int)]from rfl];simpa using hE
     refine SB (A:=[]) (B:=ν++[]) ha9' rfl fun D9 hD9 hF9=>?_;have hw9:=hF9.ints Yf Yd;refine Zt rfl U57 fK vD rfl (.cons hE.cells1 rfl .nil) (fun b905 U O hF=>aU (A:=[]) (B:=[]) rfl U57 rfl rfl fK vD rfl MM rfl rfl rfl ha (lD.lit hF) Yf rfl Yf (by simpa using hE.cell1) Yd (bMF rfl) rfl bRD fun v7 ν7 ha7=>?_);have V:=(hla.up (O Dn Yf)).snoc (hw9.up RI.up (O D9 Yf));rw[bMC,←UC hpm]at V;refine Wt ?_;exact aL 28 (m+1,v7,vs++[v9],ν7,U) ⟨Yn,by simpa using ha7,V⟩ Yn ⟨Ya,Ya,bRD⟩ rfl rfl Mm5 ((fun D0 h=>by simp only[bLO,n4,bNV]at h;rcases h with h|h|h|h;exact⟨U,Yf,h▸Le.refl _⟩;exact⟨Do,Yf,h▸Le.refl _⟩;exact⟨E1,Yf,h▸Le.refl _⟩;exact⟨D,Yf,h▸Le.refl _⟩))
    ·have hpm:¬(p=2∨p=(m:Int)):=by simpa using hB
     refine Wbs ?_;exact aL 15 (m+1,v,vs,ν,Dn) ⟨Yn,ha,by simp only;rw[aDH hpm];exact hla⟩ Yn ⟨Ya,Ya,bRD⟩ rfl rfl Mm5 (Yx)
   ·obtain rfl:m=2:=by omega
    refine Wbn ?_;exact aL 12 (k+1,v,vs,ν,Dn) ⟨Yn,ha,by simp only;rw[YC ht];exact hla⟩ Yn ⟨Ya,Ya,bRD⟩ rfl rfl Mm5 (Yx)
  ·obtain rfl:k=((r.places.take i).foldl (fun o p=>kB p o) [[]]).length:=by omega
   rw[bMP]at hla;refine Za5<|Za1<|Za1<|Za6<|Zay<|zE (A:=[]) (B:=[]) ha rfl fun D8 hD8 hF8=>?_;have hs8:=hF8.lists hla (hD8 Dn Yf) (by have:=LQ p ((r.places.take i).foldl (fun o p=>kB p o) [[]]);omega)
   refine aP<|Za rfl<|Wt ?_;exact aL 18 (i+1,v,D8) ⟨Yn,by simp only;rw[WW hx];exact hs8⟩ Yn ⟨Ya,Ya,bRD⟩ rfl rfl Mm5 fun D0 h=>by simp only[bLO,n4,bNV]at h;rcases h with h|h|h;exact⟨D8,Yf,h▸Le.refl _⟩;exact⟨E1,Yf,h▸Le.refl _⟩;exact⟨D,Yf,h▸Le.refl _⟩
 ·obtain rfl:i=r.places.length:=by omega
  rw[bMP,U2]at ho;refine Wl ?_;exact aE rfl fun D hD=>ho.up RL.up (hD _ Yf)
theorem aSA{r:dO}(hok:mD r):(cE r.places).length≤512:=by
 have h1:=sO r.places;have h3:2^r.places.length≤2^9:=bNQ Yd hok.len9;omega
theorem GN{α:Type}{l:List α}{p:α→Bool}{k:Nat}{x:α}(hx:l[k]?= some x)(h:p x=true):(l.take (k+1)).filter p=(l.take k).filter p++[x]:=by
 rw[bLW,hx,bMR,bMY,bOA,bMG h];rfl
theorem NR{α:Type}{l:List α}{p:α→Bool}{k:Nat}{x:α}(hx:l[k]?= some x)(h:p x=false):(l.take (k+1)).filter p=(l.take k).filter p:=by
 rw[bLW,hx,bMR,bMY,bOA,bLX (by simp[h])];simp
theorem MJ{r:dO}{t:List Int}(h:t∈cE r.places):eO r t=true:=by
 have key:∀(l t:List Int),t∈cE l→(t.length==l.length)=true∧((t.zip l).all fun x=>qA x.1 x.2)=true:=by
  intro l;induction l with
  |nil=>intro t h;simp[cE]at h;subst h;simp
  |cons p ps ih=>
   intro t h;simp only[cE,bMD]at h;rcases h with h|h
   ·split at h
    ·rename_i hp;obtain⟨u,hu,rfl⟩:=GE.1 h;obtain⟨h1,h2⟩:=ih u hu;refine⟨Xae,?_⟩;rw[bPM,bPS,h2];rcases hp with rfl|rfl<;>rfl
    ·simp at h
   ·split at h
    ·rename_i hp;obtain⟨u,hu,rfl⟩:=GE.1 h;obtain⟨h1,h2⟩:=ih u hu;refine⟨Xae,?_⟩;rw[bPM,bPS,h2];rcases hp with rfl|rfl<;>rfl
    ·simp at h
 obtain⟨h1,h2⟩:=key r.places t h;unfold eO;rw[h1,h2];rfl
theorem aLZ{r:dO}{t:List Int}(_hm:t∈cE r.places)(h:(eO r t&&fits r t)=true):fits r t=true:=(Bool.and_eq_true_iff.1 h).2
theorem aHK{r:dO}{t:List Int}(hm:t∈cE r.places)(_hok:mD r)(h:(eO r t&&fits r t)=false):fits r t=false:=by
 rw[MJ hm]at h;simpa using h
theorem x6(rv:Γ)(r:dO)(D:aC)(hr:oI D rv r)(hok:mD r):Fn prog 14 #[rv] D (fun D' v=>Sl D' RL 1 v (truths r)):=by
 have U:=hr;obtain⟨pv,cv,rfl,hp,hc⟩:=hr;have hal:=aSA hok;refine Zw 28 func14 rfl fun h0=>aA<|Zy rfl fun q1 E1 hY V=>Zf rfl<|aJ<|Zf rfl<|aJ<|Zv rfl w0 rfl V L0<|Zaa rfl (fun Z Y=>YX _ r _ (U.up (Y _ Yf)) hok) fun v1 Z Y hB=>?_;have hS:=hB;refine Zf rfl<|bG<|Zf rfl<|aF<|Za0<|Zc (Nat×Γ×List Γ×aD) (fun g=>(cE r.places).length-g.1) (fun g=>g.1≤(cE r.places).length∧bM 35 1 g.2.1 g.2.2.1.length g.2.2.1 g.2.2.2∧LA Z g.2.2.1 (((cE r.places).take g.1).filter (fits r))) (fun g=>[(5,qI (g.1:Int)),(3,g.2.1)]) [(4,_),(2,_),(1,_)] (fun g=>g.2.2.2++[]) (fun g=>[Z,E1,D]) (0,qN,[],[]) ⟨Yf,Xar,by simpa using LA.nil⟩ ⟨Ya,Ya,bRD⟩ Mm5 ?_;rintro⟨k,v,vs,ν⟩ ⟨h1,ha,hla⟩;simp only at h1 ha hla;have hvl:=hla.len;have hfl:=bNF (fits r) ((cE r.places).take k);have htk:((cE r.places).take k).length≤k:=bOT _ _;refine bZ<|Za rfl<|Za rfl<|Zah rfl U57 rfl hS rfl<|Zam rfl<|aF<|Zaf rfl (fun hc1=>?_) fun hc1=>?_
 ·have hk:k<(cE r.places).length:=by omega
  obtain⟨t,ht⟩:=cR (cE r.places) k;have htm:=n5 ht;have htr:oX r t:=qL htm;refine aQ<|Za2<|Za0<|Za2<|bS [] 3 6 30<|Zv rfl w0 rfl V L0<|Za rfl<|Za rfl<|Zx rfl U57 fK rfl hS rfl ht fun b1 o1 rA hE hP hH=>?_;obtain⟨w1,rfl,hI⟩:=hE;refine Zh 0 rfl cF rfl hH rfl<|Zd rfl (fun D2 I=>NL _ _ r t _ (U.up (I _ Yf)) (hI.up RI.up (I _ Yf)) hok)<|aF<|Zag rfl (fun hc2=>?_) fun hc2=>?_
  ·have hfy:=(aLZ htm hc2)
   refine aP<|Za rfl<|Za rfl<|Za rfl<|Zx rfl U57 fK rfl hS rfl ht fun b2 o2 rB hJ hR hK=>?_;obtain⟨w2,rfl,O⟩:=hJ;refine Zh 0 rfl cF rfl hK rfl<|Zt rfl U57 fK vD rfl (.cons O.cells1 rfl .nil) (fun hX D901 hN R=>aU (A:=[]) (B:=_) rfl U57 rfl rfl fK vD rfl MM rfl rfl rfl ha (lD.lit R) Yf rfl Yf (by simpa using O.cell1) Yd (bMF rfl) rfl bRD fun v1 ν1 hO=>Wt ?_);exact aL 23 (k+1,v1,vs++[w2],ν1) ⟨Yn,by simpa using hO,by simp only;rw[GN ht hfy];exact hla.snoc O⟩ Yn ⟨Ya,Ya,bRD⟩ rfl rfl Mm5 fun D h=>⟨D,bMJ _ (h),Le.refl D⟩
  ·have hfn:=aHK htm hok hc2;refine Wbs ?_;exact aL 15 (k+1,v,vs,ν) ⟨Yn,ha,by simp only;rw[NR ht hfn];exact hla⟩ Yn ⟨Ya,Ya,bRD⟩ rfl rfl Mm5 (aK)
 ·obtain rfl:k=(cE r.places).length:=by omega
  rw[bMP]at hla;refine Za5<|Za1<|Za1<|Za6<|Zay<|aA<|Za rfl<|Zf rfl<|aG<|dU (A:=[]) (B:=[]) ha rfl fun D2 I hF=>?_;exact aE rfl fun D' hD=>(hF.lists hla (I _ Yf) (by have:=bNF (fits r) (cE r.places);omega)).up RL.up (hD _ Yf)
end L1
namespace L2
open L1
open C2
open C1 (gU bN rC pH)
structure T3(t:aW):Prop where
 len:t.heights.length=4
 hts:∀r∈t.heights,0≤r.1∧r.1≤r.2∧r.2≤99∧r.2≤r.1+2
 step:0≤t.step∧t.step≤99
 mks:t.marks.length≤5
 mark:∀m∈t.marks,0≤m.frm∧m.frm≤m.to∧m.to≤3
theorem bIB{q:Nat}{o:Obj}{ν B:aD}(h:(List.map (fun p=>p.1) ((q,o)::(ν++B))).Nodup):∀p∈ν,p.1∉[q]:=by
 intro p hp hm;obtain rfl:p.1=q:=by simpa using hm
 exact(bNP.1 h).1 (GE.2 ⟨p,bMA _ hp,rfl⟩)
def H2(r:Int×Int):Nat:=(r.2-r.1+1).toNat
theorem NK{r:Int×Int}(h:0≤r.1∧r.1≤r.2∧r.2≤99∧r.2≤r.1+2):((H2 r:Nat):Int)=r.2-r.1+1:=by unfold H2;omega
def pM:List (Int×Int)→Nat
 | []=>1
 |r::rs=>H2 r*pM rs
def rP:List (Int×Int)→Nat→List Int
 | [],_=>[]
 |r::rs,n=>(r.1+((n%H2 r:Nat):Int))::rP rs (n / H2 r)
def mY(step:Int):Option Int→List Int→Bool
 |_,[]=>true
 |p,n::l=>lG step p n&&mY step (some n) l
def aLT:List (Int×Int)→List Int→Prop
 | [],[]=>True
 |r::rs,x::l=>(r.1≤x∧x≤r.2)∧aLT rs l
 |_,_=>False
theorem XM{rs:List (Int×Int)}{k:Nat}{r:Int×Int}(h:rs[k]?= some r):pM (rs.drop k)=H2 r*pM (rs.drop (k+1)):=by
 obtain⟨hk,rfl⟩:=bLS.1 h;rw[bNC hk];rfl
theorem aIY{rs:List (Int×Int)}{k n:Nat}{r:Int×Int}(h:rs[k]?= some r):rP (rs.drop k) n=[r.1+((n%H2 r:Nat):Int)]++rP (rs.drop (k+1)) (n / H2 r):=by
 obtain⟨hk,rfl⟩:=bLS.1 h;rw[bNC hk];rfl
theorem aXD{k:Nat}(h:k≤4):3^k≤81:=bNQ (n:=3) Yu h
theorem aMA{m k s:Nat}(h:m≤3^k)(hs:s≤3):m*s≤3^(k+1):=by rw[Nat.pow_succ];exact bQJ h hs
theorem aPE{step:Int}{l:List Int}(h:1≤l.length):mY step none l=mY step (l[1-1]?) (l.drop 1):=by
 match l,h with
 |x::l,_=>rfl
theorem LD{step z x:Int}{l:List Int}{k:Nat}(hz:l[((k:Int)-1).toNat]?= some z)(hx:l[(k:Int).toNat]?= some x)(h1:1≤k):mY step (l[k-1]?) (l.drop k)=(lG step (some z) x&&mY step (l[k]?) (l.drop (k+1))):=by
 rw[show((k:Int)-1).toNat=k-1 by omega]at hz;rw[bNI]at hx;obtain⟨hk,rfl⟩:=bLS.1 hx;rw[hz,hx,bNC hk];rfl
theorem j4:∀{rs:List (Int×Int)} {l:List Int},aLT rs l→l.length=rs.length
 | [],[],_=>rfl
 |_::_,_::_,h=>by rw[bLU,bLU,j4 h.2]
theorem aAB:∀{rs:List (Int×Int)} {l:List Int} {k:Nat} {x:Int} {r:Int×Int},aLT rs l→l[k]?= some x→rs[k]?= some r→r.1≤x∧x≤r.2
 | [],[],_,_,_,_,h,_=>by simp at h
 |_::_,_::_,0,_,_,h,h1,h2=>by
  simp only[List.getElem?_cons_zero,bPV]at h1 h2;subst h1;subst h2;exact h.1
 |_::_,_::_,k+1,_,_,h,h1,h2=>aAB (k:=k) h.2 Xae Xal
theorem AE{t:aW}(h4:T3 t){l:List Int}(h:aLT t.heights l):∀x∈l,0≤x∧x≤99:=fun x hx=>by
 obtain⟨k,hk,rfl⟩:=List.getElem_of_mem hx;have hl:=j4 h;have h1:=aAB h (bLR hk) (bLR Yd);have h2:=h4.hts _ (List.getElem_mem (show k<t.heights.length by omega));omega
theorem aCL:∀{rs:List (Int×Int)},(∀r∈rs,H2 r≤3)→pM rs≤3^rs.length
 | [],_=>bMH _
 |r::rs,h=>by
  rw[pM,bLU,Nat.pow_succ,Nat.mul_comm];exact bQJ (aCL fun q hq=>h q (LE _ hq)) (h r bLP)
theorem TR{t:aW}(h4:T3 t):pM t.heights≤81:=by
 have:=aCL (rs:=t.heights) fun r hr=>by have h1:=h4.hts r hr;have:=NK h1;omega
 rw[h4.len]at this;exact this
theorem aQA:∀{rs:List (Int×Int)} {n:Nat},(∀r∈rs,r.1≤r.2)→aLT rs (rP rs n)
 | [],_,_=>trivial
 |r::rs,n,h=>by
  have h1:=h r bLP;have:n%H2 r<H2 r:=Nat.mod_lt _ (by unfold H2;omega)
  exact⟨by unfold H2 at this ⊢;omega,aQA fun q hq=>h q (LE _ hq)⟩
theorem aEI{t:aW}(h4:T3 t){n:Nat}(_:n<pM t.heights):aLT t.heights (rP t.heights n):=aQA fun r hr=>(h4.hts r hr).2.1
def F9(t:aW)(k:Nat):List (List Int):=((List.range k).map (rP t.heights)).filter (mY t.step none)
def nU(t:aW):List (List Int):=F9 t (pM t.heights)
def OI(t:aW):List (List Int):=(nU t).filter (gZ t)
theorem GG(t:aW)(k:Nat):(F9 t k).length≤k:=by
 have:=bNF (mY t.step none) ((List.range k).map (rP t.heights));rw[bNE,bPQ]at this;exact this
theorem XT{t:aW}{k:Nat}(h:mY t.step none (rP t.heights k)=true):F9 t (k+1)=F9 t k++[rP t.heights k]:=by
 unfold F9;rw[bND,bME,bMY];simp[h]
theorem aLP{t:aW}{k:Nat}(h:mY t.step none (rP t.heights k)=false):F9 t (k+1)=F9 t k:=by
 unfold F9;rw[bND,bME,bMY];simp[h]
theorem KK{t:aW}(h4:T3 t){l:List Int}(h:l∈nU t):aLT t.heights l∧mY t.step none l=true:=by
 obtain⟨h1,h2⟩:=bOZ.1 h;obtain⟨n,hn,rfl⟩:=GE.1 h1;exact⟨aEI h4 (bNJ.1 hn),h2⟩
theorem GN{α:Type}{l:List α}{p:α→Bool}{k:Nat}{x:α}(hx:l[k]?= some x)(h:p x=true):(l.take (k+1)).filter p=(l.take k).filter p++[x]:=by
 rw[bLW,hx,bMR,bMY,bOA,bMG h];rfl
theorem NR{α:Type}{l:List α}{p:α→Bool}{k:Nat}{x:α}(hx:l[k]?= some x)(h:p x=false):(l.take (k+1)).filter p=(l.take k).filter p:=by
 rw[bLW,hx,bMR,bMY,bOA,bLX Ybh];simp
theorem aFY{α:Type}{l:List α}{p:α→Bool}{x:α}(hx:x∈l)(h:p x=false):l.all p=false:=by
 rw[bQV];exact⟨x,hx,by simp[h]⟩
theorem aIU{step z x:Int}{l:List Int}{k:Nat}(hz:l[((k:Int)-1).toNat]?= some z)(hx:l[(k:Int).toNat]?= some x)(h:x-z≤step∧z-x≤step)(h1:1≤k:=by omega):mY step (l[k-1]?) (l.drop k)=mY step (l[k]?) (l.drop (k+1)):=by
 rw[LD hz hx h1];have e:lG step (some z) x=true:=bN.2 Yd;rw[e,bPT]
theorem aQH{step z x:Int}{l:List Int}{k:Nat}(hz:l[((k:Int)-1).toNat]?= some z)(hx:l[(k:Int).toNat]?= some x)(h:step<x-z∨step<z-x)(h1:1≤k:=by omega):mY step (l[k-1]?) (l.drop k)=false:=by
 rw[LD hz hx h1];have e:lG step (some z) x=false:=by
  rw[←Bool.not_eq_true];intro e
  have:=bN.1 e;omega
 rw[e,Bool.false_and]
theorem aTQ{l:List Int}{a k:Nat}{x x0:Int}(hx:l[((a:Int)+k).toNat]?= some x):((l.drop a).take (k+1)).foldl max x0=max (((l.drop a).take k).foldl max x0) x:=by
 rw[show((a:Int)+k).toNat=a+k by omega]at hx;rw[bLW,bOJ,hx,bMR,bNM];rfl
theorem bCB{l:List Int}{a:Nat}{b x0:Int}(hx:l[(a:Int).toNat]?= some x0)(h:(a:Int)≤b):((l.drop a).take (b+1-a).toNat).foldl max x0=jK l a b:=by
 rw[bNI]at hx;obtain⟨hk,rfl⟩:=bLS.1 hx;unfold jK;rw[bNI,bNC hk,show(b+1-(a:Int)).toNat=(b-a).toNat+1 by omega,List.take_succ_cons,bMO,Int.max_self];rfl
theorem aNB(n lo hi:Int)(D:aC):Fn prog 256 #[qI n,qI lo,qI hi] D (fun _ v=>v=.bool (gU n lo hi)):=by
 refine Zw 15 func256 rfl fun h0=>Wbk ?_;refine' bU 4 (s:=10) (p:=14) rfl (fun I=>?_) (fun I=>?_) ?_;rotate_left
 ·refine Wbe ?_;exact aN 3
 ·refine Wb ?_;exact aN 3
 refine We ?_;exact aE rfl fun D hD=>rfl
theorem EK(r:Int×Int)(h:0≤r.1∧r.1≤r.2∧r.2≤99∧r.2≤r.1+2)(D:aC):Fn prog 255 #[lE r] D (fun _ v=>v=qI ((H2 r:Nat):Int)):=by
 refine Zw 9 func255 rfl fun h0=>aA<|Zy rfl fun R E1 O I=>Zf rfl<|aJ<|Zj rfl y6 rfl<|Zh 1 rfl aH rfl I rfl<|Zj rfl P8 rfl<|Zh 0 rfl aH rfl I rfl<|Zau rfl<|Zae rfl<|Zf rfl ?_;refine aG ?_;exact aE rfl fun D hD=>by rw[NK h];rfl
theorem yV(tv:Γ)(t:aW)(D:aC)(ht:gQ D tv t)(h4:T3 t):Fn prog 189 #[tv] D (fun _ v=>v=qI ((pM t.heights:Nat):Int)):=by
 have ht0:=ht;obtain⟨hv,lv,mv,rfl,hh,hl,hm⟩:=ht;have hlen:=h4.len;refine Zw 22 func189 rfl fun h0=>aA<|Zy rfl fun q1 E1 hE I=>Zf rfl<|aJ<|Zf rfl<|bG<|Zf rfl<|aF<|Za0<|bK (γ:=Nat×Nat) (fun g=>t.heights.length-g.1) (fun g=>g.1≤t.heights.length∧g.2≤3^g.1∧g.2*pM (t.heights.drop g.1)=pM t.heights) (fun g=>[(4,qI (g.1:Int)),(3,qI (g.2:Int))]) [(2,_),(1,_)] (fun g=>[E1,D]) (0,1) ⟨Yf,Yf,Yf⟩ ⟨Ya,Ya,bRD⟩ bQ (aK) ?_;rintro⟨k,m⟩ ⟨h1,h2,h3⟩;simp only at h1 h2 h3;refine bZ<|Za rfl<|Zj rfl mO rfl<|Zh 1 rfl xQ rfl I rfl<|Zah rfl U39 rfl hh rfl<|Zam rfl<|aF<|Zaf rfl (fun hc1=>?_) fun hc1=>?_
 ·simp only at hc1;have hk:k<t.heights.length:=by omega
  obtain⟨r,hr⟩:=cR t.heights k;have O:=h4.hts r (n5 hr);have hs9:=NK O;have R:=aMA h2 (show H2 r≤3 by omega);have U:=aXD (show k+1≤4 by omega);have hmm:(m:Int)*((H2 r:Nat):Int)=((m*H2 r:Nat):Int):=by rw[Int.natCast_mul]
  have hmx:m*H2 r≤81:=bOB R U;refine aQ<|Za2<|Za0<|aP<|Za rfl<|Zj rfl mO rfl<|Zh 1 rfl xQ rfl I rfl<|Za rfl<|Zx rfl U39 mK rfl hh rfl hr fun b1 o1 V Y hB Z=>?_;obtain rfl:V=[qI _,qI _]:=Y;refine Zv rfl CY rfl Z mK<|Zd rfl (fun D1 hF=>EK r O _)<|BT rfl rfl rfl Ye rfl bRD<|y7 rfl rfl rfl rfl bRD<|Zf rfl<|Zan<|Za3<|Zay<|aP<|Za rfl<|Zae rfl<|Zf rfl ?_;refine Zan ?_;exact aL 20 (k+1,m*H2 r) ⟨Yn,R,by simp only;rw[←h3,XM hr,Nat.mul_assoc]⟩ Yn ⟨Ya,Xde,bRD⟩ rfl rfl Mm5 (aK)
 ·obtain rfl:k=t.heights.length:=by simp only at hc1;omega
  refine Wl ?_;exact aE rfl fun D hD=>by rw[←h3,bQP];show Value.int _ _=_;rw[pM,bNY]
theorem ON(tv:Γ)(t:aW)(n:Nat)(D:aC)(ht:gQ D tv t)(h4:T3 t)(hn:n≤100000):Fn prog 190 #[tv,qI (n:Int)] D (fun D' v=>Sl D' RI 1 v (rP t.heights n)):=by
 have ht0:=ht;obtain⟨hv,lv,mv,rfl,hh,hl,hm⟩:=ht;have hlen:=h4.len;refine Zw 35 func190 rfl fun h0=>aA<|Zy rfl fun q1 E1 hO R=>Zf rfl<|aJ<|Zf rfl<|bG<|Zf rfl<|aF<|Za0<|Zc (Nat×List Int×Nat×Γ×aD) (fun g=>t.heights.length-g.1) (fun g=>g.1≤t.heights.length∧g.2.1.length=g.1∧g.2.2.1≤100000∧rP t.heights n=g.2.1++rP (t.heights.drop g.1) g.2.2.1∧bM 3 1 g.2.2.2.1 g.1 (ints g.2.1) g.2.2.2.2) (fun g=>[(6,qI (g.1:Int)),(5,g.2.2.2.1),(1,qI (g.2.2.1:Int))]) [(4,_),(2,_)] (fun g=>g.2.2.2.2++[]) (fun g=>[E1,D]) (0,[],n,qN,[]) ⟨Yf,rfl,hn,rfl,Xaj⟩ ⟨Ya,Ya,Ya,bRD⟩ Mm5 ?_;rintro⟨k,out,p,v,ν⟩ ⟨h0x,h1,h2,h3,ha⟩;simp only at h0x h1 h2 h3 ha;refine bZ<|Za rfl<|Zj rfl mO rfl<|Zh 1 rfl xQ rfl R rfl<|Zah rfl U39 rfl hh rfl<|Zam rfl<|aF<|Zaf rfl (fun hc1=>?_) fun hc1=>?_
 ·simp only at hc1;have hk:k<t.heights.length:=by omega
  obtain⟨r,hr⟩:=cR t.heights k;have O:=h4.hts r (n5 hr);have hs9:=NK O;have hmd:(p:Int)%((H2 r:Nat):Int)=((p%H2 r:Nat):Int):=rfl;obtain⟨d,hd⟩:∃d,p / H2 r=d:=⟨_,rfl⟩
  have hdv:(p:Int) / ((H2 r:Nat):Int)=(d:Int):=by rw[←hd];rfl
  have hml:p%H2 r<H2 r:=Nat.mod_lt _ Yd;have hdl:d≤p:=by rw[←hd];exact Nat.div_le_self _ _
  refine aQ<|Za2<|Za0<|aA<|Zj rfl mO rfl<|Zh 1 rfl xQ rfl R rfl<|Za rfl<|Zx rfl U39 mK rfl hh rfl hr fun b1 o1 U V hK Y=>?_;obtain rfl:U=[qI _,qI _]:=V;refine Zv rfl CY rfl Y mK<|Zad rfl tM rfl fun Z=>bE rfl rfl rfl rfl mK Yb Yb ζ Yk bRD<|aF<|pW fun hnd=>?_;have hnu:=bIB hnd;have hqo:Z∉dC.mk [Z]:=dC.out Yf;refine iK (dC.mk [Z]) 6 [0,1,2,3,4,10,11,5,6,7,8,9,12,13,14,15] [false,true,true,true,true,true,true,true,true,true,true,true,true,false,true,false] [(false,0),(true,1),(true,2),(true,3),(true,4),(true,10),(true,11),(true,5),(true,6),(true,7),(true,8),(true,9),(true,12),(false,13),(true,14),(false,15)] bB (fun _ _ _ h=>fM (P:=prog) (fn:=f190) _ _ _ h) Yg rfl<|Za rfl<|Zj rfl P8 rfl<|bD rfl aH rfl Mm0 rfl Ym rfl bRD<|Za rfl<|bI rfl CY rfl Mm0 mK Ym rfl bRD<|Za rfl<|bI rfl CY rfl Mm0 mK Ym rfl bRD<|Zd rfl (fun D1 hP=>EK r O _)<|yJ rfl rfl rfl Yd Yd (by rw[hmd];simp only[tQ];omega) rfl bRD ?_
  rw[hmd];refine Zae rfl<|Zt rfl U35 aI cO rfl (.cons rfl rfl .nil) fun hN D901 hB I=>?_;have hE:=Sl.ofInts (l:=[_]) (n:=1) (cap:=1) I rfl Yd Yd;refine aU (A:=[(_,_)]) (B:=[]) rfl U35 rfl rfl aI cO rfl kD rfl rfl rfl ha (lD.lit I) Yf rfl (by simp[ints,h1]) Yk Yd (bLY fun p hp=>dC.in_ (hnu p hp)) rfl bRD fun v1 ν1 hH=>?_;have hI:bM 3 1 v1 (out.length+1) (ints (out++[r.1+((p%H2 r:Nat):Int)])) ν1:=by rw[←eV,h1];exact hH
  refine Zd rfl (fun D2 hJ=>EK r O _)<|KO rfl rfl rfl Yd Yd (by rw[hdv];simp only[tQ];omega) rfl bRD ?_;rw[hdv];refine Zf rfl<|Wt ?_;exact aL 33 (k+1,out++[r.1+((p%H2 r:Nat):Int)],d,v1,ν1) ⟨Yn,by simp[h1],Yn,by simp only;rw[h3,aIY hr,bMC,hd],by simpa [h1]using hI⟩ Yn ⟨Ya,Ya,Ya,bRD⟩ rfl rfl (List.Sublist.cons _ Mm5) fun D h=>⟨D,bMJ _ (h),Le.refl D⟩
 ·obtain rfl:k=t.heights.length:=by simp only at hc1;omega
  rw[bQP]at h3;refine Za5<|Za1<|Za1<|Za6<|Zay<|aA<|Za rfl<|Zf rfl<|aG<|dU (A:=[]) (B:=[]) ha rfl fun D2 hJ hF=>?_;exact aE rfl fun D' hD=>by rw[h3,rP,bMM];exact(hF.ints h1 Yd).up RI.up (hD _ Yf)
theorem UJ(tv O:Γ)(t:aW)(l:List Int)(D:aC)(ht:gQ D tv t)(I:Sl D RI 1 O l)(h4:T3 t)(h1:1≤l.length)(hb:∀x∈l,0≤x∧x≤99):Fn prog 191 #[tv,O] D (fun _ v=>v=.bool (mY t.step none l)):=by
 have ht0:=ht;obtain⟨hv,lv,mv,rfl,hh,hl,hm⟩:=ht;have hlen:=h4.len;have hs9:=h4.step;have hll:=I.len;refine Zw 40 func191 rfl fun h0=>aA<|Zy rfl fun q1 E1 hK R=>Zf rfl<|bG<|Zf rfl<|aF<|Za0<|bK (γ:=Nat) (fun k=>l.length-k) (fun k=>1≤k∧k≤l.length∧mY t.step none l=mY t.step (l[k-1]?) (l.drop k)) (fun k=>[(5,qI (k:Int))]) [(4,_),(2,_),(1,_)] (fun k=>[E1,D]) 1 ⟨Yd,h1,aPE h1⟩ ⟨Ya,bRD⟩ bQ (aK) ?_;rintro k ⟨h2,h3,h5⟩;refine bZ<|Za rfl<|Za rfl<|Zah rfl U35 rfl I rfl<|Zam rfl<|aF<|Zaf rfl (fun hc1=>?_) fun hc1=>?_
 ·have hk:k<l.length:=by omega
  obtain⟨x,hx⟩:=cR l k;obtain⟨z,U⟩:=cR l (k-1);have hz:l[((k:Int)-1).toNat]?= some z:=by rw[show((k:Int)-1).toNat=k-1 by omega];exact U
  have hN:=hb x (n5 hx);have hO:=hb z (n5 hz);refine aQ<|Za2<|Za0<|Za2<|bS [] 7 28 58297842<|Za rfl<|Za rfl<|jA rfl I rfl hx fun b1 o1=>Za rfl<|Za rfl<|Zau rfl<|jA rfl I rfl hz fun b2 o2=>?_;refine Zau rfl<|Zj rfl GX rfl<|Zh 2 rfl aH rfl R rfl<|Wap ?_;refine' dQ 14 (s:=25) (p:=39) rfl (fun V=>?_) (fun V=>?_) ?_;rotate_left
  ·refine Zb rfl<|Zb rfl<|xF rfl rfl rfl Ye rfl ⟨_,rfl,rfl⟩<|eA rfl U35 aI rfl I rfl Yd hz rfl ⟨_,rfl,rfl⟩ fun b3 o3 Y Z hI hB=>?_;obtain rfl:Y=[qI _]:=Z;refine Zi 0 rfl aH rfl hB rfl<|Zb rfl<|Zb rfl<|eA rfl U35 aI rfl I rfl Yd hx rfl ⟨_,rfl,rfl⟩ fun b4 o4 hE hF hJ hH=>?_;obtain rfl:hE=[qI _]:=hF;refine Zi 0 rfl aH rfl hH rfl<|xF rfl rfl rfl Ye rfl ⟨_,rfl,rfl⟩<|Zk rfl GX rfl<|Zi 2 rfl aH rfl R rfl<|Wy ?_;exact aN 13
  ·refine Wak ?_;refine Zg rfl<|Zaj rfl ?_;exact aN 13
  refine aF<|Zag rfl (fun hc2=>?_) fun hc2=>?_
  ·refine aA<|Wh ?_;exact aE rfl fun D hD=>by show Value.bool _=_;rw[h5,aQH hz hx Yat]
  ·refine Wbs ?_;exact aL 23 (k+1) ⟨Yd,Yd,by rw[h5,aIU hz hx Yat];rfl⟩ Yd ⟨Ya,bRD⟩ rfl rfl Mm5 (aK)
 ·obtain rfl:k=l.length:=by omega
  refine Wk ?_;exact aE rfl fun D hD=>by show Value.bool _=_;rw[h5,bQP];rfl
theorem aXQ(I:Γ)(l:List Int)(a b:Int)(D:aC)(O:Sl D RI 1 I l)(h4:l.length=4)(hab:0≤a∧a≤b∧b≤3):Fn prog 195 #[I,qI a,qI b] D (fun _ v=>v=qI (jK l a b)):=by
 obtain⟨a0,rfl⟩:=Int.eq_ofNat_of_zero_le hab.1;obtain⟨x0,hx0⟩:∃x,l[a0]?= some x:=⟨_,bLR Yd⟩
 refine Zw 26 func195 rfl fun h0=>aA<|Zf rfl<|aJ<|Za rfl<|Za rfl<|jA rfl O rfl hx0 fun R U=>Zf rfl<|bG<|Za rfl<|Zf rfl<|aF ?_;refine Za0<|bK (γ:=Nat) (fun k=>(b+1-a0).toNat-k) (fun k=>(a0:Int)+k≤b+1) (fun k=>[(8,qI ((a0:Int)+k)),(7,qI (((l.drop a0).take k).foldl max x0))]) [(6,_),(0,_),(2,_)] (fun k=>[D]) 0 Yd ⟨Ya,Ya,bRD⟩ bQ (aK) ?_;rintro k h1;refine bZ<|Za rfl<|Za rfl<|gX rfl rfl rfl rfl bRD<|aF<|Zaf rfl (fun hc1=>?_) fun hc1=>?_
 ·obtain⟨x,hx⟩:=cR l ((a0:Int)+k).toNat;refine aQ<|Za2<|Za0<|aP<|Za rfl<|Za rfl<|Za rfl<|jA rfl O rfl hx fun b2 V=>nZ rfl rfl rfl rfl bRD<|Zf rfl<|Zan<|Za3 ?_;refine Zay<|aP<|Za rfl<|Zae rfl<|Wbl ?_;exact Zn 15 (k+1) ⟨Ya,(by rw[aTQ (a:=a0) (k:=k) hx];rfl),bRD⟩ rfl Mm5
 ·obtain rfl:k=(b+1-a0).toNat:=by omega
  refine Wl ?_;exact aE rfl fun D hD=>by show Value.int _ _=_;rw[bCB hx0 Yd]
theorem aLM(O:Γ)(l:List Int)(m:Mk)(D:aC)(R:Sl D RI 1 O l)(h4:l.length=4)(hm:0≤m.frm∧m.frm≤m.to∧m.to≤3):Fn prog 193 #[O,bHY m] D (fun _ v=>v=.bool (gU (jK l m.frm m.to) m.lo m.hi)):=by
 refine Zw 18 func193 rfl fun h0=>aA<|Zy rfl fun Z E1 V I=>Zf rfl<|bW<|iK [] 3 [0,1,2,3,4,6,7,8,9,10,11,5,12,13] [false,true,true,true,true,true,true,true,true,true,true,true,false,false] [(false,0),(true,1),(true,2),(true,3),(true,4),(true,6),(true,7),(true,8),(true,9),(true,10),(true,11),(true,5),(false,12),(false,13)] bB (fun _ _ _ h=>fM (P:=prog) (fn:=f193) _ _ _ h) Yg rfl<|Za rfl<|Zj rfl aKW rfl<|Zh 0 rfl aH rfl I rfl<|Zj rfl aKB rfl<|Zh 1 rfl aH rfl I rfl<|Zj rfl IS rfl ?_;refine Zj rfl P8 rfl<|Zh 2 rfl aH rfl I rfl<|Zj rfl IS rfl<|Zj rfl y6 rfl<|Zh 3 rfl aH rfl I rfl<|Zd rfl (fun D1 U=>aXQ _ l _ _ _ (R.up RI.up (U _ Yf)) h4 hm)<|Zd rfl (fun D2 Y=>aNB _ _ _ _)<|We ?_;exact aE rfl fun D hD=>rfl
theorem PY(tv R:Γ)(t:aW)(l:List Int)(D:aC)(ht:gQ D tv t)(O:Sl D RI 1 R l)(h4:T3 t)(hin:aLT t.heights l)(hnr:mY t.step none l=true):Fn prog 192 #[tv,R] D (fun _ v=>v=.bool true):=by
 have ht0:=ht;obtain⟨hv,lv,mv,rfl,hh,hl,hm⟩:=ht;have hlen:=h4.len;have hll:=j4 hin;have hlb:=AE h4 hin;refine Zw 48 func192 rfl fun h0=>aA<|Zy rfl fun q1 E1 hN I=>Zf rfl<|bG<|Zf rfl<|aF<|Za0<|bK (γ:=Nat) (fun k=>l.length-k) (fun k=>k≤l.length) (fun k=>[(5,qI (k:Int))]) [(4,_),(2,_),(1,_)] (fun k=>[E1,D]) 0 Yd ⟨Ya,bRD⟩ bQ (aK) ?_;rintro k h1;refine bZ<|Za rfl<|Za rfl<|Zah rfl U35 rfl O rfl<|Wcf ?_;refine' bU 6 (s:=10) (p:=16) rfl (fun V=>?_) (fun V=>?_) ?_;rotate_left
 ·refine Zb rfl<|Zk rfl mO rfl<|Zi 1 rfl xQ rfl I rfl<|eN rfl U39 rfl hh rfl rfl ⟨_,rfl,rfl⟩<|LB rfl rfl rfl rfl ⟨_,rfl,rfl⟩<|Zaj rfl ?_;exact aN 5
 ·refine Wbf ?_;exact aN 5
 refine aF<|Zag rfl (fun hc1=>?_) fun hc1=>?_
 ·have hk:k<l.length:=by have h9:=hc1;simp only[bLQ,LT]at h9;omega
  obtain⟨x,hx⟩:=cR l k;obtain⟨r,hr⟩:=cR t.heights k;have hxr:=aAB hin hx hr;refine aQ<|Za2<|Za0<|Za2<|bS [] 6 18 65522<|Za rfl<|Za rfl<|jA rfl O rfl hx fun b1 o1=>Zj rfl mO rfl<|Zh 1 rfl xQ rfl I rfl<|Za rfl<|Zx rfl U39 mK rfl hh rfl hr fun b2 o2 Y Z hJ hB=>?_;obtain rfl:Y=[qI _,qI _]:=Z;refine Zj rfl P8 rfl<|Zh 0 rfl aH rfl hB rfl<|Zj rfl mO rfl<|Zh 1 rfl xQ rfl I rfl<|Za rfl<|Zx rfl U39 mK rfl hh rfl hr fun b3 o3 hE hF hK hH=>?_;obtain rfl:hE=[qI _,qI _]:=hF;refine Zj rfl y6 rfl<|Zh 1 rfl aH rfl hH rfl<|Zd rfl (fun D1 hO=>aNB _ _ _ _)<|Zas rfl<|aF<|Zag rfl (fun hc2=>?_) fun hc2=>?_
  ·exact absurd hc2 (by rw[(C1.bN (n:=x)).2 hxr];simp)
  ·refine Wbs ?_;exact Zn 28 (k+1) ⟨Ya,bRD⟩ rfl Mm5
 ·refine Za5<|Za1<|Za1<|Za6<|Zay<|aA<|Za rfl<|Zah rfl U35 rfl O rfl<|Zj rfl mO rfl<|Zh 1 rfl xQ rfl I rfl<|Zah rfl U39 rfl hh rfl<|Zap rfl ?_;refine Za rfl ?_;refine' bU 4 (s:=43) (p:=47) rfl (fun hI=>?_) (fun hI=>?_) ?_;rotate_left
  ·refine cU rfl A3 rfl I Yc vU n4 rfl ⟨_,rfl,rfl⟩<|Zb rfl<|Ze rfl (fun D2 U=>UJ _ _ t l _ (ht0.up (U _ Yf)) (O.up RI.up (U _ Yf)) h4 Yd hlb)<|Zaj rfl ?_;exact aN 3
  ·refine Wb ?_;exact aN 3
  refine We ?_;exact aE rfl fun D hD=>by show Value.bool _=_;rw[hnr,hll];simp
theorem SN(tv O:Γ)(t:aW)(l:List Int)(D:aC)(ht:gQ D tv t)(R:Sl D RI 1 O l)(h4:T3 t)(hin:aLT t.heights l)(hnr:mY t.step none l=true):Fn prog 118 #[tv,O] D (fun _ v=>v=.bool (gZ t l)):=by
 have ht0:=ht;obtain⟨hv,lv,mv,rfl,hh,hl,hm⟩:=ht;have hlen:=h4.len;have hll:=j4 hin;have hlb:=AE h4 hin;have hml:=h4.mks;refine Zw 25 func118 rfl fun h0=>aA<|Zy rfl fun q1 E1 hH I=>Zf rfl<|bG<|Zv rfl A3 rfl I vU<|Za rfl<|Zd rfl (fun D1 U=>PY _ _ t l _ (ht0.up (U _ Yf)) (R.up RI.up (U _ Yf)) h4 hin hnr)<|Zas rfl<|aF<|Zag rfl (fun hc1=>?_) fun hc1=>?_
 ·cases hc1
 ·refine aQ<|bZ<|Zf rfl<|aF<|Za0<|bK (γ:=Nat) (fun k=>t.marks.length-k) (fun k=>k≤t.marks.length∧(t.marks.take k).all (fun m=>gU (jK l m.frm m.to) m.lo m.hi)=true) (fun k=>[(5,qI (k:Int))]) [(4,_),(2,_),(1,_)] (fun k=>[E1,D]) 0 ⟨Yd,rfl⟩ ⟨Ya,bRD⟩ bQ (aK) ?_;rintro k ⟨h1,h2⟩;refine bZ<|Za rfl<|Zj rfl mT rfl<|Zh 4 rfl M6 rfl I rfl<|Zah rfl U40 rfl hm rfl<|Zam rfl<|aF<|Zaf rfl (fun hc2=>?_) (fun hc2=>?_)
  ·have hk:k<t.marks.length:=by omega
   obtain⟨x,hx⟩:=cR t.marks k;have V:=h4.mark x (n5 hx);refine aQ<|Za2<|Za0<|aA<|Za rfl<|Zj rfl mT rfl<|Zh 4 rfl M6 rfl I rfl<|Za rfl<|Zx rfl U40 wM rfl hm rfl hx fun b1 o1 Y Z hF hB=>?_;obtain rfl:Y=[qI _,qI _,qI _,qI _]:=Z;refine Zv rfl aZG rfl hB wM<|Zd rfl (fun D2 hE=>aLM _ l x _ (R.up RI.up (hE _ Yf)) Yd V)<|Zas rfl<|aF<|Zag rfl (fun hc3=>?_) fun hc3=>?_
   ·refine aA<|Wh ?_;exact aE rfl fun D hD=>by show Value.bool _=_;unfold gZ;rw[aFY (n5 hx) Xao]
   ·refine Wbs ?_;exact aL 17 (k+1) ⟨Yd,by rw[bLW,hx,List.all_append,h2];simpa using hc3⟩ Yd ⟨Ya,bRD⟩ rfl rfl Mm5 (aK)
  ·obtain rfl:k=t.marks.length:=by omega
   rw[bMP]at h2;refine Wk ?_;exact aE rfl fun D hD=>by show Value.bool _=_;unfold gZ;rw[h2]
theorem ME(tv:Γ)(t:aW)(D:aC)(ht:gQ D tv t)(h4:T3 t):Fn prog 117 #[tv] D (fun D' v=>Sl D' RL 1 v (nU t)):=by
 have ht0:=ht;obtain⟨hv,lv,mv,rfl,hh,hl,hm⟩:=ht;have hlen:=h4.len;have hpr:=TR h4;refine Zw 23 func117 rfl fun h0=>aA<|Zy rfl fun q1 E1 hH R=>Zf rfl<|aJ<|Zf rfl<|bG<|Zf rfl<|aF<|Za0<|fZ (γ:=Nat×Γ×List Γ×aD×aC) (fun g=>pM t.heights-g.1) (fun g=>g.1≤pM t.heights∧bM 35 1 g.2.1 g.2.2.1.length g.2.2.1 g.2.2.2.1∧LA g.2.2.2.2 g.2.2.1 (F9 t g.1)) (fun g=>[(4,qI (g.1:Int)),(3,g.2.1)]) [(2,_),(1,_)] (fun g=>g.2.2.2.1++[]) (fun g=>[g.2.2.2.2,E1,D]) (0,qN,[],[],D) ⟨Yf,Xar,LA.nil⟩ ⟨Ya,Ya,bRD⟩ bQ Mm5 (Yav) ?_;rintro⟨k,v,vs,ν,Dn⟩ ⟨h1,ha,hla⟩;simp only at h1 ha hla;have hvl:=hla.len;have hkl:=GG t k;refine bZ<|Za rfl<|Zv rfl A3 rfl R vU<|Zd rfl (fun D1 Y=>yV _ t _ (ht0.up (Y _ Yf)) h4)<|Zam rfl<|aF<|Zaf rfl (fun hc1=>?_) fun hc1=>?_
 ·have hk:k<pM t.heights:=by simp only at hc1;omega
  have hni:=aEI h4 hk;have hnl:=j4 hni;have hnb:=AE h4 hni;refine aQ<|Za2<|Za0<|aA<|Zv rfl A3 rfl R vU<|Za rfl<|Zaa rfl (fun D2 O=>ON _ t k _ (ht0.up (O _ Yf)) h4 Yd) fun v2 D2 O Z=>?_;have hw:=Z;refine Zf rfl<|aJ<|Zv rfl A3 rfl R vU<|Za rfl<|Zd rfl (fun D3 V=>UJ _ _ t (rP t.heights k) _ (ht0.up (V _ Yf)) (hw.up RI.up (V _ Yf)) h4 Yd hnb)<|aF<|Zag rfl (fun hc2=>?_) fun hc2=>?_
  ·refine aP<|Za rfl<|Za rfl<|Zt rfl U57 fK vD rfl (.cons hw.cells1 rfl .nil) (fun hE D901 I U=>aU (A:=[]) (B:=_) rfl U57 rfl rfl fK vD rfl MM rfl rfl rfl ha (lD.lit U) Yf rfl Yf (by simpa using hw.cell1) Yd (bMF rfl) rfl bRD fun v1 ν1 hB=>Zf rfl<|Wbd ?_);refine Wbl ?_;exact aL 21 (k+1,v1,vs++[v2],ν1,D901) ⟨Yn,by simpa using hB,by simp only;rw[XT hc2];exact(hla.up (I Dn Yf)).snoc (hw.up RI.up (I _ Yf))⟩ Yn ⟨Ya,Ya,bRD⟩ rfl rfl Mm5 (Yau)
  ·refine Wbs ?_;exact aL 16 (k+1,v,vs,ν,Dn) ⟨Yn,ha,by simp only;rw[aLP hc2];exact hla⟩ Yn ⟨Ya,Ya,bRD⟩ rfl rfl Mm5 (Ys)
 ·obtain rfl:k=pM t.heights:=by simp only at hc1;omega
  refine Za5<|Za1<|Za1<|Za6<|Zay<|aA<|Za rfl<|Zf rfl<|aG<|dU (A:=[]) (B:=[]) ha rfl fun D2 O hF=>?_;exact aE rfl fun D' hD=>(hF.lists hla (O _ Yf) Yd).up RL.up (hD _ Yf)
theorem W1(tv:Γ)(t:aW)(D:aC)(ht:gQ D tv t)(h4:T3 t):Fn prog 56 #[tv] D (fun D' v=>Sl D' RL 1 v (OI t)):=by
 have ht0:=ht;obtain⟨hv,lv,mv,rfl,hh,hlv,hm⟩:=ht;have hpr:=TR h4;have hkl:=GG t (pM t.heights);refine Zw 28 func56 rfl fun h0=>aA<|Zy rfl fun q1 E1 hY U=>Zf rfl<|aJ<|Zf rfl<|aJ<|Zv rfl A3 rfl U vU<|Zaa rfl (fun Y V=>ME _ t _ (ht0.up (V _ Yf)) h4) fun Z Y V hB=>?_;have hS:Sl Y RL 1 Z (nU t):=hB;have hSl:(nU t).length≤81:=by have h9:=hkl;unfold nU;omega
 refine Zf rfl<|bG<|Zf rfl<|aF<|Za0<|Zc (Nat×Γ×List Γ×aD) (fun g=>(nU t).length-g.1) (fun g=>g.1≤(nU t).length∧bM 35 1 g.2.1 g.2.2.1.length g.2.2.1 g.2.2.2∧LA Y g.2.2.1 (((nU t).take g.1).filter (gZ t))) (fun g=>[(5,qI (g.1:Int)),(3,g.2.1)]) [(4,_),(2,_),(1,_)] (fun g=>g.2.2.2++[]) (fun g=>[Y,E1,D]) (0,qN,[],[]) ⟨Yf,Xar,by simpa using LA.nil⟩ ⟨Ya,Ya,bRD⟩ Mm5 ?_;rintro⟨k,v,vs,ν⟩ ⟨h1,ha,hla⟩;simp only at h1 ha hla;have hvl:=hla.len;have hfl:=bNF (gZ t) ((nU t).take k);have htk:((nU t).take k).length≤k:=bOT _ _;refine bZ<|Za rfl<|Za rfl<|Zah rfl U57 rfl hS rfl<|Zam rfl<|aF<|Zaf rfl (fun hc1=>?_) fun hc1=>?_
 ·have hk:k<(nU t).length:=by omega
  obtain⟨l,hl⟩:=cR (nU t) k;obtain⟨hin,hnr⟩:=KK h4 (n5 hl);refine aQ<|Za2<|Za0<|Za2<|bS [] 3 6 30<|Zv rfl A3 rfl U vU<|Za rfl<|Za rfl<|Zx rfl U57 fK rfl hS rfl hl fun b1 o1 rA hE hP hH=>?_;obtain⟨w1,rfl,hI⟩:=hE;refine Zh 0 rfl cF rfl hH rfl<|Zd rfl (fun D2 I=>SN _ _ t l _ (ht0.up (I _ Yf)) (hI.up RI.up (I _ Yf)) h4 hin hnr)<|aF<|Zag rfl (fun hc2=>?_) fun hc2=>?_
  ·refine aP<|Za rfl<|Za rfl<|Za rfl<|Zx rfl U57 fK rfl hS rfl hl fun b2 o2 rB hJ hR hK=>?_;obtain⟨w2,rfl,O⟩:=hJ;refine Zh 0 rfl cF rfl hK rfl<|Zt rfl U57 fK vD rfl (.cons O.cells1 rfl .nil) (fun hX D901 hN R=>aU (A:=[]) (B:=_) rfl U57 rfl rfl fK vD rfl MM rfl rfl rfl ha (lD.lit R) Yf rfl Yf (by simpa using O.cell1) Yd (bMF rfl) rfl bRD fun Z ν1 hO=>Wt ?_);exact aL 23 (k+1,Z,vs++[w2],ν1) ⟨Yn,by simpa using hO,by simp only;rw[GN hl hc2];exact hla.snoc O⟩ Yn ⟨Ya,Ya,bRD⟩ rfl rfl Mm5 fun D h=>⟨D,bMJ _ (h),Le.refl D⟩
  ·refine Wbs ?_;exact aL 15 (k+1,v,vs,ν) ⟨Yn,ha,by simp only;rw[NR hl hc2];exact hla⟩ Yn ⟨Ya,Ya,bRD⟩ rfl rfl Mm5 (aK)
 ·obtain rfl:k=(nU t).length:=by omega
  rw[bMP]at hla;refine Za5<|Za1<|Za1<|Za6<|Zay<|aA<|Za rfl<|Zf rfl<|aG<|dU (A:=[]) (B:=[]) ha rfl fun D2 I hF=>?_;exact aE rfl fun D' hD=>(hF.lists hla (I _ Yf) (by have:=bNF (gZ t) (nU t);omega)).up RL.up (hD _ Yf)
end L2
namespace L7
open C7
theorem aRC{l:List Int}{k u:Nat}{n:Int}(hn:l[k]?= some n)(h:n=2):((u+S3 (l.take (k+1)):Nat):Int)=((u+S3 (l.take k):Nat):Int)+1:=by
 rw[bLW,hn];simp only[S3,bMR,bMY,bLT];simp[h];omega
theorem bCE{l:List Int}{k u:Nat}{n:Int}(hn:l[k]?= some n)(h:¬n=2):((u+S3 (l.take (k+1)):Nat):Int)=((u+S3 (l.take k):Nat):Int):=by
 rw[bLW,hn];simp only[S3,bMR,bMY,bLT];simp[h]
theorem bJR(r:Int×Int):((decide (r.1<0)||decide (r.2<r.1))||decide (7<r.2))= !mF r:=by
 unfold mF;rw[bOX];simp only[bMU,LT,bOQ,bQI,bLV];omega
theorem aKM{p:Pt}(h:wL p):decide (p.a+p.b+p.c=3)=iA p:=by
 obtain⟨a,b,c⟩:=p;obtain⟨h1,h2,h3⟩:=h;unfold iA;rw[bOX];simp only[LT,Pt.mk.injEq]at *;omega
theorem SP{f:Int}{a b:Nat}{p q:Pt}{I x2:Ch}(hp:wL p)(hq:wL q):
  (((((((decide ((a:Int)≠b)&& !iA p)&& !iA q)&&decide (I.size-x2.size≤f))&&decide (-(I.size-x2.size)≤f))&&decide (0<p.a+q.a))&&decide (0<p.b+q.b))&&decide (0<p.c+q.c))=((decide ((b:Int)≠a)&&S5 f I x2)&&T6 p q):=by
 obtain⟨pa,pb,pc⟩:=p;obtain⟨qa,qb,qc⟩:=q;obtain⟨h1,h2,h3⟩:=hp;obtain⟨h4,h5,h6⟩:=hq;unfold T6 S5 iA gU;rw[bOX];simp only[bLQ,LT,bOQ,bLV,Pt.mk.injEq]at *;constructor
 ·rintro⟨⟨⟨⟨⟨⟨⟨O,R⟩,U⟩,V⟩,Y⟩,Z⟩,e7⟩,e8⟩;exact⟨⟨fun e=>O e.symm,Yd,Yd⟩,⟨R,U⟩,Yd,Yd,Yd⟩
 ·rintro⟨⟨O,R,U⟩,⟨V,Y⟩,Z,e7,e8⟩;exact⟨⟨⟨⟨⟨⟨⟨fun e=>O e.symm,V⟩,Y⟩,Yd⟩,Yd⟩,Yd⟩,Yd⟩,Yd⟩
def lA(y:bC)(t:List Pt)(l:List (Int×Int)):Nat:=whole t+(l.filter fun p=>kG y t p.1.toNat p.2.toNat).length
theorem aJN(y:bC)(t:List Pt)(l:List (Int×Int)):lA y t l≤t.length+l.length:=by
 have h1:=bNF (fun p:Int×Int=>kG y t p.1.toNat p.2.toNat) l;have h2:whole t≤t.length:=bNF _ _;unfold lA;omega
theorem YH{y:bC}{t:List Pt}{l:List (Int×Int)}{k x z:Nat}(h:l[k]?= some ((x:Int),(z:Int)))(hf:kG y t x z=true):((lA y t (l.take (k+1)):Nat):Int)=(lA y t (l.take k):Int)+1:=by
 unfold lA;rw[bLW,h,bMR,bMY,bLT];simp[hf];omega
theorem aJZ{y:bC}{t:List Pt}{l:List (Int×Int)}{k x z:Nat}(h:l[k]?= some ((x:Int),(z:Int)))(hf:kG y t x z=false):lA y t (l.take (k+1))=lA y t (l.take k):=by
 unfold lA;rw[bLW,h,bMR,bMY,bLT];simp[hf]
def rT(cl:List (Int×Int))(n:Int)(i:Nat):Bool:=match cl[i]? with
 |some r=>gU n r.1 r.2
 |none=>false
theorem IN{cl:List (Int×Int)}{n:Int}{i:Nat}{r:Int×Int}(h:cl[i]?= some r):rT cl n i=gU n r.1 r.2:=by unfold rT;rw[h]
theorem FQ(yv:Γ)(y:bC)(D:aC)(hy:iR D yv y)(h7:y.chairs.length≤1000):Fn prog 147 #[yv] D (fun _ v=>v=qI (dH y.chairs:Int)):=by
 obtain⟨cv,qv,rfl,hc,hq⟩:=hy;refine Zw 29 func147 rfl fun h0=>aA<|Zy rfl fun q1 E1 Y I=>Zf rfl<|aJ<|Zf rfl<|bG<|Zf rfl<|aF<|Za0<|bK (γ:=Nat) (fun i=>y.chairs.length-i) (fun i=>i≤y.chairs.length) (fun i=>[(4,qI (i:Int)),(3,qI (dH (y.chairs.take i):Int))]) [(2,_),(1,_)] (fun i=>[E1,D]) 0 Yd ⟨Ya,(by simp[dH];rfl),bRD⟩ bQ (aK) ?_
 rintro i h1;refine bZ<|Za rfl<|Zj rfl iJ rfl<|Zh 0 rfl pD rfl I rfl<|Zah rfl U47 rfl hc rfl<|Zam rfl<|aF<|Zaf rfl (fun hc1=>?_) fun hc1=>?_
 ·have hi:i<y.chairs.length:=by omega
  obtain⟨x,hx⟩:=cR y.chairs i;have hub:=aVA (y.chairs.take i);have hut:(y.chairs.take i).length≤i:=bOT _ _;refine aQ<|Za2<|Za0<|aA<|Zf rfl<|aF<|Za0<|bK (γ:=Nat) (fun k=>3-k) (fun k=>k≤3) (fun k=>[(5,qI (k:Int)),(3,qI ((dH (y.chairs.take i)+S3 (x.parts.l.take k):Nat):Int))]) [(10,_),(9,_),(8,_),(7,_),(6,_),(4,_),(2,_),(1,_)] (fun k=>[E1,D]) 0 Yd ⟨Ya,(by simp[S3];rfl),bRD⟩ bQ (aK) ?_
  rintro k h2;refine bZ<|Za rfl<|Zam rfl<|aF<|Zaf rfl (fun hc2=>?_) fun hc2=>?_
  ·have Z:k<3:=by omega
   obtain⟨n,hn⟩:∃n,x.parts.l[k]?= some n:=⟨_,bLR (by simp[Pt.l];omega)⟩
   have hkl:=aCA (x.parts.l.take k);have hkt:(x.parts.l.take k).length≤k:=bOT _ _;refine aQ<|Za2<|Za0<|aA<|Zj rfl iJ rfl<|Zh 0 rfl pD rfl I rfl<|Za rfl<|Za rfl<|Zx rfl U47 sG rfl hc rfl hx fun b1 o1 O R V U=>?_;obtain rfl:O=[qI _,qI _,qI _,qI _]:=R;refine Zj rfl y0 rfl<|eX rfl U265 aI rfl rfl Yd Yd rfl bRD<|dW (o:=_+1) (k:=k*1) rfl aH rfl U.tail Yf (aTX hn) n4 rfl bRD<|Zap rfl<|aF<|Zaf rfl (fun hc3=>?_) fun hc3=>?_
   ·refine Wbx ?_;exact Zn 19 (k+1) ⟨Ya,(by rw[aRC hn hc3];rfl),bRD⟩ rfl Mm5
   ·refine Wbs ?_;exact Zn 16 (k+1) ⟨Ya,(by rw[bCE hn hc3];rfl),bRD⟩ rfl Mm5
  ·obtain rfl:k=3:=by omega
   refine Wbn ?_;exact Zn 13 (i+1) ⟨Ya,(by rw[UY hx];rfl),bRD⟩ rfl Mm5
 ·obtain rfl:i=y.chairs.length:=by omega
  rw[bMP];refine Wl ?_;exact aE rfl fun D hD=>rfl
theorem uW(p:Pt)(D:aC)(hp:wL p):Fn prog 315 #[bKF p] D (fun _ v=>v=.bool (iA p)):=by
 obtain⟨⟨O,R⟩,⟨U,V⟩,Y,hp5⟩:=id hp;refine Zw 12 func315 rfl fun h0=>aA<|Zy rfl fun q1 E1 Z I=>Zf rfl<|aJ<|cD rfl U265 aI rfl rfl Yu Yu rfl bRD<|iO rfl aH rfl I Yf rfl n4 rfl bRD<|cD rfl U265 aI rfl rfl Yu Yu rfl bRD<|iO rfl aH rfl I Yf rfl n4 rfl bRD<|Zae rfl<|cD rfl U265 aI rfl rfl Yu Yu rfl bRD<|iO rfl aH rfl I Yf rfl n4 rfl bRD ?_;refine Zae rfl<|Zap rfl<|We ?_;exact aE rfl fun D hD=>by show Value.bool _=_;rw[aKM hp]
theorem aSV(tv:Γ)(t:List Pt)(D:aC)(ht:Sl D RP 3 tv t)(hb:∀p∈t,wL p):Fn prog 257 #[tv] D (fun _ v=>v=qI (whole t:Int)):=by
 have hl:=ht.len;refine Zw 19 func257 rfl fun h0=>aA<|Zf rfl<|aJ<|Zf rfl<|bG<|Zf rfl<|aF<|Za0<|bK (γ:=Nat) (fun i=>t.length-i) (fun i=>i≤t.length) (fun i=>[(4,qI (i:Int)),(3,qI (whole (t.take i):Int))]) [(2,_),(0,_)] (fun i=>[D]) 0 Yd ⟨Ya,Ya,bRD⟩ bQ (aK) ?_;rintro i h1;refine bZ<|Za rfl<|Za rfl<|Zah rfl U241 rfl ht rfl<|Zam rfl<|aF<|Zaf rfl (fun hc1=>?_) fun hc1=>?_
 ·have hi:i<t.length:=by omega
  obtain⟨z,hz⟩:=cR t i;have hwl:whole (t.take i)≤(t.take i).length:=bNF _ _;have hwt:(t.take i).length≤i:=bOT _ _;refine aQ<|Za2<|Za0<|aA<|Za rfl<|Za rfl<|Zx rfl U241 fO rfl ht rfl hz fun Y Z I O U R=>?_;obtain rfl:I=[qI _,qI _,qI _]:=O;refine Zv rfl tY rfl R Xas<|Zd rfl (fun D1 V=>uW z _ (hb _ (n5 hz)))<|aF<|Zag rfl (fun hc2=>?_) fun hc2=>?_
  ·refine Wbx ?_;exact Zn 17 (i+1) ⟨Ya,(by rw[A4 hz,bMG hc2];rfl),bRD⟩ rfl Mm5
  ·refine Wbs ?_;exact Zn 14 (i+1) ⟨Ya,(by rw[A4 hz,bLX (by rw[hc2];simp)];rfl),bRD⟩ rfl Mm5
 ·obtain rfl:i=t.length:=by omega
  rw[bMP];refine Wl ?_;exact aE rfl fun D hD=>rfl
theorem NL(yv tv:Γ)(y:bC)(t:List Pt)(a b:Nat)(D:aC)(hy:iR D yv y)(ht:Sl D RP 3 tv t)(hyo:bEW y)(hlen:t.length=y.chairs.length)(hb:∀p∈t,wL p)(ha:a<t.length)(hb2:b<t.length):Fn prog 258 #[yv,tv,qI (a:Int),qI (b:Int)] D (fun _ v=>v=.bool (kG y t a b)):=by
 obtain⟨cv,qv,rfl,hc,hq⟩:=hy;obtain⟨bt,ot,ct,rfl⟩:=dF ht fun e=>by rw[e]at ha;simp at ha
 obtain⟨p,hp⟩:=cR t a;obtain⟨q,hq2⟩:=cR t b;obtain⟨x1,hx1⟩:∃x,y.chairs[a]?= some x:=⟨_,bLR Yd⟩
 obtain⟨x2,hx2⟩:∃x,y.chairs[b]?= some x:=⟨_,bLR Yd⟩
 have hcl:=hc.len;have htl:=ht.len;have hs1:=hyo.size _ (n5 hx1);have hs2:=hyo.size _ (n5 hx2);have hft:=hyo.fit;have hpb:=hb _ (n5 hp);have hqb:=hb _ (n5 hq2);obtain⟨⟨pa0,pa1⟩,⟨pb0,pb1⟩,pc0,pc1⟩:=id hpb;obtain⟨⟨qa0,qa1⟩,⟨qb0,qb1⟩,qc0,qc1⟩:=id hqb;refine Zw 83 func258 rfl fun h0=>aA<|Zy rfl fun q1 E1 hE1 I=>Zf rfl<|bW<|oT (dC.mk [bt]) 2 [false,true,false,false,true,true,true,true,true,true,true,false] [.fork [0,1,2,3,4,5,6,7] 8 (.fin [9]) 9 (.fin [8]),.fin [10,11]] bB (fun _ _ _ h=>fM (P:=prog) (fn:=f258) _ _ _ h) Yg<|sX<|bP [(false,0),(true,1),(false,2),(false,3),(true,4),(true,5),(true,6),(true,7)] rfl<|Za rfl<|Za rfl<|iS rfl U241 fO rfl ht rfl Yd hp rfl bRD fun hO hP rB O=>?_;obtain rfl:hO=[qI _,qI _,qI _]:=hP;refine cU rfl tY rfl O Yf fO (dC.out Yf) rfl bRD<|Za rfl<|Za rfl<|iS rfl U241 fO rfl ht rfl Yd hq2 rfl bRD fun hR hS hcl42 hX=>?_;obtain rfl:hR=[qI _,qI _,qI _]:=hS;refine cU rfl tY rfl hX Yf fO (dC.out Yf) rfl bRD<|Zan (dV true true rfl rfl ?_ ?_)
 ·refine Zad rfl wS rfl fun q2=>Zan<|aT [(true,9)] rfl<|Zad rfl wS rfl fun q3=>Zan<|nT [(true,10),(false,11)] rfl<|kJ O Yf fun hap=>nE rfl rfl rfl rfl fO (.tail ζ) Yf rfl Yk (bLY (dC.in_ Xdf)) bRD<|nE rfl rfl rfl rfl fO ζ Yf rfl Yk (Or.inr (dC.in_ Xdg)) bRD<|Zan<|pQ<|Zay ?_;refine Za2<|bS [] 5 14 4036<|Zj rfl iJ rfl<|Zh 0 rfl pD rfl I rfl<|Za rfl<|Zx rfl U47 sG rfl hc rfl hx1 fun b1 o1 R U hY V=>?_;obtain rfl:R=[qI _,qI _,qI _,qI _]:=U;refine Zj rfl O4 rfl<|Zh 0 rfl aH rfl V rfl<|Zj rfl iJ rfl<|Zh 0 rfl pD rfl I rfl<|Za rfl<|Zx rfl U47 sG rfl hc rfl hx2 fun b2 o2 Y Z rA hB=>?_;obtain rfl:Y=[qI _,qI _,qI _,qI _]:=Z;refine Zj rfl O4 rfl<|Zh 0 rfl aH rfl hB rfl<|Zau rfl<|Zf rfl<|aJ<|Za rfl<|Za rfl<|Zaw rfl<|Za rfl ?_;refine' bU 4 (s:=36) (p:=40) rfl (fun hE=>?_) (fun hE=>?_) ?_;rotate_left
  ·refine bI rfl tY rfl Mm1 Xas n4 rfl ⟨_,rfl,rfl⟩<|Ze rfl (fun D1 hD1=>uW p _ hpb)<|Wcc ?_;exact aN 3
  ·refine Wb ?_;exact aN 3
  refine Za rfl ?_;refine' bU 4 (s:=41) (p:=45) rfl (fun hF=>?_) (fun hF=>?_) ?_;rotate_left
  ·refine bI rfl tY rfl Mm0 Xas n4 rfl ⟨_,rfl,rfl⟩<|Ze rfl (fun D2 hD2=>uW q _ hqb)<|Wcc ?_;exact aN 3
  ·refine Wb ?_;exact aN 3
  refine Za rfl ?_;refine' bU 5 (s:=46) (p:=51) rfl (fun hH=>?_) (fun hH=>?_) ?_;rotate_left
  ·refine Zb rfl<|Zk rfl N5 rfl<|Wbq ?_;exact aN 4
  ·refine Zg rfl<|Wb ?_;exact aN 4
  refine Za rfl ?_;refine' bU 6 (s:=52) (p:=58) rfl (fun hI=>?_) (fun hI=>?_) ?_;rotate_left
  ·refine Zb rfl<|aEC rfl rfl Ye rfl ⟨_,rfl,rfl⟩<|Zk rfl N5 rfl<|Wbq ?_;exact aN 5
  ·refine Wbf ?_;exact aN 5
  refine Za rfl ?_;refine' bU 7 (s:=59) (p:=66) rfl (fun hJ=>?_) (fun hJ=>?_) ?_;rotate_left
  ·refine Wp ?_;exact aN 6
  ·refine Wo ?_;exact aN 6
  refine Za rfl ?_;refine' bU 7 (s:=67) (p:=74) rfl (fun hK=>?_) (fun hK=>?_) ?_;rotate_left
  ·refine Wp ?_;exact aN 6
  ·refine Wo ?_;exact aN 6
  refine Za rfl ?_;refine' bU 7 (s:=75) (p:=82) rfl (fun hN=>?_) (fun hN=>?_) ?_;rotate_left
  ·refine Wp ?_;exact aN 6
  ·refine Wo ?_;exact aN 6
  refine We ?_;exact aE rfl fun D hD=>Xdh
 ·refine Zad rfl wS rfl fun q2=>Zan<|aT [(true,8)] rfl<|Zad rfl wS rfl fun q3=>Zan<|nT [(true,10),(false,11)] rfl<|kJ O Yf fun hap=>nE rfl rfl rfl rfl fO ζ Yf rfl Yk (bLY (dC.in_ Xdg)) bRD<|nE rfl rfl rfl rfl fO (.tail ζ) Yf rfl Yk (Or.inr (dC.in_ Xdf)) bRD<|Zan<|pQ<|Zay ?_;refine Za2<|bS [] 5 14 4036<|Zj rfl iJ rfl<|Zh 0 rfl pD rfl I rfl<|Za rfl<|Zx rfl U47 sG rfl hc rfl hx1 fun b1 o1 R U hY V=>?_;obtain rfl:R=[qI _,qI _,qI _,qI _]:=U;refine Zj rfl O4 rfl<|Zh 0 rfl aH rfl V rfl<|Zj rfl iJ rfl<|Zh 0 rfl pD rfl I rfl<|Za rfl<|Zx rfl U47 sG rfl hc rfl hx2 fun b2 o2 Y Z rA hB=>?_;obtain rfl:Y=[qI _,qI _,qI _,qI _]:=Z;refine Zj rfl O4 rfl<|Zh 0 rfl aH rfl hB rfl<|Zau rfl<|Zf rfl<|aJ<|Za rfl<|Za rfl<|Zaw rfl<|Za rfl ?_;refine' bU 4 (s:=36) (p:=40) rfl (fun hE=>?_) (fun hE=>?_) ?_;rotate_left
  ·refine bI rfl tY rfl Mm0 Xas n4 rfl ⟨_,rfl,rfl⟩<|Ze rfl (fun D1 hD1=>uW p _ hpb)<|Wcc ?_;exact aN 3
  ·refine Wb ?_;exact aN 3
  refine Za rfl ?_;refine' bU 4 (s:=41) (p:=45) rfl (fun hF=>?_) (fun hF=>?_) ?_;rotate_left
  ·refine bI rfl tY rfl Mm1 Xas n4 rfl ⟨_,rfl,rfl⟩<|Ze rfl (fun D2 hD2=>uW q _ hqb)<|Wcc ?_;exact aN 3
  ·refine Wb ?_;exact aN 3
  refine Za rfl ?_;refine' bU 5 (s:=46) (p:=51) rfl (fun hH=>?_) (fun hH=>?_) ?_;rotate_left
  ·refine Zb rfl<|Zk rfl N5 rfl<|Wbq ?_;exact aN 4
  ·refine Zg rfl<|Wb ?_;exact aN 4
  refine Za rfl ?_;refine' bU 6 (s:=52) (p:=58) rfl (fun hI=>?_) (fun hI=>?_) ?_;rotate_left
  ·refine Zb rfl<|aEC rfl rfl Ye rfl ⟨_,rfl,rfl⟩<|Zk rfl N5 rfl<|Wbq ?_;exact aN 5
  ·refine Wbf ?_;exact aN 5
  refine Za rfl ?_;refine' bU 7 (s:=59) (p:=66) rfl (fun hJ=>?_) (fun hJ=>?_) ?_;rotate_left
  ·refine Wq ?_;exact aN 6
  ·refine Wo ?_;exact aN 6
  refine Za rfl ?_;refine' bU 7 (s:=67) (p:=74) rfl (fun hK=>?_) (fun hK=>?_) ?_;rotate_left
  ·refine Wq ?_;exact aN 6
  ·refine Wo ?_;exact aN 6
  refine Za rfl ?_;refine' bU 7 (s:=75) (p:=82) rfl (fun hN=>?_) (fun hN=>?_) ?_;rotate_left
  ·refine Wq ?_;exact aN 6
  ·refine Wo ?_;exact aN 6
  refine We ?_;exact aE rfl fun D hD=>Xdh
theorem aTA(yv tv lv:Γ)(y:bC)(t:List Pt)(l:List (Int×Int))(D:aC)(hy:iR D yv y)(ht:Sl D RP 3 tv t)(hl:Sl D R2 2 lv l)(hyo:bEW y)(hlen:t.length=y.chairs.length)(hb:∀p∈t,wL p)(hp:∀p∈l,∃x z:Nat,p=((x:Int),(z:Int))∧x<t.length∧z<t.length)(hO:l.length≤1000):Fn prog 197 #[yv,tv,lv] D (fun _ v=>v=qI (lA y t l:Int)):=by
 have R:=hy;have hP:=hyo.len;obtain⟨cv,qv,rfl,hc,hq⟩:=hy;have hll:=hl.len;refine Zw 33 func197 rfl fun h0=>aA<|Zy rfl fun q1 E1 hR U=>Zf rfl<|aJ<|Za rfl<|Zd rfl (fun D1 V=>aSV _ t _ (ht.up RP.up (V _ Yf)) hb)<|Zf rfl<|bG<|Zf rfl<|aF<|Za0 ?_;refine bK (γ:=Nat) (fun k=>l.length-k) (fun k=>k≤l.length) (fun k=>[(8,qI (k:Int)),(7,qI (lA y t (l.take k):Int))]) [(6,_),(3,_),(1,_),(2,_)] (fun k=>[E1,D]) 0 Yd ⟨Ya,(by simp[lA];rfl),bRD⟩ bQ (aK) ?_
 rintro k h1;refine bZ<|Za rfl<|Za rfl<|Zah rfl U245 rfl hl rfl<|Zam rfl<|aF<|Zaf rfl (fun hc1=>?_) fun hc1=>?_
 ·have hk:k<l.length:=by omega
  obtain⟨p,I⟩:=cR l k;obtain⟨x,z,rfl,Y,Z⟩:=hp p (n5 I);have hml:=aJN y t (l.take k);have htl:(l.take k).length≤k:=bOT _ _;refine aQ<|Za2<|Za0<|Za2<|bS [] 4 13 4094<|Zv rfl qD rfl U nW<|Za rfl<|Za rfl<|Za rfl<|Zx rfl U245 CX rfl hl rfl I fun b1 o1 hB hE hK hF=>?_;obtain rfl:hB=[qI _,qI _]:=hE;refine Zj rfl aID rfl<|Zh 0 rfl aH rfl hF rfl<|Za rfl<|Za rfl<|Zx rfl U245 CX rfl hl rfl I fun b2 o2 hH hI hN hJ=>?_;obtain rfl:hH=[qI _,qI _]:=hI;refine Zj rfl aJR rfl<|Zh 1 rfl aH rfl hJ rfl<|Zd rfl (fun D2 O=>NL _ _ y t x z _ (R.up (O _ Yf)) (ht.up RP.up (O _ Yf)) hyo hlen hb Y Z)<|aF<|Zag rfl (fun hc2=>?_) fun hc2=>?_
  ·refine Wbx ?_;exact Zn 25 (k+1) ⟨Ya,(by rw[YH I hc2];rfl),bRD⟩ rfl Mm5
  ·refine Wbs ?_;exact Zn 22 (k+1) ⟨Ya,(by rw[aJZ I hc2];rfl),bRD⟩ rfl Mm5
 ·obtain rfl:k=l.length:=by omega
  rw[bMP];refine Wl ?_;exact aE rfl fun D hD=>rfl
theorem aSF(yv:Γ)(y:bC)(n:Int)(D:aC)(hy:iR D yv y)(h5:y.claims.length≤40):Fn prog 133 #[yv,qI n] D (fun _ v=>v=qI (jI (rT y.claims n) y.claims.length:Int)):=by
 obtain⟨cv,qv,rfl,hc,hq⟩:=hy;refine Zw 34 func133 rfl fun h0=>aA<|Zy rfl fun q1 E1 hH O=>Zf rfl<|aJ<|Zf rfl<|bG<|Zf rfl<|aF<|Za0<|bK (γ:=Nat) (fun i=>y.claims.length-i) (fun i=>i≤y.claims.length) (fun i=>[(6,qI (i:Int)),(5,qI (jI (rT y.claims n) i:Int))]) [(4,_),(2,_),(1,_)] (fun i=>[E1,D]) 0 Yd ⟨Ya,Ya,bRD⟩ bQ (aK) ?_;rintro i h1;refine bZ<|Za rfl<|Zj rfl kT rfl<|Zh 2 rfl xS rfl O rfl<|Zah rfl U48 rfl hq rfl<|Zam rfl<|aF<|Zaf rfl (fun hc1=>?_) fun hc1=>?_
 ·have hi:i<y.claims.length:=by omega
  obtain⟨r,I⟩:=cR y.claims i;have hbl:=m3 (rT y.claims n) i;have hI:2^i≤2^40:=bNQ Yd Yd;refine aQ<|Za2<|Za0<|Za2<|bS [] 5 14 8190<|Za rfl<|Zj rfl kT rfl<|Zh 2 rfl xS rfl O rfl<|Za rfl<|Zx rfl U48 xE rfl hq rfl I fun b1 o1 R U hE V=>?_;obtain rfl:R=[qI _,qI _]:=U;refine Zj rfl aHV rfl<|Zh 0 rfl aH rfl V rfl<|Zj rfl kT rfl<|Zh 2 rfl xS rfl O rfl<|Za rfl<|Zx rfl U48 xE rfl hq rfl I fun b2 o2 Y Z hF hB=>?_;obtain rfl:Y=[qI _,qI _]:=Z;refine Zj rfl aJA rfl<|Zh 1 rfl aH rfl hB rfl<|Zd rfl (fun D1 hJ=>aDO _ _ _ _)<|aF<|Zag rfl (fun hc2=>?_) fun hc2=>?_
  ·refine aP<|Za rfl<|Za rfl<|uB rfl U3 U336 rfl Ye rfl bRD<|DG rfl rfl rfl Yd rfl bRD<|LW rfl rfl rfl Yd Yd rfl bRD<|Zf rfl<|Zan<|Za3<|Zay<|aP<|Za rfl ?_;refine Zae rfl<|Wbl ?_;exact Zn 30 (i+1) ⟨Ya,(by rw[jI,bMG (by rw[IN I];exact hc2)];rfl),bRD⟩ rfl Mm5
  ·refine Wbs ?_;exact Zn 24 (i+1) ⟨Ya,(by rw[jI,bLX (by rw[IN I,hc2];simp)];rfl),bRD⟩ rfl Mm5
 ·obtain rfl:i=y.claims.length:=by omega
  refine Wl ?_;exact aE rfl fun D hD=>rfl
theorem aWP(yv:Γ)(y:bC)(D:aC)(hy:iR D yv y)(h5:y.claims.length≤40):Fn prog 134 #[yv] D (fun _ v=>v=qI (((2^y.claims.length:Nat):Int)-1)):=by
 obtain⟨cv,qv,rfl,hc,hq⟩:=hy;have O:2^y.claims.length≤2^40:=bNQ Yd Yd;have R:1≤2^y.claims.length:=Nat.one_le_two_pow;have hpi:(1:Int)≤((2^y.claims.length:Nat):Int):=by omega
 have hpj:((2^y.claims.length:Nat):Int)≤1099511627776:=by omega
 refine Zw 9 func134 rfl (fun h0=>aA<|Zy rfl fun V E1 U I=>Zf rfl<|aJ<|Zj rfl kT rfl<|Zh 2 rfl xS rfl I rfl<|Zah rfl U48 rfl hq rfl<|uB rfl U3 U336 rfl Ye rfl bRD<|DG rfl rfl rfl Yd rfl bRD<|xF rfl rfl rfl (by simp only[tQ];generalize ((2^y.claims.length:Nat):Int)=z at hpi hpj ⊢;omega) rfl bRD<|Zf rfl ?_);refine aG ?_;exact aE rfl fun D hD=>rfl
def bJF:Rd (List (Int×Int)):=fun D l cs=>∃v,cs=[v]∧Sl D R2 2 v l
theorem bJF.up:bJF.Up:=fun hl _ _ ⟨v,hc,hs⟩=>⟨v,hc,hs.up R2.up hl⟩
inductive LP(D:aC):List Γ→List (List (Int×Int))→Prop
 |nil:LP D [] []
 |cons {v l vs ls} (h:Sl D R2 2 v l) (r:LP D vs ls):LP D (v::vs) (l::ls)
theorem LP.up{D D':aC}{vs:List Γ}{ls:List (List (Int×Int))}(h:LP D vs ls)(hl:Le D D'):LP D' vs ls:=by
 induction h with
 |nil=>exact .nil
 |cons h _ ih=>exact .cons (h.up R2.up hl) ih
theorem LP.len{D:aC}{vs:List Γ}{ls:List (List (Int×Int))}(h:LP D vs ls):vs.length=ls.length:=by
 induction h with
 |nil=>rfl
 |cons _ _ ih=>rw[bLU,bLU,ih]
theorem LP.snoc{D:aC}{vs:List Γ}{ls:List (List (Int×Int))}{v:Γ}{l:List (Int×Int)}(h:LP D vs ls)(hv:Sl D R2 2 v l):LP D (vs++[v]) (ls++[l]):=by
 induction h with
 |nil=>exact .cons hv .nil
 |cons h _ ih=>exact .cons h ih
theorem LP.get{D:aC}{vs:List Γ}{ls:List (List (Int×Int))}(h:LP D vs ls):∀{i:Nat} {l:List (Int×Int)},ls[i]?= some l→∃v,vs[i]?= some v∧Sl D R2 2 v l:=by
  induction h with
  |nil=>intro i l hi;simp at hi
  | @cons v I vs ls h _ ih=>
    intro i l hi;cases i with
    | zero => obtain rfl : I = l := by simpa using hi
              exact⟨v,rfl,h⟩
    |succ i=>exact ih Yas
theorem _root_.Go.Fs.kH.plists{D:aC}{v:Γ}{n:Nat}{vs:List Γ}{ls:List (List (Int×Int))}(hF:kH D v n vs)(h:LP D vs ls)(hn:vs.length=n)(hb:n≤9223372036854775807):Sl D bJF 1 v ls:=
 hF.sl (by rw[←h.len];exact hn) hb fun i l hi=>by
  obtain⟨u,hu,hs⟩:=h.get hi;refine⟨[u],⟨u,rfl,hs⟩,rfl,?_⟩;have hlt:=(bLS.1 hu).1;rw[bNY,bNC hlt];rw[bLR hlt]at hu;rw[bMQ hu];rfl
theorem aCG{w f:Nat}(h:((w >>> f:Nat):Int)%2=1):w.testBit f=true:=by
 rw[mH]at h;cases e:w.testBit f with
 |true=>rfl
 |false=>rw[e]at h;simp at h
theorem VA{w f:Nat}(h:¬((w >>> f:Nat):Int)%2=1):w.testBit f=false:=by
 rw[mH]at h;cases e:w.testBit f with
 |false=>rfl
 |true=>rw[e]at h;simp at h
theorem bLC{k:Nat}(h:k≤6):8^k≤262144:=by
 have:8^k≤8^6:=bNQ Yd h;omega
theorem bJZ{k:Nat}(h:k≤7):8^k≤2097152:=by
 have:8^k≤8^7:=bNQ Yd h;omega
theorem GO{α β:Type}{f:α→List β}{c:Nat}:∀{l:List α},(∀x∈l,(f x).length≤c)→(l.flatMap f).length≤l.length*c
 | [],_=>by simp
 |x::l,h=>by
  rw[bMS,bLT,bLU,bOK];have:=h x bLP;have:=GO (l:=l) fun y hy=>h y (LE _ hy)
  omega
theorem m5{n:Nat}(hn:n≤7):∀k w,(prs n k w).length≤8^k
 |0,w=>by simp[prs]
 |k+1,w=>by
  have ih:=m5 hn k;unfold prs;split
  ·have:=ih w;rw[Nat.pow_succ];omega
  ·rw[bLT];have h1:=ih w;have h2:=GO (f:=fun b=>(prs n k (w|||2^b)).map fun l=>(n-(k+1),b)::l) (c:=8^k) (l:=(List.range n).filter fun b=>decide (n-(k+1)<b)&& !w.testBit b) fun b _=>by rw[bNE];exact ih _
   have h3:=bNF (fun b=>decide (n-(k+1)<b)&& !w.testBit b) (List.range n);rw[bPQ]at h3;have h4:((List.range n).filter fun b=>decide (n-(k+1)<b)&& !w.testBit b).length*8^k≤7*8^k:=bPG _ Yd;rw[Nat.pow_succ];omega
theorem OX{l:List (Nat×Nat)}(h:(pY l).Nodup):(l.map fun p=>p.1).Nodup:=by
 induction l with
 |nil=>exact bNW
 |cons p l ih=>
  unfold pY at h;rw[bMS,bMB]at h;rw[bMT,bNP];refine⟨fun hm=>?_,ih h.2.1⟩;obtain⟨q,hq,e⟩:=GE.1 hm;exact h.2.2 p.1 Yf q.1 (bPE.2 ⟨q,hq,Yf⟩) e.symm
theorem JW{n k w:Nat}{l:List (Nat×Nat)}(hn:n≤7)(hk:k≤n)(hl:l∈prs n k w):(pI l).length≤7:=by
 have ok:=y2 k w hk l hl;have h2:=rR (l:=l.map fun p=>p.1) (m:=List.range n) (OX ok.nd) fun x hx=>by
  obtain⟨p,hp,rfl⟩:=GE.1 hx;obtain⟨_,h2,h3,_⟩:=ok.at_ p hp;exact bNJ.2 Yd
 rw[bNE,bPQ]at h2;simp only[pI,bNE];omega
def zK(n k f w b:Nat):List (List (Int×Int)):=(prs n k w++((List.range b).filter fun b=>decide (f<b)&& !w.testBit b).flatMap fun b=>(prs n k (w|||2^b)).map fun l=>(f,b)::l).map pI
theorem TB{n k f w:Nat}:zK n k f w (f+1)=(prs n k w).map pI:=by
 unfold zK;rw[List.filter_eq_nil_iff.2 fun b hb=>by have:=bNJ.1 hb;simp;omega]
 simp
theorem aQN{n k f w b:Nat}(h:w.testBit b=true):zK n k f w (b+1)=zK n k f w b:=by
 unfold zK;rw[bND,bMY,bMZ];simp[h]
theorem aLR{n k f w b:Nat}(hb:f<b)(h:w.testBit b=false):zK n k f w (b+1)=zK n k f w b++(prs n k (w|||2^b)).map (fun l=>pI ((f,b)::l)):=by
 unfold zK;rw[bND,bMY,bMZ];simp[h,hb]
theorem aLC{n k f w b:Nat}(hn:n≤7)(hb:b≤n):(zK n k f w b).length≤8*8^k:=by
 unfold zK;rw[bNE,bLT];have h1:=m5 hn k w;have h2:=GO (f:=fun b=>(prs n k (w|||2^b)).map fun l=>(f,b)::l) (c:=8^k) (l:=(List.range b).filter fun b=>decide (f<b)&& !w.testBit b) fun b _=>by rw[bNE];exact m5 hn k _
 have h3:=bNF (fun b=>decide (f<b)&& !w.testBit b) (List.range b);rw[bPQ]at h3;have h4:((List.range b).filter fun b=>decide (f<b)&& !w.testBit b).length*8^k≤7*8^k:=bPG _ Yd;omega
theorem aPA{n k f w:Nat}(hf:f+(k+1)=n)(h:w.testBit f=true):(prs n (k+1) w).map pI=(prs n k w).map pI:=by
 rw[prs,show n-(k+1)=f by omega,bMG h]
theorem aQX{n k f w:Nat}(hf:f+(k+1)=n)(h:w.testBit f=false):(prs n (k+1) w).map pI=zK n k f w n:=by
 rw[prs,show n-(k+1)=f by omega,bLX Ybh];rfl
theorem aIZ{y:bC}{t:List Pt}{ls:List (List (Int×Int))}{i:Nat}{l:List (Int×Int)}(h:ls[i]?= some l):((((ls.take (i+1)).map (lA y t)).foldl max 0:Nat):Int)=max ((((ls.take i).map (lA y t)).foldl max 0:Nat):Int) (lA y t l:Int):=by
 rw[bLW,h,bMR,bME,bNM];show((max _ _:Nat):Int)=_;omega
theorem OW{y:bC}(Y:y.chairs.length≤7):∀(kk f:Nat),f+kk=y.chairs.length→∀(w:Nat),w<128→∀(yv:Γ) (D:aC),iR D yv y→KH prog 129 #[yv,qI (f:Int),qI (w:Int)] D (fun D' v ν=>∃vs,bM 245 1 v vs.length vs ν∧LP D' vs ((prs y.chairs.length kk w).map pI)):=by
 intro kk;induction kk using Nat.strongRecOn with
 |_ kk ih=>
 intro f hf w hw yv D hy;have hH:=hy;obtain⟨cv,qv,rfl,hc,hq⟩:=hy;have hcl:=hc.len;refine qR 72 func129 rfl rfl rfl rfl fun h0=>aA<|Zy rfl fun q1 E1 hE1 O=>Zf rfl<|bG<|Za rfl<|Zj rfl iJ rfl<|Zh 0 rfl pD rfl O rfl<|Zah rfl U47 rfl hc rfl<|jT rfl rfl rfl rfl bRD<|aF<|Zaf rfl (fun hc1=>?_) fun hc1=>?_
 ·obtain rfl:kk=0:=by omega
  refine aA<|S9 rfl U237 l7 OJ rfl rfl rfl rfl (.cons rfl rfl .nil) rfl bRD fun b3 hacc=>Wi ?_;exact aE rfl fun D' hD=>⟨[qN],hacc,.cons Sl.nil .nil⟩
 ·obtain⟨k,rfl⟩:∃k,kk=k+1:=⟨kk-1,Yd⟩
  have hf7:f<7:=by omega
  refine aQ<|aA<|Zv rfl qD rfl O nW<|Za rfl<|Zae rfl<|Za rfl<|gI rfl rfl rfl (fun D5 hS=>ih k Yd (f+1) Yd w hw _ D5 (hH.up (hS _ Yf))) rfl bRD fun v1 D6 ν1 hD6 hX=>?_;obtain⟨hI,hJ,R⟩:=hX;refine Zf rfl<|bG<|Za rfl<|Za rfl<|uB rfl U3 U336 rfl Ye rfl bRD<|V3 rfl rfl rfl Yd rfl bRD<|yJ rfl rfl rfl (bQG _) Yd Ye rfl bRD<|Zap rfl<|aF<|Zaf rfl (fun hc2=>?_) fun hc2=>?_
  ·have hbf:w.testBit f=true:=aCG hc2;refine aA<|Za rfl<|Zf rfl<|aG<|Zaz<|zC ν1 Yf ?_;have ha1x:=hJ;exact aE rfl fun D' hD=>⟨hI,ha1x,by rw[aPA hf hbf];exact R.up (hD _ Yf)⟩
  ·have hbf:w.testBit f=false:=VA hc2;refine aQ<|bZ<|Za rfl<|Zae rfl<|Zf rfl<|aF<|Za0<|fZ (γ:=Nat×Γ×List Γ×aD×aC) (fun g=>y.chairs.length-g.1) (fun g=>f+1≤g.1∧g.1≤y.chairs.length∧bM 245 1 g.2.1 g.2.2.1.length g.2.2.1 g.2.2.2.1∧LP g.2.2.2.2 g.2.2.1 ((zK y.chairs.length k f w g.1))) (fun g=>[(8,qI (g.1:Int)),(7,g.2.1)]) [(6,_),(3,_),(1,_),(2,_)] (fun g=>g.2.2.2.1++[]) (fun g=>[g.2.2.2.2,E1,D]) (f+1,v1,hI,ν1,D6) ⟨Yf,Yn,hJ,by simp only;rw[TB];exact R⟩ ⟨Ya,Ya,bRD⟩ bQ (Yf) ((fun D0 h=>by simp only[bLO,n4,bNV]at h;rcases h with h|h|h;exact⟨D6,Yf,h▸Le.refl _⟩;exact⟨E1,Yf,h▸Le.refl _⟩;exact⟨D,Yf,h▸Le.refl _⟩)) ?_
   rintro⟨b,v,vs,ν,Dn⟩ ⟨h0,h1,ha,hla⟩;simp only at h0 h1 ha hla;have hpl:=aLC (n:=y.chairs.length) (k:=k) (f:=f) (w:=w) (b:=b) Y h1;have hpw:=bLC (show k≤6 by omega);have hvl:=hla.len;refine bZ<|Za rfl<|Zj rfl iJ rfl<|Zh 0 rfl pD rfl O rfl<|Zah rfl U47 rfl hc rfl<|Zam rfl<|aF<|Zaf rfl (fun hc3=>?_) fun hc3=>?_
   ·have hbn:b<y.chairs.length:=by simp only at hc3;omega
    have hY:b<7:=by omega
    have hpb:=CM hY;refine aQ<|Za2<|Za0<|bZ<|Za rfl<|Za rfl<|uB rfl U3 U336 rfl Ye rfl bRD<|V3 rfl rfl rfl Yai rfl bRD<|yJ rfl rfl rfl (bQG _) Yd Ye rfl bRD<|Zap rfl<|aF<|Zaf rfl (fun Z=>?_) fun Z=>?_
    ·have hbw:w.testBit b=true:=aCG Z;refine Za5<|Za1<|Za6<|Zay<|aP<|Za rfl<|Zae rfl<|Wbl ?_;exact aL 16 (b+1,v,vs,ν,Dn) ⟨Yn,Yn,ha,by simp only;rw[aQN hbw];exact hla⟩ Yn ⟨Ya,Ya,bRD⟩ rfl rfl Mm5 Ys
    ·have hbw:w.testBit b=false:=VA Z;have hql:=m5 Y k (w|||2^b);refine aQ<|aA<|Zv rfl qD rfl O nW<|Za rfl<|Zae rfl<|Za rfl<|Za rfl<|uB rfl U3 U336 rfl Ye rfl bRD<|DG rfl rfl rfl Yai rfl bRD<|LW rfl rfl rfl Yai Yai rfl bRD<|gI rfl rfl rfl (fun D7 rA=>ih k Yd (f+1) Yd (w|||2^b) (ZM hw hpb) _ D7 (hH.up (rA _ Yf))) rfl bRD fun v2 D8 ν2 hD8 rB=>?_;obtain⟨vs2,ha2,U⟩:=rB;refine Zf rfl<|bW<|zE (A:=[]) (B:=ν++[]) ha2 rfl fun D9 hK hF9=>?_;have hsl:=hF9.plists (U.up (hK _ Yf)) rfl (by have:=U.len;rw[bNE]at this;omega)
     have hll:=hsl.len;refine aP<|Zf rfl<|aF<|Za0<|fZ (γ:=Nat×Γ×List Γ×aD×aC) (fun g=>(prs y.chairs.length k (w|||2^b)).length-g.1) (fun g=>g.1≤(prs y.chairs.length k (w|||2^b)).length∧bM 245 1 g.2.1 g.2.2.1.length g.2.2.1 g.2.2.2.1∧LP g.2.2.2.2 g.2.2.1 ((zK y.chairs.length k f w b)++((prs y.chairs.length k (w|||2^b)).take g.1).map fun l=>pI ((f,b)::l))) (fun g=>[(10,qI (g.1:Int)),(7,g.2.1)]) [(9,_),(52,_),(51,_),(50,_),(49,_),(48,_),(47,_),(46,_),(45,_),(44,_),(43,_),(42,_),(41,_),(40,_),(39,_),(38,_),(35,_),(34,_),(33,_),(32,_),(31,_),(8,_),(6,_),(3,_),(1,_),(2,_)] (fun g=>g.2.2.2.1++[]) (fun g=>[g.2.2.2.2,D9,E1,D]) (0,v,vs,ν,D9) ⟨Yf,ha,by simpa using hla.up (hK Dn Yf)⟩ ⟨Ya,Ya,bRD⟩ bQ (Yf) ((fun D0 h=>by simp only[bLO,n4,bNV]at h;rcases h with h|h|h|h;exact⟨D9,Yf,h▸Le.refl _⟩;exact⟨D9,Yf,h▸Le.refl _⟩;exact⟨E1,Yf,h▸Le.refl _⟩;exact⟨D,Yf,h▸Le.refl _⟩)) ?_
     rintro⟨i,v,vs,ν,Dn⟩ ⟨h2,ha,hla⟩;simp only at h2 ha hla;have hvl:=hla.len;rw[bLT,bNE,bNT]at hvl;refine bZ<|Za rfl<|Za rfl<|Zah rfl U237 rfl hsl rfl<|Zam rfl<|aF<|Zaf rfl (fun hB=>?_) fun hB=>?_
     ·have hi:i<(prs y.chairs.length k (w|||2^b)).length:=by simp only[bNE]at hB;omega
      obtain⟨l,hE⟩:=cR (prs y.chairs.length k (w|||2^b)) i;have hl1:((prs y.chairs.length k (w|||2^b)).map pI)[i]?= some (pI l):=by rw[bNB,hE];rfl
      have V:(pI l).length≤7:=JW Y Yd (n5 hE);refine aQ<|Za2<|Za0<|aP<|Za rfl<|Za rfl<|Za rfl<|Zu [qI (f:Int),qI (b:Int)] rfl bDT NF rfl<|S9 rfl U245 CX NF rfl rfl rfl rfl (.cons rfl rfl .nil) rfl bRD fun b3 hacc=>Za rfl<|Za rfl<|Zx rfl U237 l7 rfl hsl rfl hl1 fun b1 o1 cs1 hr1 hcl1 hA1=>?_;obtain⟨w1,rfl,hw1⟩:=hr1;refine Zh 0 rfl aEB rfl hA1 rfl<|aY ([]++[(_,_)]++(ν++[])) rfl<|aU (A:=[]) (ν:=[(_,_)]) (B:=ν++[]) rfl U245 rfl rfl CX NF rfl bCW rfl rfl rfl hacc (lD.of (cells:=fun p:Int×Int=>[qI p.1,qI p.2]) (fun _ _ _ h=>h) (fun _=>rfl) hw1) Yf (zQ _) rfl (LU _) (by have:=V;omega) (bMF rfl) rfl bRD fun v8 ν8 hN=>?_
      have ha8':bM 337 2 v8 (pI ((f,b)::l)).length (SM (pI ((f,b)::l))) ν8:=by simpa [SM,pI,Nat.add_comm]using hN
      refine SB (A:=[]) (B:=ν++[]) ha8' rfl fun D10 hD10 hO=>?_;have hP:=hO.prs rfl (by simp[pI];have:=V;simp[pI]at this;omega)
      refine Zt rfl U237 l7 OJ rfl (.cons hN.cells1 rfl .nil) (fun b901 D901 I hF=>aU (A:=[]) (B:=[]) rfl U237 rfl rfl l7 OJ rfl aZS rfl rfl rfl ha (lD.lit hF) Yf rfl Yf (by simpa using hP.cell1) (by have:=hla.len;omega) (bMF rfl) rfl bRD fun v7 ν7 ha7=>?_);have hR:=(hla.up (I Dn Yf)).snoc (hP.up R2.up (I D10 Yf));refine Wt ?_;exact aL 22 (i+1,v7,vs++[v8],ν7,D901) ⟨Yn,by simpa using ha7,by simp only;rw[bLW,hE,bMR,bME,←bMC];exact hR⟩ Yn ⟨Ya,Ya,bRD⟩ rfl rfl Mm5 fun D0 h=>by simp only[bLO,n4,bNV]at h;rcases h with h|h|h|h;exact⟨D901,Yf,h▸Le.refl _⟩;exact⟨D9,Yf,h▸Le.refl _⟩;exact⟨E1,Yf,h▸Le.refl _⟩;exact⟨D,Yf,h▸Le.refl _⟩
     ·obtain rfl:i=(prs y.chairs.length k (w|||2^b)).length:=by simp only[bNE]at hB;omega
      rw[bMP]at hla;refine Wbn ?_;exact aL 31 (b+1,v,vs,ν,Dn) ⟨Yn,Yn,ha,by simp only;rw[aLR Yd hbw];exact hla⟩ Yn ⟨Ya,Ya,bRD⟩ rfl rfl Mm5 Ys
   ·obtain rfl:b=y.chairs.length:=by simp only at hc3;omega
    refine Za5<|Za1<|Za1<|Za6<|Zay<|aA<|Za rfl<|Zf rfl<|aG<|zC ν Yf ?_;have hax:=ha;exact aE rfl fun D' hD=>⟨vs,hax,by rw[aQX hf hbf];exact hla.up (hD _ Yf)⟩
theorem SL{y:bC}(I:y.chairs.length≤7)(yv:Γ)(D:aC)(hy:iR D yv y):Fn prog 129 #[yv,qI 0,qI 0] D (fun D' v=>Sl D' bJF 1 v ((prs y.chairs.length y.chairs.length 0).map pI)):=
 (OW I y.chairs.length 0 Yd 0 Yd yv D hy).fn (e:=245) (sz:=1) fun D' v ν ⟨vs,ha,hla⟩=>⟨vs.length,vs,ha,fun D'' hl hF=>hF.plists (hla.up hl) rfl (by have:=hla.len;have:=m5 I y.chairs.length 0;have:=bJZ I;simp at *;omega)⟩
theorem aZD(yv tv sv:Γ)(y:bC)(t:List Pt)(ls:List (List (Int×Int)))(D:aC)(hy:iR D yv y)(ht:Sl D RP 3 tv t)(hs:Sl D bJF 1 sv ls)(hyo:bEW y)(hlen:t.length=y.chairs.length)(hb:∀p∈t,wL p)(hp:∀l∈ls,(∀p∈l,∃x z:Nat,p=((x:Int),(z:Int))∧x<t.length∧z<t.length)∧l.length≤1000):Fn prog 131 #[yv,tv,sv] D (fun _ v=>v=qI ((ls.map (lA y t)).foldl max 0:Nat)):=by
 have R:=hy;obtain⟨cv,qv,rfl,hc,hq⟩:=hy;have hsl:=hs.len;refine Zw 25 func131 rfl fun h0=>aA<|Zy rfl fun q1 E1 hE U=>Zf rfl<|aJ<|Zf rfl<|bG<|Zf rfl<|aF<|Za0<|bK (γ:=Nat) (fun i=>ls.length-i) (fun i=>i≤ls.length) (fun i=>[(8,qI (i:Int)),(7,qI (((ls.take i).map (lA y t)).foldl max 0:Nat))]) [(6,_),(3,_),(1,_),(2,_)] (fun i=>[E1,D]) 0 Yd ⟨Ya,Ya,bRD⟩ bQ (aK) ?_;rintro i h1;refine bZ<|Za rfl<|Za rfl<|Zah rfl U237 rfl hs rfl<|Zam rfl<|aF<|Zaf rfl (fun hc1=>?_) fun hc1=>?_
 ·have hi:i<ls.length:=by omega
  obtain⟨l,I⟩:=cR ls i;refine aQ<|Za2<|Za0<|bS [] 4 10 254<|Za rfl<|Zv rfl qD rfl U nW<|Za rfl<|Za rfl<|Za rfl<|Zx rfl U237 l7 rfl hs rfl I fun b1 o1 hF V hB Y=>?_;obtain⟨w1,rfl,Z⟩:=V;refine Zh 0 rfl aEB rfl Y rfl<|Zd rfl (fun D1 O=>aTA _ _ _ y t l _ (R.up (O _ Yf)) (ht.up RP.up (O _ Yf)) (Z.up R2.up (O _ Yf)) hyo hlen hb (hp l (n5 I)).1 (hp l (n5 I)).2)<|nZ rfl rfl rfl rfl bRD<|Wt ?_;exact Zn 19 (i+1) ⟨Ya,(by rw[aIZ I];rfl),bRD⟩ rfl Mm5
 ·obtain rfl:i=ls.length:=by omega
  rw[bMP];refine Wl ?_;exact aE rfl fun D hD=>rfl
end L7
open Go.Proofs
namespace L7
open C7
def bCK(l:List Pt):List Γ:=l.flatMap fun p=>[qI p.a,qI p.b,qI p.c]
theorem aQO(l:List Pt)(p:Pt):bCK (l++[p])=bCK l++[qI p.a,qI p.b,qI p.c]:=by simp[bCK]
theorem bIE{α:Type}{f:α→List Γ}{k:Nat}(hf:∀x,(f x).length=k)(l:List α):(l.flatMap f).length=l.length*k:=by
 induction l with
 |nil=>simp
 |cons c l ih=>rw[bMS,bLT,ih,hf,bLU,bOK];omega
theorem GW{α:Type}{f:α→List Γ}{k:Nat}(hf:∀x,(f x).length=k){l:List α}{i:Nat}{c:α}(hi:l[i]?= some c):((l.flatMap f).drop (i*k)).take k=f c:=by
  induction l generalizing i with
  |nil=>simp at hi
  |cons d l ih=>
    rw[bMS];cases i with
    | zero => obtain rfl : d = c := by simpa using hi
              rw[bPY,bPN,bNH (by rw[hf];omega),bMV (by rw[hf];omega)]
    |succ i=>
      rw[bPZ,bNK (by rw[hf,bOK];omega),bMW];have:(i+1)*k-(f d).length=i*k:=by rw[hf,bOK];omega
      rw[this];exact ih Yas
theorem aQQ(l:List Pt)(n:Nat)(h:l.length=n):(bCK l).length=n*3:=by rw[bCK,bIE (k:=3) fun _=>rfl,h]
theorem _root_.Go.Fs.kH.pts{D:aC}{v:Γ}{n:Nat}{l:List Pt}(hF:kH D v n (bCK l))(hn:l.length=n)(hb:n≤9223372036854775807):Sl D RP 3 v l:=
 hF.sl hn hb fun _i _t hi=>⟨_,rfl,rfl,GW (k:=3) (fun _=>rfl) hi⟩
theorem MD(y:bC)(t:List Pt)(a b:Nat):kG y t a b=kG y t b a:=by
 unfold kG;cases t[a]? <;>cases t[b]? <;>cases y.chairs[a]? <;>cases y.chairs[b]? <;>try rfl
 rename_i p q x z;simp only;rw[aKO,WO,show decide ((b:Int)≠a)=decide ((a:Int)≠b)from decide_eq_decide.2 ⟨fun h e=>h e.symm,fun h e=>h e.symm⟩]
theorem NS{y:bC}{t:List Pt}{a b:Nat}(h:kG y t a b=true):a<t.length∧b<t.length∧lN t a=true∧lN t b=true:=by
 unfold kG at h;split at h
 ·rename_i p q x z hp hq _ _;simp only[T6,bLQ]at h;refine⟨(bLS.1 hp).1,(bLS.1 hq).1,?_,?_⟩
  ·unfold lN;rw[hp];exact h.2.1.1
  ·unfold lN;rw[hq];exact h.2.1.2
 ·simp at h
theorem aDT{y:bC}{t:List Pt}(I:t.length≤7):fB (dK y t).fits=kG y t:=by
 funext a b;unfold fB dK;simp only[bNR,bNB];by_cases ha:a<7
 ·rw[bPW ha,bNL,bPK,oF];cases e:kG y t a b with
  |false=>simp
  |true=>simp[(NS e).2.1]
 ·rw[bOP Yap];cases e:kG y t a b with
  |false=>simp
  |true=>have:=(NS e).1;omega
theorem ZB{y:bC}{t:List Pt}{a b:Nat}(h:kG y t a b=true):(dK y t).broken.testBit a=true∧(dK y t).broken.testBit b=true:=by
 obtain⟨h1,h2,h3,h4⟩:=NS h;simp only[dK,oF];simp[h1,h2,h3,h4]
theorem bJV{y:bC}{t:List Pt}(hl:t.length=y.chairs.length)(I:t.length≤7):IE (kG y t) (dK y t).broken.testBit (BK (dK y t).fits y.chairs.length (dK y t).broken):=by
 have:=YD (F:=(dK y t).fits) (n:=y.chairs.length) (fun a b=>by rw[aDT I];exact MD y t a b) _ (dK y t).broken (bMH _) (P3 hl I).bits
 rwa [aDT I]at this
theorem m6{α:Type}(f:α→Nat)(w:Nat):∀(l:List α) (m:Nat),(l.map fun x=>w+f x).foldl max (w+m)=w+(l.map f).foldl max m
 | [],m=>rfl
 |x::l,m=>by
  rw[bMT,bMT,bMO,bMO,show max (w+m) (w+f x)=w+max m (f x) by omega];exact m6 f w l _
theorem HV{α:Type}(f:α→Nat)(w:Nat){l:List α}(h:l≠[]):(l.map fun x=>w+f x).foldl max 0=w+(l.map f).foldl max 0:=by
 cases l with
 |nil=>exact absurd rfl h
 |cons x l=>
  rw[bMT,bMT,bMO,bMO,show max 0 (w+f x)=w+max 0 (f x) by omega];exact m6 f w l _
theorem aIP(y:bC)(t:List Pt)(l:List (Nat×Nat)):lA y t (pI l)=whole t+aFT (kG y t) l:=by
 unfold lA aFT pI;rw[List.filter_map,bNE];rfl
theorem bFK(n k w:Nat)(h:k≤n):prs n k w≠[]:=fun e=>by
 obtain⟨l,hl,_⟩:=CF k w h [] ⟨Yf,by simp[pY]⟩;rw[e]at hl;simp at hl
theorem bAD{y:bC}{t:List Pt}(hl:t.length=y.chairs.length)(I:t.length≤7):(((prs y.chairs.length y.chairs.length 0).map pI).map (lA y t)).foldl max 0=N1 y t:=by
 rw[bQC,show(lA y t∘pI)=fun l=>whole t+aFT (kG y t) l from funext fun l=>aIP y t l,HV _ _ (bFK _ _ _ (bMH _)),
  aPF (MD y t) (fun a b h=>ZB h) (P3 hl I).bits (bJV hl I)]
 rfl
theorem bGP{n m:Nat}(hn:n≤7)(hm:m=n):∀l∈(prs n n 0).map pI,(∀p∈l,∃x z:Nat,p=((x:Int),(z:Int))∧x<m∧z<m)∧l.length≤1000:=by
 intro l hl;obtain⟨l',hl',rfl⟩:=GE.1 hl;have ok:=y2 n 0 (bMH _) l' hl';refine⟨fun p hp=>?_,by have:=JW hn (bMH _) hl';omega⟩
 obtain⟨q,hq,rfl⟩:=GE.1 hp;obtain⟨_,h2,h3,_⟩:=ok.at_ q hq;exact⟨q.1,q.2,rfl,Yd,Yd⟩
def IH(st:List Int×Nat)(j:Nat):List Int×Nat:=if st.1[j]?= some 2 then(st.1.set j ((st.2:Int)%2),st.2 / 2)else st
def yT(l:List Int)(m k:Nat):List Int×Nat:=(List.range k).foldl IH (l,m)
theorem rM(l:List Int)(m k:Nat):yT l m (k+1)=IH (yT l m k) k:=by unfold yT;rw[bND,bNM];rfl
theorem aSU{l:List Int}{m k:Nat}(h:(yT l m k).1[k]?= some 2):yT l m (k+1)=((yT l m k).1.set k (((yT l m k).2:Int)%2),(yT l m k).2 / 2):=by rw[rM,IH,bMG h]
theorem aYK{l:List Int}{m k:Nat}(h:(yT l m k).1[k]?≠some 2):yT l m (k+1)=yT l m k:=by rw[rM,IH,bLX h]
theorem VR(l:List Int)(m:Nat):∀k,(yT l m k).1.length=l.length
 |0=>rfl
 |k+1=>by rw[rM,IH];split<;>simp[VR l m k]
theorem aET(l:List Int)(m:Nat):∀k,(yT l m k).2≤m
 |0=>bMH _
 |k+1=>by
  have:=aET l m k;rw[rM,IH];split
  ·simp only;omega
  ·exact this
def p1(x:Int)(m:Nat):Int×Nat:=if x=2 then((m:Int)%2,m / 2)else(x,m)
def p3(p:Pt)(m:Nat):Pt×Nat:=(⟨(p1 p.a m).1,(p1 p.b (p1 p.a m).2).1,(p1 p.c (p1 p.b (p1 p.a m).2).2).1⟩,(p1 p.c (p1 p.b (p1 p.a m).2).2).2)
theorem bGV(p:Pt)(m:Nat):yT p.l m 3=((p3 p m).1.l,(p3 p m).2):=by
 rw[rM,rM,rM];show IH (IH (IH (p.l,m) 0) 1) 2=_;unfold IH p3 p1 Pt.l;by_cases ha:p.a=2<;>by_cases hb:p.b=2<;>by_cases hc:p.c=2<;>simp[ha,hb,hc]
theorem aMR(x:Int)(m:Nat):(p1 x m).2≤m:=by unfold p1;split<;>(simp only;omega)
theorem bKH(p:Pt)(m:Nat):(p3 p m).2≤m:=bOB (aMR _ _) (bOB (aMR _ _) (aMR _ _))
def aKD(st:List Pt×Nat)(c:Ch):List Pt×Nat:=(st.1++[(p3 c.parts st.2).1],(p3 c.parts st.2).2)
def H1(l:List Ch)(n:Nat):List Pt×Nat:=l.foldl aKD ([],n)
theorem JY{l:List Ch}{n i:Nat}{x:Ch}(h:l[i]?= some x):H1 (l.take (i+1)) n=((H1 (l.take i) n).1++[(p3 x.parts (H1 (l.take i) n).2).1],(p3 x.parts (H1 (l.take i) n).2).2):=by
 unfold H1;rw[bLW,h,bMR,bNM];rfl
theorem ST:∀(l:List Ch) (st:List Pt×Nat),(l.foldl aKD st).1.length=st.1.length+l.length
 | [],st=>by simp
 |c::l,st=>by rw[bMO,ST l];simp[aKD];omega
theorem EZ(l:List Ch)(n:Nat):(H1 l n).1.length=l.length:=by unfold H1;rw[ST];simp
theorem aEO:∀(l:List Ch) (st:List Pt×Nat),(l.foldl aKD st).2≤st.2
 | [],st=>bMH _
 |c::l,st=>by rw[bMO];exact bOB (aEO l _) (bKH _ _)
theorem bAU(l:List Ch)(n:Nat):(H1 l n).2≤n:=aEO l _
theorem bIL(yv:Γ)(y:bC)(n:Nat)(D:aC)(hy:iR D yv y)(hK:y.chairs.length≤1000)(hn:n≤1000000):Fn prog 132 #[yv,qI (n:Int)] D (fun D' v=>Sl D' RP 3 v (H1 y.chairs n).1):=by
 obtain⟨cv,qv,rfl,hc,hq⟩:=hy;have hcl:=hc.len;refine Zw 41 func132 rfl (fun h0=>aA<|Zy rfl fun q1 E1 hN O=>Zf rfl<|aJ<|Zf rfl<|bG<|Zf rfl<|aF<|Za0<|Zc (Nat×Γ×aD×Nat) (fun g=>y.chairs.length-g.1) (fun g=>g.1≤y.chairs.length∧bM 265 3 g.2.1 g.1 (bCK (H1 (y.chairs.take g.1) n).1) g.2.2.1∧g.2.2.2=(H1 (y.chairs.take g.1) n).2) (fun g=>[(1,qI (g.2.2.2:Int)),(5,g.2.1),(6,qI (g.1:Int))]) [(4,_),(2,_)] (fun g=>g.2.2.1++[]) (fun g=>[E1,D]) (0,qN,[],n) ⟨Yf,by simpa [bCK,H1]using bM.nil,rfl⟩ ⟨Ya,Ya,Ya,bRD⟩ Mm5 ?_);rintro⟨i,v,ν,m⟩ ⟨h1,ha,hm⟩;simp only at h1 ha hm;refine bZ<|Za rfl<|Zj rfl iJ rfl<|Zh 0 rfl pD rfl O rfl<|Zah rfl U47 rfl hc rfl<|Zam rfl<|aF<|Zaf rfl (fun hc1=>?_) fun hc1=>?_
 ·have hi:i<y.chairs.length:=by omega
  obtain⟨x,hx⟩:=cR y.chairs i;have hmn:=bAU (y.chairs.take i) n;rw[←hm]at hmn;refine aQ<|Za2<|Za0<|aA<|Zj rfl iJ rfl<|Zh 0 rfl pD rfl O rfl<|Za rfl<|Zx rfl U47 sG rfl hc rfl hx fun b1 o1 U V hI Y=>?_;obtain rfl:U=[qI _,qI _,qI _,qI _]:=V;refine Zj rfl y0 rfl<|dY rfl (k:=1) tY fO rfl Y Yc rfl rfl n4 rfl bRD<|Zad rfl wS rfl fun q2=>Zz rfl fO ζ<|bG<|Zf rfl<|aF<|Za0<|fZ (γ:=Nat) (fun k=>3-k) (fun k=>k≤3) (fun k=>[(1,qI ((yT x.parts.l m k).2:Int)),(8,qI (k:Int))]) [(7,_),(21,_),(20,_),(19,_),(18,_),(17,_),(16,_),(13,_),(12,_),(11,_),(10,_),(9,_),(5,_),(6,_),(4,_),(2,_)] (fun k=>(q2,qC (ints (yT x.parts.l m k).1) 265)::(ν++[])) (fun k=>[E1,D]) 0 Yd ⟨Ya,Ya,bRD⟩ bQ Mm5 (aK) ?_;rintro k h2;refine bZ<|Za rfl<|Zam rfl<|aF<|Zaf rfl (fun hc2=>?_) fun hc2=>?_
  ·have hk:k<3:=by omega
   have hkl:=VR x.parts.l m k;have hkm:=aET x.parts.l m k;have hO:x.parts.l.length=3:=rfl;obtain⟨w,hw⟩:∃w,(yT x.parts.l m k).1[k]?= some w:=⟨_,bLR Yd⟩
   refine aQ<|Za2<|Za0<|aA<|Za rfl<|cD rfl U265 aI rfl rfl Yd Yd rfl bRD<|bD rfl aH rfl Mm0 (cW hw) n4 rfl bRD<|Zap rfl<|aF<|Zaf rfl (fun hc3=>?_) fun hc3=>?_
   ·have Z:w=2:=hc3;refine aA<|Za rfl<|Za rfl<|yJ rfl rfl rfl Yd Yd Ye rfl bRD<|cD rfl U265 aI rfl rfl Yd Yd rfl bRD<|d6 rfl aI rfl rfl ζ (by rw[bNI,hkl];exact hk) bRD<|aF<|aP<|Za rfl<|KO rfl rfl rfl Yd Yd Ye rfl bRD<|Wbl ?_;refine Wa ?_;have R:=aSU (l:=x.parts.l) (m:=m) (k:=k) (Z▸hw);rw[show(yT x.parts.l m k).1.set (k:Int).toNat (((yT x.parts.l m k).2:Int)%2)=(yT x.parts.l m (k+1)).1 by rw[R];rfl]
    exact Zn 18 (k+1) ⟨(by rw[R];rfl),Ya,bRD⟩ rfl Mm5
   ·refine Wbs ?_;have R:=aYK (l:=x.parts.l) (m:=m) (k:=k) fun e=>hc3 (bMQ (hw.symm.trans e));rw[←R];exact Zn 11 (k+1) ⟨rfl,Ya,bRD⟩ rfl Mm5
  ·obtain rfl:k=3:=by omega
   rw[bGV];refine Za5<|Za1<|Za1<|Za6<|Zay<|aP<|Za rfl<|bI rfl tY rfl Mm0 Xas n4 rfl bRD<|Zt rfl U241 fO wS rfl (.cons rfl rfl .nil) fun hJ D901 hB I=>aU (A:=[(_,_)]) (B:=[]) rfl U241 rfl rfl fO wS rfl bCQ rfl rfl rfl ha (lD.lit I) Yf rfl (aQQ _ _ (by simp only[EZ,bNT];omega)) (by simp[cell1,ints,Pt.l]) Yd (bMF rfl) rfl bRD fun v7 ν7 hE=>?_
   have hH:bM 265 3 v7 (i+1) (bCK (H1 (y.chairs.take (i+1)) n).1) ν7:=by rw[JY hx,aQO,←hm];simpa [ints,Pt.l]using hE
   refine Wt ?_;exact aL 26 (i+1,v7,ν7,(p3 x.parts m).2) ⟨Yn,hH,by rw[JY hx,←hm]⟩ Yn ⟨Ya,Ya,Ya,bRD⟩ rfl rfl (List.Sublist.cons _ Mm5) fun D h=>⟨D,bMJ _ (h),Le.refl D⟩
 ·obtain rfl:i=y.chairs.length:=by omega
  rw[bMP]at ha;refine Za5<|Za1<|Za1<|Za6<|Zay<|aA<|Za rfl<|Zf rfl<|aG<|dU (A:=[]) (B:=[]) ha rfl fun D2 hP hF=>?_;exact aE rfl fun D' hD=>(hF.pts (EZ _ _) Yd).up RP.up (hD _ Yf)
theorem aWN(yv:Γ)(y:bC)(D:aC)(hy:iR D yv y)(U:y.chairs.length≤1000)(hu:dH y.chairs≤8):Fn prog 130 #[yv] D (fun _ v=>v=qI ((2^dH y.chairs:Nat):Int)):=by
 have I:=hy;obtain⟨cv,qv,rfl,hc,hq⟩:=hy;refine Zw 7 func130 rfl fun h0=>aA<|Zy rfl fun Y E1 V O=>Zf rfl<|aJ<|Zv rfl qD rfl O nW<|Zd rfl (fun Z R=>FQ _ y _ (I.up (R _ Yf)) U)<|uB rfl U3 U336 rfl Ye rfl bRD<|DG rfl rfl rfl Yd rfl bRD<|We ?_;exact aE rfl fun D hD=>rfl
theorem QE{x:Int}(h:0≤x∧x≤2)(m:Nat):xO x (p1 x m).1=true:=by
 unfold p1 xO;rw[bLQ,bN,bMU,LT,LT];split
 ·rename_i e;exact⟨Yn,bMF e⟩
 ·rename_i e;exact⟨Yn,bLY rfl⟩
theorem bHK{p:Pt}(h:∀n∈p.l,0≤n∧n≤2)(m:Nat):S4 p (p3 p m).1=true:=by
 have ha:=h p.a (by simp[Pt.l]);have hb:=h p.b (by simp[Pt.l]);have hc:=h p.c (by simp[Pt.l]);simp only[S4,Pt.l,p3,bPM,List.zip_nil_left,bPS,List.all_nil,Bool.and_true,bLQ];exact⟨QE ha _,QE hb _,QE hc _⟩
def rP:List Ch→Nat→List Pt
 | [],_=>[]
 |c::l,n=>(p3 c.parts n).1::rP l (p3 c.parts n).2
theorem aUC:∀(l:List Ch) (st:List Pt×Nat),(l.foldl aKD st).1=st.1++rP l st.2
 | [],st=>by simp[rP]
 |c::l,st=>by rw[bMO,aUC l];simp[aKD,rP]
theorem aUN(l:List Ch)(n:Nat):(H1 l n).1=rP l n:=by unfold H1;rw[aUC];rfl
theorem aDE:∀(l:List Ch) (n:Nat),(∀c∈l,∀n∈c.parts.l,0≤n∧n≤2)→((l.zip (rP l n)).all fun x=>S4 x.1.parts x.2)=true
 | [],n,_=>rfl
 |c::l,n,h=>by
  rw[rP,bPM,bPS,bLQ];exact⟨bHK (h c bLP) n,aDE l _ fun c hc=>h c (LE _ hc)⟩
theorem KG{y:bC}(h:bEW y)(n:Nat):eO y (H1 y.chairs n).1=true:=by
 unfold eO;rw[bLQ,LT];exact⟨EZ _ _,by rw[aUN];exact aDE _ _ h.part⟩
def HF(y:bC)(n:Nat):Int:=(N1 y (H1 y.chairs n).1:Nat)
def aBC(y:bC):List Int:=(List.range (2^dH y.chairs)).map (HF y)
theorem YX(yv:Γ)(y:bC)(D:aC)(hy:iR D yv y)(hf:aX y=0):Fn prog 61 #[yv] D (fun D' v=>Sl D' RI 1 v (aBC y)):=by
 have O:=hy;obtain⟨cv,qv,rfl,hc,hq⟩:=hy;have hyo:=bKN hf;have R:=hyo.len;have Y:=hyo.unk;have hcap:2^dH y.chairs≤2^8:=bNQ Yd Y;unfold aBC;refine Zw 24 func61 rfl fun h0=>aA<|Zy rfl fun q1 E1 hP U=>Zf rfl<|aJ<|Zv rfl qD rfl U nW<|Zaa rfl (fun D1 Z=>SL R _ _ (O.up (Z _ Yf))) fun v1 D1 Z hI=>?_;have hps:=hI;refine Zf rfl<|aJ<|Zf rfl<|bG<|Zf rfl<|aF<|Za0<|Zc (Nat×Γ×aD) (fun g=>2^dH y.chairs-g.1) (fun g=>g.1≤2^dH y.chairs∧bM 3 1 g.2.1 (((List.range g.1).map (HF y))).length (ints (((List.range g.1).map (HF y)))) g.2.2) (fun g=>[(4,g.2.1),(5,qI (g.1:Int))]) [(3,_),(2,_),(1,_)] (fun g=>g.2.2++[]) (fun g=>[D1,E1,D]) (0,qN,[]) ⟨Yf,bM.nil⟩ ⟨Ya,Ya,bRD⟩ Mm5 ?_;rintro⟨k,v,ν⟩ ⟨h1,ha⟩;simp only at h1 ha;refine bZ<|Za rfl<|Zv rfl qD rfl U nW<|Zd rfl (fun D2 hB=>aWN _ y _ (O.up (hB _ Yf)) Yd Y)<|Zam rfl<|aF<|Zaf rfl (fun hc1=>?_) fun hc1=>?_
 ·have hk:k<2^dH y.chairs:=by simp only at hc1;omega
  have hit:=KG hyo k;obtain⟨hlen,hbt⟩:=aEN hit;refine aQ<|Za2<|Za0<|iK [] 3 [0,1,2,3,5,4,6,7,8,9] [false,true,true,true,true,true,true,true,false,false] [(false,0),(true,1),(true,2),(true,3),(true,5),(true,4),(true,6),(true,7),(false,8),(false,9)] bB (fun _ _ _ h=>fM (P:=prog) (fn:=f61) _ _ _ h) Yg rfl<|Za rfl<|Zv rfl qD rfl U nW<|Zv rfl qD rfl U nW<|Za rfl<|Za rfl<|Zaa rfl (fun D3 hE=>bIL _ y k _ (O.up (hE _ Yf)) Yd Yd) fun v3 D3 hE hJ=>?_;have hz:=hJ;refine Zd rfl (fun D4 V=>aZD _ _ _ y _ _ _ (O.up (V _ Yf)) (hz.up RP.up (V _ Yf)) (hps.up bJF.up (V _ Yf)) hyo hlen hbt (bGP R hlen))<|Zt rfl U35 aI cO rfl (.cons rfl rfl .nil) fun hO D901 hK I=>?_;have hN:=Sl.ofInts (l:=[_]) (n:=1) (cap:=1) I rfl Yd Yd;refine aU (A:=[]) (B:=[]) rfl U35 rfl rfl aI cO rfl kD rfl rfl rfl ha (lD.lit I) Yf rfl Yf Yk (by have:=hcap;first|omega|(simp only[bNE,bPQ];omega)) (Or.inl rfl) rfl bRD fun v7 ν7 hH=>?_
  have R:bM 3 1 v7 (((List.range (k+1)).map (HF y))).length (ints (((List.range (k+1)).map (HF y)))) ν7:=by rw[bND,bME];rw[bAD hlen Yd]at hH;simpa [ints,HF]using hH
  refine Wt ?_;exact aL 19 (k+1,v7,ν7) ⟨Yn,R⟩ Yn ⟨Ya,Ya,bRD⟩ rfl rfl Mm5 fun D h=>⟨D,bMJ _ (bMJ _ (h)),Le.refl D⟩
 ·obtain rfl:k=2^dH y.chairs:=by simp only at hc1;omega
  simp only[bNE,bPQ]at ha;refine Za5<|Za1<|Za1<|Za6<|Zay<|aA<|Za rfl<|Zf rfl<|aG<|dU (A:=[]) (B:=[]) ha rfl fun D2 hB hF=>?_;exact aE rfl fun D' hD=>(hF.ints Yf (by have:=hcap;omega)).up RI.up (hD _ Yf)
theorem YI{x t:Int}(h:xO x t=true){m B:Nat}(hm:m<B):∃n,p1 x n=(t,m)∧n<(if x=2 then 2 else 1)*B:=by
 unfold xO at h;rw[bLQ,bN,bMU,LT,LT]at h;unfold p1;by_cases hx:x=2
 ·obtain⟨b,rfl⟩:=Int.eq_ofNat_of_zero_le h.1.1;refine⟨2*m+b,?_,by rw[bMG hx];omega⟩
  rw[bMG hx,bPO];exact⟨Yd,Yd⟩
 ·refine⟨m,?_,by rw[bLX hx];omega⟩;rw[bLX hx,bPO];exact⟨by rcases h.2 with h|h;exact absurd h hx;exact h.symm,rfl⟩
theorem bBF(p:Pt):2^YR p=(if p.a=2 then 2 else 1)*((if p.b=2 then 2 else 1)*(if p.c=2 then 2 else 1)):=by
 unfold YR Pt.l;by_cases ha:p.a=2<;>by_cases hb:p.b=2<;>by_cases hc:p.c=2<;>simp[ha,hb,hc]
theorem bFR{p t:Pt}(h:S4 p t=true){m B:Nat}(hm:m<B):∃n,p3 p n=(t,m)∧n<2^YR p*B:=by
 simp only[S4,Pt.l,bPM,List.zip_nil_left,bPS,List.all_nil,Bool.and_true,bLQ]at h;obtain⟨c,I,h1⟩:=YI h.2.2 hm;obtain⟨b,O,h2⟩:=YI h.2.1 h1;obtain⟨a,R,h3⟩:=YI h.1 h2;refine⟨a,?_,?_⟩
 ·unfold p3;rw[R,O,I]
 ·rw[bBF,Nat.mul_assoc,Nat.mul_assoc];exact h3
theorem LH:∀(l:List Ch) (t:List Pt),t.length=l.length→((l.zip t).all fun x=>S4 x.1.parts x.2)=true→∃n,n<2^dH l∧rP l n=t
 | [],[],_,_=>⟨0,by simp[dH],rfl⟩
 | [],_::_,h,_=>by simp at h
 |_::_,[],h,_=>by simp at h
 |c::l,p::t,h,ha=>by
  rw[bPM,bPS,bLQ]at ha;obtain⟨m,hm,e⟩:=LH l t Yax ha.2;obtain⟨n,I,hn⟩:=bFR ha.1 hm;refine⟨n,?_,?_⟩
  ·have:dH (c::l)=YR c.parts+dH l:=by simp[dH]
   rw[this,Nat.pow_add];exact hn
  ·rw[rP,I,e]
theorem aNV{y:bC}{t:List Pt}(h:eO y t=true):∃n,n<2^dH y.chairs∧(H1 y.chairs n).1=t:=by
 unfold eO at h;rw[bLQ,LT]at h;obtain⟨n,hn,e⟩:=LH _ _ h.1 h.2;exact⟨n,hn,by rw[aUN];exact e⟩
def HE(y:bC)(ms:List Int)(c:Nat):Bool:=ms.any fun m=>decide (jI (rT y.claims m) y.claims.length&&&c=c)
theorem aSL{y:bC}{ms:List Int}{c k:Nat}{x:Int}(h:ms[k]?= some x):HE y (ms.take (k+1)) c=(HE y (ms.take k) c||decide (jI (rT y.claims x) y.claims.length&&&c=c)):=by
 unfold HE;rw[bLW,h,bMR,bPJ];simp
theorem NI{y:bC}{ms:List Int}{c k:Nat}{x:Int}(h:ms[k]?= some x)(e:jI (rT y.claims x) y.claims.length&&&c=c):HE y ms c=true:=by
 unfold HE;rw[bQA];exact⟨x,n5 h,decide_eq_true e⟩
theorem bFZ(yv mv:Γ)(y:bC)(ms:List Int)(c:Nat)(D:aC)(hy:iR D yv y)(hm:Sl D RI 1 mv ms)(h5:y.claims.length≤5)(U:c<64):Fn prog 148 #[yv,mv,qI (c:Int)] D (fun _ v=>v=.bool (HE y ms c)):=by
 have I:=hy;obtain⟨cv,qv,rfl,hc,hq⟩:=hy;have hml:=hm.len;refine Zw 24 func148 rfl fun h0=>aA<|Zy rfl fun Z E1 V O=>Zf rfl<|bG<|Zf rfl<|aF<|Za0<|bK (γ:=Nat) (fun k=>ms.length-k) (fun k=>k≤ms.length∧HE y (ms.take k) c=false) (fun k=>[(7,qI (k:Int))]) [(6,_),(3,_),(1,_),(2,_)] (fun k=>[E1,D]) 0 ⟨Yd,rfl⟩ ⟨Ya,bRD⟩ bQ (aK) ?_;rintro k ⟨h1,h2⟩;refine bZ<|Za rfl<|Za rfl<|Zah rfl U35 rfl hm rfl<|Zam rfl<|aF<|Zaf rfl (fun hc1=>?_) fun hc1=>?_
 ·have hk:k<ms.length:=by omega
  obtain⟨x,hx⟩:=cR ms k;have hbl:=m3 (rT y.claims x) y.claims.length;have Y:2^y.claims.length≤2^5:=bNQ Yd h5;refine aQ<|Za2<|Za0<|Za2<|iK [] 5 [0,1,2,3,4,6,8,5,7,9] [false,true,true,true,true,true,true,true,true,false] [(false,0),(true,1),(true,2),(true,3),(true,4),(true,6),(true,8),(true,5),(true,7),(false,9)] bB (fun _ _ _ h=>fM (P:=prog) (fn:=f148) _ _ _ h) Yg rfl<|Zv rfl qD rfl O nW<|Za rfl<|Za rfl<|jA rfl hm rfl hx fun b1 o1=>Za rfl<|Za rfl<|Zd rfl (fun D1 R=>aSF _ y x _ (I.up (R _ Yf)) Yd) ?_;refine aUP rfl rfl rfl Yd Yd rfl bRD<|Zap rfl<|aF<|Zaf rfl (fun hc2=>?_) fun hc2=>?_
  ·refine aA<|Wh ?_;exact aE rfl fun D hD=>by show Value.bool _=_;rw[NI hx Yd]
  ·refine Wbs ?_;exact aL 18 (k+1) ⟨Yd,by rw[aSL hx,h2,decide_eq_false Yd];rfl⟩ Yd ⟨Ya,bRD⟩ rfl rfl Mm5 (aK)
 ·obtain rfl:k=ms.length:=by omega
  rw[bMP]at h2;refine Wk ?_;exact aE rfl fun D hD=>by show Value.bool _=_;rw[h2]
theorem VG{b c:Nat}:b&&&c=c ↔∀j,c.testBit j=true→b.testBit j=true:=by
 constructor
 ·intro h j hj;rw[←h,Nat.testBit_and,bLQ]at hj;exact hj.1
 ·intro h;apply Nat.eq_of_testBit_eq;intro j;rw[Nat.testBit_and];cases e:c.testBit j with
  |false=>simp
  |true=>rw[h j e];rfl
theorem aWF{y:bC}(h:aX y=0){c:Nat}:HE y (aBC y) c=true ↔∃t,eO y t=true∧∀j,c.testBit j=true→j<y.claims.length∧rT y.claims (N1 y t:Nat) j=true:=by
 have hyo:=bKN h;unfold HE;rw[bQA];constructor
 ·rintro⟨m,hm,he⟩;unfold aBC at hm;obtain⟨n,_,rfl⟩:=GE.1 hm;refine⟨_,KG hyo n,fun j hj=>?_⟩;have:=VG.1 (bMN he) j hj;rw[oF,bLQ,LT]at this;exact this
 ·rintro⟨t,ht,hr⟩;obtain⟨n,hn,rfl⟩:=aNV ht;refine⟨HF y n,GE.2 ⟨n,bNJ.2 hn,rfl⟩,decide_eq_true (VG.2 fun j hj=>?_)⟩;rw[oF,bLQ,LT];exact hr j hj
theorem MA{cl:List (Int×Int)}{out:List Int}{n:Int}:pB cl out n=true ↔∀j,j<cl.length→(∃x∈out,(j:Int)=x)∨rT cl n j=true:=by
 unfold pB;rw[bMK];have key:∀j,j<cl.length→(tI cl out n j=true ↔ (∃x∈out,(j:Int)=x)∨rT cl n j=true):=fun j hj=>by
  unfold tI rT;rw[bLR hj,bMU,bQA];simp
 exact⟨fun h j hj=>(key j hj).1 (h j (bNJ.2 hj)),fun h j hj=>(key j (bNJ.1 hj)).2 (h j (bNJ.1 hj))⟩
def pos(y:bC)(l:List Int):Bool:=decide (0<((dT y l).length:Int))
theorem QP{m j:Nat}:(∃x∈aEH m,(j:Int)=x) ↔ j<7∧m.testBit j=true:=by
 unfold aEH bEO;constructor
 ·rintro⟨x,hx,e⟩;obtain⟨i,hi,rfl⟩:=GE.1 hx;obtain rfl:j=i:=by omega
  rw[bOZ,bNJ]at hi;exact hi
 ·rintro⟨h1,h2⟩;exact⟨(j:Int),GE.2 ⟨j,bOZ.2 ⟨bNJ.2 h1,h2⟩,rfl⟩,rfl⟩
theorem bCV{y:bC}(h:aX y=0){b:Nat}:pos y (aEH b)=HE y (aBC y) (pR (2^y.claims.length-1) b):=by
 have h5:=(bKN h).cls;unfold pos;have bit:∀j,(pR (2^y.claims.length-1) b).testBit j=(decide (j<y.claims.length)&& !b.testBit j):=fun j=>by rw[Q4,Nat.testBit_two_pow_sub_one]
 rw[bOX,LT,YE,aWF h];constructor
 ·rintro⟨t,h1,h2⟩;refine⟨t,h1,fun j hj=>?_⟩;rw[bit,bLQ,LT,bOQ]at hj;refine⟨hj.1,?_⟩;rcases MA.1 h2 j hj.1 with h3|h3
  ·rw[(QP.1 h3).2]at hj;simp at hj
  ·exact h3
 ·rintro⟨t,h1,h2⟩;refine⟨t,h1,MA.2 fun j hj=>?_⟩;cases e:b.testBit j with
  |true=>exact bMF (QP.2 ⟨Yd,e⟩)
  |false=>exact bLY (h2 j (by rw[bit,e];simp[hj])).2
end L7
namespace L12
open C12 Go.Lib
theorem KE{step:Int}{p:Option Int}{n:Int}{l:List Int}:L2.mY step p (n::l)=(C2.lG step p n&&L2.mY step (some n) l):=by rw[L2.mY]
theorem A9{step:Int}:∀{rs:List (Int×Int)} {p:Option Int} {l:List Int},l∈C2.iF step rs p ↔ L2.aLT rs l∧L2.mY step p l=true
 | [],p,l=>by
  cases l with
  |nil=>simp[C2.iF,L2.aLT,L2.mY]
  |cons x l=>simp[C2.iF,L2.aLT]
 |r::rs,p,l=>by
  simp only[C2.iF,bPE,bNJ];constructor
  ·rintro⟨m,hm,h⟩;split at h
   ·rename_i hn;obtain⟨u,hu,rfl⟩:=GE.1 h;obtain⟨h1,h2⟩:=A9.1 hu;refine⟨⟨by unfold C2.fN at hm;omega,h1⟩,?_⟩
    rw[KE,hn,h2];rfl
   ·cases h
  ·cases l with
   |nil=>rintro⟨h,_⟩;exact h.elim
   |cons x l=>
    rintro⟨⟨h1,h2⟩,h3⟩;rw[KE,bLQ]at h3;have e:r.1+(((x-r.1).toNat:Nat):Int)=x:=by omega
    refine⟨(x-r.1).toNat,by unfold C2.fN;omega,?_⟩;rw[e,bMG h3.1];exact GE.2 ⟨l,A9.2 ⟨h2,h3.2⟩,rfl⟩
theorem aVM:∀{rs:List (Int×Int)} {l:List Int},L2.aLT rs l→∃n,n<L2.pM rs∧L2.rP rs n=l
 | [],[],_=>⟨0,Nat.zero_lt_one,rfl⟩
 |r::rs,x::l,h=>by
  obtain⟨n,hn,rfl⟩:=aVM h.2;have h1:=h.1;have hm:(x-r.1).toNat<L2.H2 r:=by unfold L2.H2;omega
  have I:((x-r.1).toNat+L2.H2 r*n)%L2.H2 r=(x-r.1).toNat:=by rw[Nat.add_mul_mod_self_left,Nat.mod_eq_of_lt hm]
  have O:((x-r.1).toNat+L2.H2 r*n) / L2.H2 r=n:=by rw[Nat.add_mul_div_left _ _ Yd,Nat.div_eq_of_lt hm,bOM]
  refine⟨(x-r.1).toNat+L2.H2 r*n,?_,?_⟩
  ·have:L2.H2 r*(n+1)≤L2.H2 r*L2.pM rs:=Nat.mul_le_mul_left _ hn;rw[L2.pM];rw[Nat.mul_add,bNY]at this;omega
  ·rw[L2.rP,I,O];congr 1;omega
section
variable{s:aO}(hk:lT s)(h:jN s)
include hk h
theorem jN.t3:L2.T3 s.table:=⟨hk.ht,h.hts,h.step,hk.mks,fun m hm=>by have:=h.mark m hm;omega⟩
theorem t8{l:List Int}:l∈L2.nU s.table ↔ l∈C2.eZ s.table:=by
 constructor
 ·intro hl;exact A9.2 (L2.KK (h.t3 hk) hl)
 ·intro hl;obtain⟨h1,h2⟩:=A9.1 hl;obtain⟨n,hn,rfl⟩:=aVM h1;exact bOZ.2 ⟨GE.2 ⟨n,bNJ.2 hn,rfl⟩,h2⟩
theorem FY{l:List Int}:l∈L2.OI s.table ↔ l∈C2.bL s.table:=by
 unfold L2.OI;rw[bOZ,t8 hk h];exact⟨fun⟨a,b⟩=>SQ a b,fun a=>⟨HS a,aIT a⟩⟩
end
theorem CO{α:Type}{a b:List α}(h:∀x,x∈a ↔ x∈b):a=[] ↔ b=[]:=by
 rw[List.eq_nil_iff_forall_not_mem,List.eq_nil_iff_forall_not_mem];exact forall_congr' fun x=>not_congr (h x)
def S0(l:C3.cB):Prop:=(1≤l.kind∧l.kind≤2)∧(0≤l.chair∧l.chair≤2)∧ -1≤l.token∧l.token≤2
theorem GL{l:C3.cB}(h:S0 l):(L3.xW 3 l 2).length=(C3.cK 3 l).length∧((C3.cK 3 l).length=1∨(C3.cK 3 l).length=3):=by
 obtain⟨k,c,t⟩:=l;obtain⟨h1,h2,h3⟩:=h;simp only at h1 h2 h3;have I:k=1∨k=2:=by omega
 have O:c=0∨c=1∨c=2:=by omega
 have R:t= -1∨t=0∨t=1∨t=2:=by omega
 rcases I with rfl|rfl<;>rcases O with rfl|rfl|rfl<;>rcases R with rfl|rfl|rfl|rfl<;>decide
theorem JF:∀(ls:List C3.cB) (a b:Int),(∀l∈ls,S0 l)→0≤a→(a=b∧a≤4096∨a=4097∧4097≤b∧b≤5000)→
  (4096<ls.foldl (fun m l=>min (m*((C3.cK 3 l).length:Int)) 4097) a ↔ 4096<ls.foldl (fun(m:Int) l=>min 5000 (m*((L3.xW 3 l 2).length:Int))) b)
 | [],a,b,_,_,h=>by simp only[List.foldl_nil];omega
 |l::ls,a,b,hl,h0,h=>by
  obtain⟨O,I⟩:=GL (hl l bLP);rw[bMO,bMO,O];refine JF ls _ _ (fun x hx=>hl x (LE _ hx)) ?_ ?_
  ·rcases I with e|e<;>rw[e]<;>omega
  ·rcases I with e|e<;>rw[e]<;>omega
theorem FX{ls:List C3.cB}(h:∀l∈ls,S0 l):4096<C3.tE 3 ls ↔ 4096<L3.oE 3 ls:=JF ls 1 1 h Yu Yd
theorem SI{y:C7.bC}(h:C7.aX y=0):L7.HE y (L7.aBC y) (2^y.claims.length-1)=decide (L7.dT y []≠[]):=by
 have h1:=L7.bCV h (b:=0);have I:L7.aEH 0=[]:=by decide
 have O:pR (2^y.claims.length-1) 0=2^y.claims.length-1:=by
  apply Nat.eq_of_testBit_eq;intro j;rw[Q4];simp
 rw[I,O]at h1;rw[←h1,L7.pos];cases L7.dT y []<;>simp
abbrev aFW:XB:=⟨52,261,139,263,184,267,146⟩
section
variable{α:Type}{x y:α}{a b c:List α}
theorem bAZ:x::a=[x]++a++[]:=by simp
theorem bBK:x::(a++b)=[x]++a++b:=rfl
theorem aIF:x::(a++b)=([x]++a)++b++[]:=by simp
theorem bJT:x::(a++(b++c))=([x]++a)++b++c:=by simp
theorem bKP:x::(a++(b++c))=([x]++a++b)++c++[]:=by simp
theorem bKX:x::((a++b)++c)=(x::a)++(b++c):=by simp
theorem bd2:x::(a++(b++[y]))=([x]++(a++b))++y::[]:=by simp
theorem bd3:([x]++(a++b))++c++[]=x::(a++(b++c)):=by simp
theorem bLN:([x]++a)++b++[]=x::(a++b):=by simp
theorem bd0:[x]++a++[]=x::a:=by simp
end
section
variable{P:Program}{X:Cx}{γb:Type}[Membership Nat γb]{bad:γb}{all:Array Oper}{K:Act→Δ→Prop}{Q:Exit→Act→Δ→Prop}
variable{σ:bX}{Ds:List aC}{os:List (Bool×Nat)}{fl:Bool}{ix d:Nat}{x y:Operand}{pos:String}{aft:Array Edge}{g:Option (Nat×Bool)}
theorem OO{α:Type}{f:α→List Γ}{n:Nat}(A B:aD)(hf:aMP f n){t e tr:Θ}{xs:List α}{b i o cap c2:Nat}{junk:List Γ}{ats:Array Θ}
  (ho:all[ix]?= some ⟨some d,.call {callee:=.builtin .append,args:=#[x,y],argTypes:=ats},tr,pos,aft,g⟩) (ht:P.underlying t=some (.slice e)) (hat:ats[0]?= some t) (I:ats[1]?= some t) (hs:TS P e n)
  (hx:ev σ x=some (qS b i cap)) (hy:ev σ y=some (.slice (some ⟨b,o,none⟩) (xs.length-(i+1)) c2)) (hi:i<xs.length) (hcap:xs.length≤cap) (hO:i+1<cap→o=(i+1)*n) (hl1:(xs.flatMap f).length=xs.length*n) (O:(xs.flatMap f++junk).length=cap*n)
  (hfl:fl=false∨b∈bad) (hg:cZ all σ g) (kk:∀v' ν',bM e n v' (xs.eraseIdx i).length ((xs.eraseIdx i).flatMap f) ν'→WL P X bad all K Q os ((d,v')::σ) (A++ν'++B) Ds) (hN:Nat.blt d X.N=true:=by rfl):WL P X bad all K Q ((fl,ix)::os) σ (A++(b,qC (xs.flatMap f++junk) e)::B) Ds:=by
 refine vJ (A:=A) (B:=B) (sz:=n) (xs:=(xs.drop (i+1)).flatMap f) ho ht hat I hs hx hy (j1 hf.1 hi hcap hO O) (B8 hf.1) Yd Yaf (dJ hf.2 _) hfl hN hg ?_;rw[show i+(xs.length-(i+1))=xs.length-1 by omega,yC hf.1 hi];refine Zab (A++[(b,_)]++B) (by simp only[bMC,bPI];rfl) (kk _ _ ?_)
 rw[bQY hi];exact bLY ⟨b,cap,_,rfl,Yd,rfl,by rw[dI hf.1,bQY hi],Q5 hf.1 hi hl1 O hcap⟩
end
def G6(w:Λ)(ns:List Int)(act:eJ):Prop:=kU.find? (fun x=>x.1==w.data.toList)=some (w.data.toList,ns.length,act)
theorem jO{w:Λ}{ns:List Int}{act act2:eJ}{I:List UInt8}{k2:Nat}(h:G6 w ns act)(h2:kU.find? (fun x=>x.1==w.data.toList)=some (I,k2,act2)):ns.length=k2∧act=act2:=by
 have h3:=bMQ (h.symm.trans h2);simp only[bPO]at h3;exact h3.2
def bT(G:List Λ)(w:Λ)(act:eJ)(s:aO)(ns:List Int)(e:Int)(s':aO):Prop:=(e= -1∧s'=s∧w∉G)∨(e=0∧act s ns=.ok s')∨(0<e∧act s ns=.error e)
theorem bT.err{G:List Λ}{w:Λ}{act:eJ}{s s':aO}{ns:List Int}{e:Int}(h:act s ns=.error e)(he:0<e:=by decide):bT G w act s ns e s':=bLY (bLY ⟨he,h⟩)
theorem bT.ok{G:List Λ}{w:Λ}{act:eJ}{s s':aO}{ns:List Int}(h:act s ns=.ok s'):bT G w act s ns 0 s':=bLY (bMF ⟨rfl,h⟩)
theorem aAU(sv:Γ)(s:aO)(D:aC)(hs:iD D sv s)(hsm:O2 s):KH prog 77 #[sv] D (fun D' v ν=>∃(cs:List Γ) (ν' νz:aD),v=.agg cs.toArray∧ν=ν'++νz∧cs.length=17∧(∀u∈cs,cell1 u=true)∧∀q,pS aFW D' q s ((q,qC cs 52)::ν')):=by
 obtain⟨pv,cv,hv,lv,mv,bl,bc,yc,yq,rfl,hL⟩:=hs;unfold dR;refine qR 52 func77 rfl rfl rfl rfl fun h0=>?_;refine aA ?_;refine FS rfl (e:=52) rfl rfl rfl bRD fun q1=>?_;refine Zad rfl J7 rfl fun q2=>?_;refine bW ?_;refine iK [] 2 [0,1,2,4,5,6,3,8,9,7,10,11,12,13] [false,false,false,true,true,true,true,false,false,true,false,false,false,false] [(false,0),(false,1),(false,2),(true,4),(true,5),(true,6),(true,3),(false,8),(false,9),(true,7),(false,10),(false,11),(false,12),(false,13)] bB (fun _ _ _ h=>fM (P:=prog) (fn:=f77) _ _ _ h) Yg rfl ?_;refine Zj rfl qW rfl ?_;refine Zj rfl iW rfl ?_;refine Zo rfl cF rfl Mm1 rfl ?_;refine Zj rfl qW rfl ?_;refine Zj rfl jX rfl ?_;refine Zo rfl xR rfl Mm1 rfl ?_;refine aU (A:=[]) (ν:=[]) (B:=_) rfl U35 rfl rfl aI cO rfl kD rfl rfl rfl bM.nil (lD.of (cells:=cI) (fun _ _ _ h=>h) (fun _=>rfl) hL.pl) Yf (dI (n:=1) (fun _=>rfl) s.row.places) rfl (dJ Y8 s.row.places) (by have:=hsm.pl;omega) Yar rfl bRD fun I ν1 hx1=>?_
 have U:bM 3 1 I s.row.places.length (s.row.places.flatMap cI) ν1:=by simpa using hx1
 refine aY (ν1++_) Ya8 ?_;refine Zj rfl qW rfl ?_;refine Zj rfl iW rfl ?_;refine aU (A:=[]) (ν:=[]) (B:=_) rfl U36 rfl rfl sH C8 rfl OK rfl rfl rfl bM.nil (lD.of (cells:=cC) (fun _ _ _ h=>h) (fun _=>rfl) hL.ct) Yf (dI (n:=3) (fun _=>rfl) s.row.counts) rfl (dJ j2 s.row.counts) (by have:=hsm.ct;omega) Yar rfl bRD fun O ν2 hx2=>?_
 have V:bM 261 3 O s.row.counts.length (s.row.counts.flatMap cC) ν2:=by simpa using hx2
 refine aY (ν2++_) Ya8 ?_;refine Zab ((ν2++ν1)++(q2,_)::(q1,_)::[]) ((bMC _ _ _).symm) ?_;refine Zs (dR s I cv hv lv mv bl bc yc yq) rfl U.cells1 fK (.app (.tail .head)) rfl U.cell1 ?_;refine Zj rfl qW rfl ?_;refine Zj rfl jX rfl ?_;refine Zs (dR s I O hv lv mv bl bc yc yq) rfl V.cells1 FK (.app (.tail .head)) rfl V.cell1 ?_;refine bW ?_;refine iK [] 2 [0,1,2,4,5,6,8,9,10,3,12,13,7,11,14,15,16,17,18,19,20] [false,false,false,true,true,true,true,true,true,true,false,false,true,true,false,false,false,false,false,false,false] [(false,0),(false,1),(false,2),(true,4),(true,5),(true,6),(true,8),(true,9),(true,10),(true,3),(false,12),(false,13),(true,7),(true,11),(false,14),(false,15),(false,16),(false,17),(false,18),(false,19),(false,20)] bB (fun _ _ _ h=>fM (P:=prog) (fn:=f77) _ _ _ h) Yg rfl ?_;refine Zj rfl oD rfl ?_;refine Zj rfl mO rfl ?_;refine Zo rfl xQ rfl (GT _ Mm1) rfl ?_;refine Zj rfl oD rfl ?_;refine Zj rfl vB rfl ?_;refine Zo rfl cF rfl (GT _ Mm1) rfl ?_;refine Zj rfl oD rfl ?_;refine Zj rfl mT rfl ?_;refine Zo rfl M6 rfl (GT _ Mm1) rfl ?_;refine aU (A:=[]) (ν:=[]) (B:=_) rfl U39 rfl rfl mK tM rfl bBO rfl rfl rfl bM.nil (lD.of (cells:=cP) (fun _ _ _ h=>h) (fun _=>rfl) hL.ht) Yf (dI (n:=2) (fun _=>rfl) s.table.heights) rfl (dJ yD s.table.heights) (by have:=hsm.ht;omega) Yar rfl bRD fun R ν3 hJ=>?_
 have Y:bM 139 2 R s.table.heights.length (s.table.heights.flatMap cP) ν3:=by simpa using hJ
 refine aY (ν3++_) Ya8 ?_;refine Zj rfl oD rfl ?_;refine Zj rfl mO rfl ?_;refine aU (A:=[]) (ν:=[]) (B:=_) rfl U35 rfl rfl aI cO rfl kD rfl rfl rfl bM.nil (lD.of (cells:=cI) (fun _ _ _ h=>h) (fun _=>rfl) hL.lev) Yf (dI (n:=1) (fun _=>rfl) s.table.levels) rfl (dJ Y8 s.table.levels) (by have:=hsm.lev;omega) Yar rfl bRD fun Z ν4 hK=>?_
 have hB:bM 3 1 Z s.table.levels.length (s.table.levels.flatMap cI) ν4:=by simpa using hK
 refine aY (ν4++_) Ya8 ?_;refine aU (A:=[]) (ν:=[]) (B:=_) rfl U40 rfl rfl wM CN rfl aCT rfl rfl rfl bM.nil (lD.of (cells:=cM) (fun _ _ _ h=>h) (fun _=>rfl) hL.mks) Yf (dI (n:=4) (fun _=>rfl) s.table.marks) rfl (dJ k9 s.table.marks) (by have:=hsm.mks;omega) Yar rfl bRD fun w5 ν5 hN=>?_
 have hE:bM 263 4 w5 s.table.marks.length (s.table.marks.flatMap cM) ν5:=by simpa using hN
 refine aY (ν5++_) Ya8 ?_;refine Zab ((ν5++(ν4++(ν3++(ν2++ν1))))++(q2,_)::(q1,_)::[]) (bKM _ _ _ _ _) ?_;refine Zs (dR s I O R lv mv bl bc yc yq) rfl Y.cells1 aTH (.app (.tail .head)) rfl Y.cell1 ?_;refine Zj rfl oD rfl ?_;refine Zj rfl vB rfl ?_;refine Zs (dR s I O R Z mv bl bc yc yq) rfl hB.cells1 fK (.app (.tail .head)) rfl hB.cell1 ?_;refine Zj rfl oD rfl ?_;refine Zj rfl mT rfl ?_;refine Zs (dR s I O R Z w5 bl bc yc yq) rfl hE.cells1 NE (.app (.tail .head)) rfl hE.cell1 ?_;refine aJ ?_;refine Zj rfl sU rfl ?_;refine Zj rfl gF rfl ?_;refine Zo rfl nB rfl (GT _ Mm1) rfl ?_;refine aU (A:=[]) (ν:=[]) (B:=_) rfl U43 rfl rfl eQ nP rfl a7 rfl rfl rfl bM.nil (lD.of (cells:=cL) (fun _ _ _ h=>h) (fun _=>rfl) hL.ln) Yf (dI (n:=3) (fun _=>rfl) s.book.lines) rfl (dJ j9 s.book.lines) (by have:=hsm.ln;omega) Yar rfl bRD fun w6 ν6 hO=>?_
 have hF:bM 184 3 w6 s.book.lines.length (s.book.lines.flatMap cL) ν6:=by simpa using hO
 refine aY (ν6++_) Ya8 ?_;refine Zj rfl sU rfl ?_;refine Zj rfl gF rfl ?_;refine Zab ((ν6++(ν5++(ν4++(ν3++(ν2++ν1)))))++(q2,_)::(q1,_)::[]) ((bMC _ _ _).symm) ?_;refine Zs (dR s I O R Z w5 w6 bc yc yq) rfl hF.cells1 I3 (.app (.tail .head)) rfl hF.cell1 ?_;refine bW ?_;refine iK [] 2 [0,1,2,4,5,6,3,8,9,7,10,11,12,13] [false,false,false,true,true,true,true,false,false,true,false,false,false,false] [(false,0),(false,1),(false,2),(true,4),(true,5),(true,6),(true,3),(false,8),(false,9),(true,7),(false,10),(false,11),(false,12),(false,13)] bB (fun _ _ _ h=>fM (P:=prog) (fn:=f77) _ _ _ h) Yg rfl ?_;refine Zj rfl oN rfl ?_;refine Zj rfl iJ rfl ?_;refine Zo rfl pD rfl (GT _ Mm1) rfl ?_;refine Zj rfl oN rfl ?_;refine Zj rfl kT rfl ?_;refine Zo rfl xS rfl (GT _ Mm1) rfl ?_;refine aU (A:=[]) (ν:=[]) (B:=_) rfl U47 rfl rfl sG DK rfl aFL rfl rfl rfl bM.nil (lD.of (cells:=cH) (fun _ _ _ h=>h) (fun _=>rfl) hL.ch) Yf (dI (n:=4) (fun _=>rfl) s.yard.chairs) rfl (dJ EY s.yard.chairs) (by have:=hsm.ch;omega) Yar rfl bRD fun w7 ν7 hP=>?_
 have hH:bM 267 4 w7 s.yard.chairs.length (s.yard.chairs.flatMap cH) ν7:=by simpa using hP
 refine aY (ν7++_) Ya8 ?_;refine Zj rfl oN rfl ?_;refine Zj rfl iJ rfl ?_;refine aU (A:=[]) (ν:=[]) (B:=_) rfl U48 rfl rfl xE CP rfl aEE rfl rfl rfl bM.nil (lD.of (cells:=cP) (fun _ _ _ h=>h) (fun _=>rfl) hL.cl) Yf (dI (n:=2) (fun _=>rfl) s.yard.claims) rfl (dJ yD s.yard.claims) (by have:=hsm.cl;omega) Yar rfl bRD fun w8 ν8 hR=>?_
 have hI:bM 146 2 w8 s.yard.claims.length (s.yard.claims.flatMap cP) ν8:=by simpa using hR
 refine aY (ν8++_) Ya8 ?_;refine Zab ((ν8++(ν7++(ν6++(ν5++(ν4++(ν3++(ν2++ν1)))))))++(q2,_)::(q1,_)::[]) (bJY _ _ _ _) ?_;refine Zs (dR s I O R Z w5 w6 bc w7 yq) rfl hH.cells1 XJ (.app (.tail .head)) rfl hH.cell1 ?_;refine Zj rfl oN rfl ?_;refine Zj rfl kT rfl ?_;refine Zs (dR s I O R Z w5 w6 bc w7 w8) rfl hI.cells1 PU (.app (.tail .head)) rfl hI.cell1 ?_;refine bW ?_;have hcc:∀u∈dR s I O R Z w5 w6 bc w7 w8,cell1 u=true:=by
  simp[dR,cell1];exact⟨U.cell1 _ Yf,V.cell1 _ Yf,Y.cell1 _ Yf,hB.cell1 _ Yf,hE.cell1 _ Yf,hF.cell1 _ Yf,oM hL.cn,hH.cell1 _ Yf,hI.cell1 _ Yf⟩
 refine aP ?_;refine Zac rfl mZ rfl (GT _ Mm1) gV ?_;refine bE rfl rfl rfl rfl gV Yb Yb (.app ζ) hcc bRD ?_;refine aG ?_;exact Zq [_] rfl ⟨⟨_,_,_,rfl,(GT _ Mm0),bLY ⟨mZ,gV,rfl⟩⟩,bRD⟩ fun D hD=>⟨dR s I O R Z w5 w6 bc w7 w8,_,_,rfl,rfl,rfl,hcc,fun q=>⟨I,O,R,Z,w5,w6,bc,w7,w8,ν1,ν2,ν3,ν4,ν5,ν6,ν7,ν8,rfl,U,V,Y,hB,hE,hF,hL.cn.up vY.up (hD _ Yf),hH,hI⟩⟩
theorem V5(a b n:Int)(D:aC):Fn prog 146 #[qI a,qI b,qI n] D (fun _ v=>v=.bool (decide (a≤b)&&decide (b≤n))):=by
 refine Zw 15 func146 rfl fun h0=>Wab ?_;refine' bU 4 (s:=10) (p:=14) rfl (fun I=>?_) (fun I=>?_) ?_;rotate_left
 ·refine Wbe ?_;exact aN 3
 ·refine Wb ?_;exact aN 3
 refine We ?_;exact aE rfl fun D hD=>rfl
def tO:List Λ:=[⟨#[112,108,97,99,101]⟩,⟨#[115,101,101,110]⟩,⟨#[99,111,117,110,116]⟩,⟨#[98,97,99,107]⟩,⟨#[117,110,99,111,117,110,116]⟩,⟨#[119,114,111,110,103]⟩,⟨#[111,102,102]⟩]
theorem aAM(wb:Nat)(s:aO)(pv cv hv lv mv bl bc yc yq nv:Γ)(w:Λ)(ns:List Int)(act:eJ)(ν1 ν2:aD)(D:aC)(hn:Sl D RI 1 nv ns)(hact:G6 w ns act)(hr:∀x∈ns,0≤x∧x≤999)(hk:lT s)(_hg:jN s)(h1:bM 3 1 pv s.row.places.length (s.row.places.flatMap cI) ν1)(h2:bM 261 3 cv s.row.counts.length (s.row.counts.flatMap cC) ν2):kF prog 78 [qP wb,.string w,nv] D ((wb,qC (dR s pv cv hv lv mv bl bc yc yq) 52)::(ν1++ν2)) (fun _ v ν'=>∃(e:Int) (r:C1.dO),v=qI e∧bT tO w act s ns e (mA s r)∧∃pv' cv' ν1' ν2',ν'=(wb,qC (dR (mA s r) pv' cv' hv lv mv bl bc yc yq) 52)::(ν1'++ν2')∧bM 3 1 pv' r.places.length (r.places.flatMap cI) ν1'∧bM 261 3 cv' r.counts.length (r.counts.flatMap cC) ν2') (fun _=>False):=by
 have k1:=hk.pl;have k2:=hk.ct;refine eK 149 func78 rfl rfl rfl rfl fun h0 hwl hwn=>aA<|Zf rfl<|bG<|Za rfl<|aF<|Za0<|aA<|Zav rfl<|Zf rfl<|aF<|Zag rfl (fun hc1=>?_) fun hc1=>?_
 ·obtain rfl:=bMN hc1;obtain⟨hl,rfl⟩:=jO (k2:=0) (act2:=zY) hact rfl;obtain rfl:ns=[]:=bOL hl;refine bZ<|Za rfl<|Zal rfl<|Zj rfl iW rfl<|Zo rfl cF rfl Mm0 rfl<|cG rfl U35 rfl h1 rfl rfl bRD<|Zap rfl<|aF<|Zag rfl (fun hc2=>?_) (fun hc2=>?_)
  ·have hR:=hc2;simp only[LT]at hR;refine Wg ?_;exact bJ rfl fun D' hD=>⟨3,s.row,rfl,bT.err Xbu,pv,cv,ν1,ν2,rfl,h1,h2⟩
  ·have hR:=hc2;simp only[bLV]at hR;refine aQ<|aP<|Za rfl<|Za rfl<|Zal rfl<|Zj rfl iW rfl<|Zo rfl cF rfl Mm0 rfl<|Zt rfl U35 aI cO rfl (.cons rfl rfl .nil) fun b901 D901 hD901 I=>?_;have hS901:=Sl.ofInts (l:=[_]) (n:=1) (cap:=1) I rfl Yd Yd;refine Zab ([(wb,_)]++ν1++ν2) bBK<|xP [(wb,_)] ν2 aMJ 2 rfl U35 rfl rfl aI cO rfl kD rfl rfl rfl h1 I Yd Yq bRD fun O νx hx=>Zab ((wb,_)::(νx++ν2)) bBK.symm<|Zal rfl<|Zj rfl iW rfl<|Zs (dR s O cv hv lv mv bl bc yc yq) rfl hx.cells1 fK .head rfl hx.cell1<|Zan<|Wz ?_;exact bJ rfl fun D' hD=>⟨0,{s.row with places:=s.row.places++[2]},rfl,bT.ok Xbu,O,cv,νx,ν2,rfl,hx,h2⟩
 ·refine aA<|Zav rfl<|Zf rfl<|aF<|Zag rfl (fun hc3=>?_) (fun hc3=>?_)
  ·obtain rfl:=bMN hc3;obtain⟨hl,rfl⟩:=jO (k2:=2) (act2:=Y1) hact rfl;obtain⟨a,b,rfl⟩:=Y3 hl;obtain⟨bt,ot,ct,rfl⟩:=dF hn Yf;have hbt:=eS hn;have R:=hr a Yf;have hb9:=hr b Yf;refine Za2<|Za2<|aV [] 5 9 248<|Za rfl<|aS rfl hn<|Za rfl<|Zal rfl<|Zj rfl iW rfl<|Zo rfl cF rfl Mm0 rfl<|cG rfl U35 rfl h1 rfl rfl bRD<|Wav ?_;refine Zag rfl (fun hS=>?_) (fun hS=>?_)
   ·have hX:=hS;simp only[LT]at hX;refine Wg ?_;exact bJ rfl fun D' hD=>⟨7,s.row,rfl,bT.err Ya6,pv,cv,ν1,ν2,rfl,h1,h2⟩
   ·have hX:=hS;simp only[bLV]at hX;refine aQ<|bZ<|Za rfl<|aS rfl hn<|Zaq rfl<|aF<|Zag rfl (fun hY=>?_) (fun hY=>?_)
    ·have rA:=hY;simp only[LT]at rA;refine Wg ?_;exact bJ rfl fun D' hD=>⟨2,s.row,rfl,bT.err Ya6,pv,cv,ν1,ν2,rfl,h1,h2⟩
    ·have rA:=hY;simp only[bLV]at rA;refine aQ ?_;obtain⟨bx,cap,junk,rfl,hcap,rfl,hl1,rB⟩:=h1.some Yd;refine aV [] 3 12 1008<|Za rfl<|Zal rfl<|Zj rfl iW rfl<|Zo rfl cF rfl Mm0 rfl<|Za rfl<|aS rfl hn<|Za rfl<|aS rfl hn<|eP rfl U35 aI rfl rfl Yd Yd rfl bRD<|Wby ?_;refine Wz ?_;exact bJ rfl fun D' hD=>⟨0,{s.row with places:=s.row.places.set a.toNat b},rfl,bT.ok Ya6,_,cv,[(bx,_)],ν2,rfl,sI aMJ bPR hcap hl1 rB,h2⟩
  ·refine bZ<|Zav rfl<|Zf rfl<|aF<|Zag rfl (fun hP=>?_) (fun hP=>?_)
   ·obtain rfl:=bMN hP;obtain⟨hl,rfl⟩:=jO (k2:=2) (act2:=pJ false) hact rfl;obtain⟨a,b,rfl⟩:=Y3 hl;obtain⟨bt,ot,ct,rfl⟩:=dF hn Yf;have hbt:=eS hn;have R:=hr a Yf;have hb9:=hr b Yf;refine aQ<|jC rfl hP<|Za2<|Za2<|aV [] 7 15 248<|Za rfl<|aS rfl hn<|Za rfl<|Zal rfl<|Zj rfl iW rfl<|Zo rfl cF rfl Mm0 rfl<|cG rfl U35 rfl h1 rfl rfl bRD ?_;refine Wap ?_;refine' dQ 5 (s:=63) (p:=68) rfl (fun hg1=>?_) (fun hg1=>?_) ?_;rotate_left
    ·refine Zb rfl<|iS rfl U35 aI rfl hn rfl Yd rfl rfl ⟨_,rfl,rfl⟩ fun cs6 hr6 hcl6 hA6=>?_;obtain rfl:cs6=[qI _]:=hr6;refine Zi 0 rfl aH rfl hA6 rfl<|Wy ?_;exact aN 4
    ·refine Wf ?_;exact aN 4
    refine aF<|Zag rfl (fun hc7=>?_) fun hc7=>?_
    ·have hz7:=hc7;simp only[bMU,LT]at hz7;refine Wg ?_;exact bJ rfl fun D' hD=>⟨2,s.row,rfl,bT.err Yan,pv,cv,ν1,ν2,rfl,h1,h2⟩
    ·have hz7:=hc7;simp only[bNG,bLV]at hz7;refine aQ<|bZ<|Za rfl<|Zal rfl<|Zj rfl jX rfl<|Zo rfl xR rfl Mm0 rfl<|cG rfl U36 rfl h2 rfl rfl bRD<|Zap rfl<|aF<|Zag rfl (fun hc8=>?_) (fun hc8=>?_)
     ·have hz8:=hc8;simp only[LT]at hz8;refine Wg ?_;exact bJ rfl fun D' hD=>⟨3,s.row,rfl,bT.err Yan,pv,cv,ν1,ν2,rfl,h1,h2⟩
     ·have hz8:=hc8;simp only[bLV]at hz8;refine aQ<|fD hbt Yf fun hap=>pW fun hnd=>?_;have hnu:=fE hap hnd;have hwbo:wb∉dC.mk [bt,wb]:=dC.out Yf;have hbto:bt∉dC.mk [bt,wb]:=dC.out Yf;refine Wbm ?_;rw[show decide ((⟨#[99,111,117,110,116]⟩:Λ)=⟨#[98,97,99,107]⟩)=false by decide];refine Za rfl<|aS rfl hn<|Za rfl<|aS rfl hn<|Zu [.bool false,qI a,qI b] rfl aFJ C8 rfl<|Zt rfl U36 sH C8 rfl (.cons rfl rfl .nil) fun b902 D902 hD902 hA902=>Zab (([(wb,_)]++ν1)++ν2++[]) aIF<|xP ([(wb,_)]++ν1) [] bKS (⟨false,a,b⟩:C1.xX) rfl U36 rfl rfl sH C8 rfl OK rfl rfl rfl h2 hA902 Yd Yq bRD fun O νx hx=>Wbb ?_;refine Zan<|Wz ?_;exact bJ rfl fun D' hD=>⟨0,{s.row with counts:=s.row.counts++[(⟨false,a,b⟩:C1.xX)]},rfl,bT.ok Yan,pv,O,ν1,νx,rfl,h1,hx⟩
   ·refine aP<|Zav rfl<|Zf rfl<|aF<|Zag rfl (fun hc9=>?_) (fun hc9=>?_)
    ·obtain rfl:=bMN hc9;obtain⟨hl,rfl⟩:=jO (k2:=2) (act2:=pJ true) hact rfl;obtain⟨a,b,rfl⟩:=Y3 hl;obtain⟨bt,ot,ct,rfl⟩:=dF hn Yf;have hbt:=eS hn;have R:=hr a Yf;have hb9:=hr b Yf;refine Za2<|Za2<|aV [] 7 15 248<|Za rfl<|aS rfl hn<|Za rfl<|Zal rfl<|Zj rfl iW rfl<|Zo rfl cF rfl Mm0 rfl<|cG rfl U35 rfl h1 rfl rfl bRD<|Wap ?_;refine' dQ 5 (s:=63) (p:=68) rfl (fun hg2=>?_) (fun hg2=>?_) ?_;rotate_left
     ·refine Zb rfl<|iS rfl U35 aI rfl hn rfl Yd rfl rfl ⟨_,rfl,rfl⟩ fun cs10 hr10 hcl10 hA10=>?_;obtain rfl:cs10=[qI _]:=hr10;refine Zi 0 rfl aH rfl hA10 rfl<|Wy ?_;exact aN 4
     ·refine Wf ?_;exact aN 4
     refine aF<|Zag rfl (fun U=>?_) fun U=>?_
     ·have V:=U;simp only[bMU,LT]at V;refine Wg ?_;exact bJ rfl fun D' hD=>⟨2,s.row,rfl,bT.err Yan,pv,cv,ν1,ν2,rfl,h1,h2⟩
     ·have V:=U;simp only[bNG,bLV]at V;refine aQ<|bZ<|Za rfl<|Zal rfl<|Zj rfl jX rfl<|Zo rfl xR rfl Mm0 rfl<|cG rfl U36 rfl h2 rfl rfl bRD<|Zap rfl<|aF<|Zag rfl (fun Y=>?_) (fun Y=>?_)
      ·have Z:=Y;simp only[LT]at Z;refine Wg ?_;exact bJ rfl fun D' hD=>⟨3,s.row,rfl,bT.err Yan,pv,cv,ν1,ν2,rfl,h1,h2⟩
      ·have Z:=Y;simp only[bLV]at Z;refine aQ<|fD hbt Yf fun hap=>pW fun hnd=>?_;have hnu:=fE hap hnd;have hwbo:wb∉dC.mk [bt,wb]:=dC.out Yf;have hbto:bt∉dC.mk [bt,wb]:=dC.out Yf;refine Wbm ?_;rw[show decide ((⟨#[98,97,99,107]⟩:Λ)=⟨#[98,97,99,107]⟩)=true by decide];refine Za rfl<|aS rfl hn<|Za rfl<|aS rfl hn<|Zu [.bool true,qI a,qI b] rfl aFJ C8 rfl<|Zt rfl U36 sH C8 rfl (.cons rfl rfl .nil) fun b903 D903 hD903 hA903=>Zab (([(wb,_)]++ν1)++ν2++[]) aIF<|xP ([(wb,_)]++ν1) [] bKS (⟨true,a,b⟩:C1.xX) rfl U36 rfl rfl sH C8 rfl OK rfl rfl rfl h2 hA903 Yd Yq bRD fun O νx hx=>Wbb ?_;refine Zan<|Wz ?_;exact bJ rfl fun D' hD=>⟨0,{s.row with counts:=s.row.counts++[(⟨true,a,b⟩:C1.xX)]},rfl,bT.ok Yan,pv,O,ν1,νx,rfl,h1,hx⟩
    ·refine aA<|Zav rfl<|Zf rfl<|aF<|Zag rfl (fun hB=>?_) (fun hB=>?_)
     ·obtain rfl:=bMN hB;obtain⟨hl,rfl⟩:=jO (k2:=1) (act2:=qY) hact rfl;obtain⟨a,rfl⟩:=zF hl;obtain⟨bt,ot,ct,rfl⟩:=dF hn Yf;have hbt:=eS hn;have R:=hr a Yf;refine Za2<|Za2<|aV [] 5 9 248<|Za rfl<|aS rfl hn<|Za rfl<|Zal rfl<|Zj rfl jX rfl<|Zo rfl xR rfl Mm0 rfl<|cG rfl U36 rfl h2 rfl rfl bRD<|Wav ?_;refine Zag rfl (fun hE=>?_) (fun hE=>?_)
      ·have hF:=hE;simp only[LT]at hF;refine Wg ?_;exact bJ rfl fun D' hD=>⟨7,s.row,rfl,bT.err Xcm,pv,cv,ν1,ν2,rfl,h1,h2⟩
      ·have hF:=hE;simp only[bLV]at hF;refine aQ ?_;obtain⟨i,rfl⟩:∃i:Nat,a=(i:Int):=⟨a.toNat,Yd⟩
       have hi:i<s.row.counts.length:=by omega
       obtain⟨bx,cap,junk,rfl,hcap,rfl,hl1,rB⟩:=h2.some Yd;refine fD hbt Yf fun hap=>pW fun hnd=>?_;have hnu:=fE hap hnd;have hwbo:wb∉dC.mk [bt,wb]:=dC.out Yf;have hbto:bt∉dC.mk [bt,wb]:=dC.out Yf;have hbx:bx∈dC.mk [bt,wb]:=dC.in_ (hnu (bx,_) (GT _ bLP));refine aV (dC.mk [bt,wb]) 2 22 524286<|Za rfl<|Za rfl<|Zal rfl<|Zj rfl jX rfl<|bD rfl xR rfl Mm0 rfl Ym rfl bRD<|Za rfl<|aS rfl hn<|AY (i:=i) rfl U36 sH rfl rfl Yd rfl bRD<|Za rfl<|Zal rfl<|Zj rfl jX rfl ?_;refine bD rfl xR rfl Mm0 rfl Ym rfl bRD<|Za rfl<|aS rfl hn<|Zae rfl<|BU (j:=i+1) rfl U36 sH rfl rfl Yd rfl bRD fun o ho=>aY (([(wb,_)]++ν1)++(bx,_)::[]) rfl<|OO ([(wb,_)]++ν1) [] bKS rfl U36 rfl rfl sH rfl rfl hi hcap ho hl1 rB Ybc bRD fun O νx hx=>Zab ((wb,_)::(ν1++νx)) bLN<|Zal rfl<|Zj rfl jX rfl<|Zs (dR s pv O hv lv mv bl bc yc yq) rfl hx.cells1 FK .head rfl hx.cell1<|Zan ?_;refine Wz ?_;exact bJ rfl fun D' hD=>⟨0,{s.row with counts:=s.row.counts.eraseIdx i},rfl,bT.ok (by unfold qY;simp only[];rw[bLX Yd,bNI]),pv,O,ν1,νx,rfl,h1,hx⟩
     ·refine aA<|Zav rfl<|Zf rfl<|aF<|Zag rfl (fun hH=>?_) (fun hH=>?_)
      ·obtain rfl:=bMN hH;obtain⟨hl,rfl⟩:=jO (k2:=1) (act2:=A8) hact rfl;obtain⟨a,rfl⟩:=zF hl;obtain⟨bt,ot,ct,rfl⟩:=dF hn Yf;have hbt:=eS hn;have R:=hr a Yf;refine bZ<|Za rfl<|aS rfl hn<|Zaq rfl<|aF<|Zag rfl (fun hI=>?_) (fun hI=>?_)
       ·have hJ:=hI;simp only[LT]at hJ;refine Wg ?_;exact bJ rfl fun D' hD=>⟨2,s.row,rfl,bT.err Xbv,pv,cv,ν1,ν2,rfl,h1,h2⟩
       ·have hJ:=hI;simp only[bLV]at hJ;refine aQ<|aP<|Za rfl<|Za rfl<|aS rfl hn<|Zal rfl<|Zj rfl TH rfl<|cY (ws:=[pv,cv,qI a,qI s.row.off,qI s.table.last,hv,qI s.table.step,lv,mv,qI s.book.chairs,qI s.book.coin,qI s.book.box,bl,bc,yc,qI s.yard.fit,yq]) rfl rfl rfl rfl aI .head Yf rfl Yk bRD<|Zan<|Za3<|Zay<|aA ?_;refine We ?_;exact bJ rfl fun D' hD=>⟨0,{s.row with wrong:=a},rfl,bT.ok Xbv,pv,cv,ν1,ν2,rfl,h1,h2⟩
      ·refine aA<|Zav rfl<|Zf rfl<|aF<|Zag rfl (fun hK=>?_) (fun hK=>?_)
       ·obtain rfl:=bMN hK;obtain⟨hl,rfl⟩:=jO (k2:=1) (act2:=NN) hact rfl;obtain⟨a,rfl⟩:=zF hl;obtain⟨bt,ot,ct,rfl⟩:=dF hn Yf;have hbt:=eS hn;have R:=hr a Yf;refine bZ<|Za rfl<|aS rfl hn<|Zaq rfl<|aF<|Zag rfl (fun hN=>?_) (fun hN=>?_)
        ·have hO:=hN;simp only[LT]at hO;refine Wg ?_;exact bJ rfl fun D' hD=>⟨2,s.row,rfl,bT.err Xbw,pv,cv,ν1,ν2,rfl,h1,h2⟩
        ·have hO:=hN;simp only[bLV]at hO;refine aQ<|aP<|Za rfl<|Za rfl<|aS rfl hn<|Zal rfl<|Zj rfl TO rfl<|cY (ws:=[pv,cv,qI s.row.wrong,qI a,qI s.table.last,hv,qI s.table.step,lv,mv,qI s.book.chairs,qI s.book.coin,qI s.book.box,bl,bc,yc,qI s.yard.fit,yq]) rfl rfl rfl rfl aI .head Yf rfl Yk bRD<|Zan<|Za3<|Zay<|aA ?_;refine We ?_;exact bJ rfl fun D' hD=>⟨0,{s.row with off:=a},rfl,bT.ok Xbw,pv,cv,ν1,ν2,rfl,h1,h2⟩
       ·refine Wm ?_;exact bJ rfl fun D' hD=>⟨-1,s.row,rfl,bMF ⟨rfl,rfl,(by simp only[tO,bLO,n4,bNV,bQX];exact⟨bML hc1,bML hc3,bML hP,bML hc9,bML hB,bML hH,bML hK⟩)⟩,pv,cv,ν1,ν2,rfl,h1,h2⟩
def j8:List Λ:=[⟨#[116,105,100,101]⟩,⟨#[115,116,101,112]⟩,⟨#[108,101,118,101,108]⟩,⟨#[114,97,105,115,101]⟩,⟨#[109,97,114,107]⟩,⟨#[117,110,109,97,114,107]⟩]
theorem aRE(wb:Nat)(s:aO)(pv cv hv lv mv bl bc yc yq nv:Γ)(w:Λ)(ns:List Int)(act:eJ)(ν3 ν4 ν5:aD)(D:aC)(hn:Sl D RI 1 nv ns)(hact:G6 w ns act)(hr:∀x∈ns,0≤x∧x≤999)(hk:lT s)(hg:jN s)(h3:bM 139 2 hv s.table.heights.length (s.table.heights.flatMap cP) ν3)(h4:bM 3 1 lv s.table.levels.length (s.table.levels.flatMap cI) ν4)(h5:bM 263 4 mv s.table.marks.length (s.table.marks.flatMap cM) ν5):kF prog 79 [.pointer (some ⟨wb,4,none⟩),.string w,nv] D ((wb,qC (dR s pv cv hv lv mv bl bc yc yq) 52)::(ν3++(ν4++ν5))) (fun _ v ν'=>∃(e:Int) (r:C2.aW),v=qI e∧bT j8 w act s ns e (iG s r)∧∃hv' lv' mv' ν3' ν4' ν5',ν'=(wb,qC (dR (iG s r) pv cv hv' lv' mv' bl bc yc yq) 52)::(ν3'++(ν4'++ν5'))∧bM 139 2 hv' r.heights.length (r.heights.flatMap cP) ν3'∧bM 3 1 lv' r.levels.length (r.levels.flatMap cI) ν4'∧bM 263 4 mv' r.marks.length (r.marks.flatMap cM) ν5') (fun _=>False):=by
 have kht:=hk.ht;have kla:=hg.last;have k4:=hk.lev;have k5:=hk.mks;refine eK 211 func79 rfl rfl rfl rfl fun h0 hwl hwn=>aA<|Zf rfl<|bG<|Za rfl<|aF<|Za0<|aA<|Zav rfl<|Zf rfl<|aF<|Zag rfl (fun hc1=>?_) fun hc1=>?_
 ·obtain rfl:=bMN hc1;obtain⟨hl,rfl⟩:=jO (k2:=3) (act2:=o9) hact rfl;obtain⟨a,b,c,rfl⟩:=aYP hl;obtain⟨bt,ot,ct,rfl⟩:=dF hn Yf;have hbt:=eS hn;have I:=hr a Yf;have hb9:=hr b Yf;have O:=hr c Yf;refine Za2<|Za2<|aV [] 4 8 120<|Za rfl<|aS rfl hn<|Za rfl<|Zal rfl<|Zj rfl ES rfl<|Zo rfl aH rfl Mm0 rfl<|Zaq rfl<|aF<|Zag rfl (fun hc2=>?_) (fun hc2=>?_)
  ·have hS:=hc2;simp only[LT]at hS;refine Wg ?_;exact bJ rfl fun D' hD=>⟨7,s.table,rfl,bT.err Ya5,hv,lv,mv,ν3,ν4,ν5,rfl,h3,h4,h5⟩
  ·have hS:=hc2;simp only[bLV]at hS;refine aQ<|Za2<|Za2<|aV [] 5 18 28728<|Za rfl<|aS rfl hn<|Za rfl<|aS rfl hn<|Zd rfl (fun D1 hD1=>V5 _ _ _ _)<|Wbr ?_;refine' dQ 9 (s:=26) (p:=35) rfl (fun hg1=>?_) (fun hg1=>?_) ?_;rotate_left
   ·refine Zb rfl<|iS rfl U35 aI rfl hn rfl Yd rfl rfl ⟨_,rfl,rfl⟩ fun cs4 hr4 hcl4 hA4=>?_;obtain rfl:cs4=[qI _]:=hr4;refine Zi 0 rfl aH rfl hA4 rfl<|Zb rfl<|iS rfl U35 aI rfl hn rfl Yd rfl rfl ⟨_,rfl,rfl⟩ fun cs5 hr5 hcl5 hA5=>?_;obtain rfl:cs5=[qI _]:=hr5;refine Zi 0 rfl aH rfl hA5 rfl<|xF rfl rfl rfl Ye rfl ⟨_,rfl,rfl⟩<|Wy ?_;exact aN 8
   ·refine Zg rfl<|Wal ?_;exact aN 8
   refine aF<|Zag rfl (fun hc3=>?_) fun hc3=>?_
   ·have hX:=hc3;simp only[bMU,bQI,bOQ,LT,bLV]at hX;refine Wg ?_;exact bJ rfl fun D' hD=>⟨2,s.table,rfl,bT.err Ya5,hv,lv,mv,ν3,ν4,ν5,rfl,h3,h4,h5⟩
   ·have hX:=hc3;simp only[bNG,bLQ,bQH,LT,bLV]at hX;refine aQ ?_;obtain⟨bx,cap,junk,rfl,hcap,rfl,hl1,R⟩:=h3.some Yd;refine aV [] 3 16 16368<|Za rfl<|Zal rfl<|Zj rfl mO rfl<|Zo rfl xQ rfl Mm0 rfl<|Za rfl<|aS rfl hn<|Za rfl<|aS rfl hn<|Za rfl<|aS rfl hn<|Zu [qI b,qI c] rfl P5 tM rfl ?_;refine eP rfl U39 mK rfl rfl Yd Yd rfl bRD<|y5 bGR (b,c) rfl rfl rfl rfl mK (.tail .head) Yd bRD<|Zan<|Wz ?_;exact bJ rfl fun D' hD=>⟨0,{s.table with heights:=s.table.heights.set a.toNat (b,c)},rfl,bT.ok Ya5,_,lv,mv,[(bx,_)],ν4,ν5,rfl,sI bGR bPR hcap hl1 R,h4,h5⟩
 ·refine aA<|Zav rfl<|Zf rfl<|aF<|Zag rfl (fun hY=>?_) (fun hY=>?_)
  ·obtain rfl:=bMN hY;obtain⟨hl,rfl⟩:=jO (k2:=1) (act2:=Z8) hact rfl;obtain⟨a,rfl⟩:=zF hl;obtain⟨bt,ot,ct,rfl⟩:=dF hn Yf;have hbt:=eS hn;have I:=hr a Yf;refine bZ<|Za rfl<|aS rfl hn<|Zaq rfl<|aF<|Zag rfl (fun rA=>?_) (fun rA=>?_)
   ·have rB:=rA;simp only[LT]at rB;refine Wg ?_;exact bJ rfl fun D' hD=>⟨2,s.table,rfl,bT.err Xbx,hv,lv,mv,ν3,ν4,ν5,rfl,h3,h4,h5⟩
   ·have rB:=rA;simp only[bLV]at rB;refine aQ<|aP<|Za rfl<|Za rfl<|aS rfl hn<|Zal rfl<|Zj rfl GX rfl<|cY (ws:=[pv,cv,qI s.row.wrong,qI s.row.off,qI s.table.last,hv,qI a,lv,mv,qI s.book.chairs,qI s.book.coin,qI s.book.box,bl,bc,yc,qI s.yard.fit,yq]) rfl rfl rfl rfl aI .head Yf rfl Yk bRD<|Zan<|Za3<|Zay<|aA ?_;refine We ?_;exact bJ rfl fun D' hD=>⟨0,{s.table with step:=a},rfl,bT.ok Xbx,hv,lv,mv,ν3,ν4,ν5,rfl,h3,h4,h5⟩
  ·refine aA<|Zav rfl<|Zf rfl<|aF<|Zag rfl (fun hc6=>?_) (fun hc6=>?_)
   ·obtain rfl:=bMN hc6;obtain⟨hl,rfl⟩:=jO (k2:=1) (act2:=B6) hact rfl;obtain⟨a,rfl⟩:=zF hl;obtain⟨bt,ot,ct,rfl⟩:=dF hn Yf;have hbt:=eS hn;have I:=hr a Yf;refine bZ<|Za rfl<|aS rfl hn<|Zaq rfl<|aF<|Zag rfl (fun hc7=>?_) (fun hc7=>?_)
    ·have hz7:=hc7;simp only[LT]at hz7;refine Wg ?_;exact bJ rfl fun D' hD=>⟨2,s.table,rfl,bT.err Ya3,hv,lv,mv,ν3,ν4,ν5,rfl,h3,h4,h5⟩
    ·have hz7:=hc7;simp only[bLV]at hz7;refine aQ<|bZ<|Za rfl<|Zal rfl<|Zj rfl vB rfl<|Zo rfl cF rfl Mm0 rfl<|cG rfl U35 rfl h4 rfl rfl bRD<|Zap rfl<|aF<|Zag rfl (fun hc8=>?_) (fun hc8=>?_)
     ·have hz8:=hc8;simp only[LT]at hz8;refine Wg ?_;exact bJ rfl fun D' hD=>⟨3,s.table,rfl,bT.err Ya3,hv,lv,mv,ν3,ν4,ν5,rfl,h3,h4,h5⟩
     ·have hz8:=hc8;simp only[bLV]at hz8;refine aQ<|fD hbt Yf fun hap=>pW fun hnd=>?_;have hnu:=fE hap hnd;have hwbo:wb∉dC.mk [bt,wb]:=dC.out Yf;have hbto:bt∉dC.mk [bt,wb]:=dC.out Yf;refine aV (dC.mk [bt,wb]) 2 13 1022<|Za rfl<|Za rfl<|Zal rfl<|Zj rfl vB rfl<|bD rfl cF rfl Mm0 rfl Ym rfl bRD<|Za rfl<|aS rfl hn<|Zt rfl U35 aI cO rfl (.cons rfl rfl .nil) fun b901 D901 hD901 U=>?_;have hS901:=Sl.ofInts (l:=[_]) (n:=1) (cap:=1) U rfl Yd Yd;refine Zab (([(wb,_)]++ν3)++ν4++ν5) bJT<|xP ([(wb,_)]++ν3) ν5 aMJ a rfl U35 rfl rfl aI cO rfl kD rfl rfl rfl h4 U Yd Yq bRD fun v1 νx hx=>Zab ((wb,_)::(ν3++(νx++ν5))) bJT.symm<|Zal rfl<|Zj rfl vB rfl<|Zs (dR s pv cv hv v1 mv bl bc yc yq) rfl hx.cells1 fK .head rfl hx.cell1<|Zan<|Wz ?_;exact bJ rfl fun D' hD=>⟨0,{s.table with levels:=s.table.levels++[a]},rfl,bT.ok Ya3,hv,v1,mv,ν3,νx,ν5,rfl,h3,hx,h5⟩
   ·refine aA<|Zav rfl<|Zf rfl<|aF<|Zag rfl (fun O=>?_) (fun O=>?_)
    ·obtain rfl:=bMN O;obtain⟨hl,rfl⟩:=jO (k2:=2) (act2:=zW) hact rfl;obtain⟨a,b,rfl⟩:=Y3 hl;obtain⟨bt,ot,ct,rfl⟩:=dF hn Yf;have hbt:=eS hn;have I:=hr a Yf;have hb9:=hr b Yf;refine Za2<|Za2<|aV [] 5 9 248<|Za rfl<|aS rfl hn<|Za rfl<|Zal rfl<|Zj rfl vB rfl<|Zo rfl cF rfl Mm0 rfl<|cG rfl U35 rfl h4 rfl rfl bRD<|Wav ?_;refine Zag rfl (fun V=>?_) (fun V=>?_)
     ·have Y:=V;simp only[LT]at Y;refine Wg ?_;exact bJ rfl fun D' hD=>⟨7,s.table,rfl,bT.err Ya2,hv,lv,mv,ν3,ν4,ν5,rfl,h3,h4,h5⟩
     ·have Y:=V;simp only[bLV]at Y;refine aQ<|bZ<|Za rfl<|aS rfl hn<|Zaq rfl<|aF<|Zag rfl (fun Z=>?_) (fun Z=>?_)
      ·have hB:=Z;simp only[LT]at hB;refine Wg ?_;exact bJ rfl fun D' hD=>⟨2,s.table,rfl,bT.err Ya2,hv,lv,mv,ν3,ν4,ν5,rfl,h3,h4,h5⟩
      ·have hB:=Z;simp only[bLV]at hB;refine aQ ?_;obtain⟨bx,cap,junk,rfl,hcap,rfl,hl1,R⟩:=h4.some Yd;refine aV [] 3 12 1008<|Za rfl<|Zal rfl<|Zj rfl vB rfl<|Zo rfl cF rfl Mm0 rfl<|Za rfl<|aS rfl hn<|Za rfl<|aS rfl hn<|eP rfl U35 aI rfl rfl Yd Yd rfl bRD<|y5 aMJ b rfl rfl rfl rfl aI (.tail (.app .head)) Yd bRD<|Zan ?_;refine Wz ?_;exact bJ rfl fun D' hD=>⟨0,{s.table with levels:=s.table.levels.set a.toNat b},rfl,bT.ok Ya2,hv,_,mv,ν3,[(bx,_)],ν5,rfl,h3,sI aMJ bPR hcap hl1 R,h5⟩
    ·refine aA<|Zav rfl<|Zf rfl<|aF<|Zag rfl (fun hE=>?_) (fun hE=>?_)
     ·obtain rfl:=bMN hE;obtain⟨hl,rfl⟩:=jO (k2:=4) (act2:=G5) hact rfl;obtain⟨a,b,c,d,rfl⟩:=bDW hl;obtain⟨bt,ot,ct,rfl⟩:=dF hn Yf;have hbt:=eS hn;have I:=hr a Yf;have hb9:=hr b Yf;have O:=hr c Yf;have hd9:=hr d Yf;refine Za2<|Za2<|aV [] 6 18 61560<|Za rfl<|aS rfl hn<|Za rfl<|Zal rfl<|Zj rfl ES rfl<|Zo rfl aH rfl Mm0 rfl<|Wap ?_;refine' dQ 9 (s:=123) (p:=132) rfl (fun hg2=>?_) (fun hg2=>?_) ?_;rotate_left
      ·refine Zb rfl<|iS rfl U35 aI rfl hn rfl Yd rfl rfl ⟨_,rfl,rfl⟩ fun cs18 hr18 hcl18 hA18=>?_;obtain rfl:cs18=[qI _]:=hr18;refine Zi 0 rfl aH rfl hA18 rfl<|Zb rfl<|vE rfl rfl rfl ⟨_,rfl,rfl⟩<|Zk rfl ES rfl<|Zp rfl aH rfl Mm0 rfl<|Wy ?_;exact aN 8
      ·refine Zg rfl<|Wal ?_;exact aN 8
      refine aF<|Zag rfl (fun hF=>?_) fun hF=>?_
      ·have hH:=hF;simp only[bMU,LT]at hH;refine Wg ?_;exact bJ rfl fun D' hD=>⟨7,s.table,rfl,bT.err Ya7,hv,lv,mv,ν3,ν4,ν5,rfl,h3,h4,h5⟩
      ·have hH:=hF;simp only[bNG,bLV]at hH;refine aQ<|Za2<|Za2<|aV [] 5 17 14392<|Za rfl<|aS rfl hn<|Za rfl<|aS rfl hn<|Wap ?_;refine' dQ 9 (s:=140) (p:=149) rfl (fun hg3=>?_) (fun hg3=>?_) ?_;rotate_left
       ·refine Zb rfl<|iS rfl U35 aI rfl hn rfl Yd rfl rfl ⟨_,rfl,rfl⟩ fun cs21 hr21 hcl21 hA21=>?_;obtain rfl:cs21=[qI _]:=hr21;refine Zi 0 rfl aH rfl hA21 rfl<|Zb rfl<|iS rfl U35 aI rfl hn rfl Yd rfl rfl ⟨_,rfl,rfl⟩ fun cs22 hr22 hcl22 hA22=>?_;obtain rfl:cs22=[qI _]:=hr22;refine Zi 0 rfl aH rfl hA22 rfl<|Ze rfl (fun D2 hD2=>V5 _ _ _ _)<|Waf ?_;exact aN 8
       ·refine Zg rfl<|Wal ?_;exact aN 8
       refine aF<|Zag rfl (fun hI=>?_) fun hI=>?_
       ·have hJ:=hI;simp only[bMU,bQI,bOQ,LT,bLV]at hJ;refine Wg ?_;exact bJ rfl fun D' hD=>⟨2,s.table,rfl,bT.err (by unfold G5;simp only[];rw[bLX Yd];split<;>first|rfl|rw[bMG Yd]),hv,lv,mv,ν3,ν4,ν5,rfl,h3,h4,h5⟩
       ·have hJ:=hI;simp only[bNG,bLQ,bQH,LT,bLV]at hJ;refine aQ<|bZ<|Za rfl<|Zal rfl<|Zj rfl mT rfl<|Zo rfl M6 rfl Mm0 rfl<|cG rfl U40 rfl h5 rfl rfl bRD<|Zap rfl<|aF<|Zag rfl (fun hK=>?_) (fun hK=>?_)
        ·have hN:=hK;simp only[LT]at hN;refine Wg ?_;exact bJ rfl fun D' hD=>⟨3,s.table,rfl,bT.err Ya7,hv,lv,mv,ν3,ν4,ν5,rfl,h3,h4,h5⟩
        ·have hN:=hK;simp only[bLV]at hN;refine aQ<|fD hbt Yf fun hap=>pW fun hnd=>?_;have hnu:=fE hap hnd;have hwbo:wb∉dC.mk [bt,wb]:=dC.out Yf;have hbto:bt∉dC.mk [bt,wb]:=dC.out Yf;refine aV (dC.mk [bt,wb]) 2 24 2097150<|Za rfl<|Za rfl<|Zal rfl<|Zj rfl mT rfl<|bD rfl M6 rfl Mm0 rfl Ym rfl bRD<|Za rfl<|aS rfl hn<|Wac ?_;refine Za rfl<|aS rfl hn<|Zu [qI c,qI d] rfl P5 tM rfl<|Zu [qI a,qI b,qI c,qI d] rfl bCX CN rfl<|Zt rfl U40 wM CN rfl (.cons rfl rfl .nil) fun b902 D902 hD902 hA902=>Zab (([(wb,_)]++ν3++ν4)++ν5++[]) bKP<|xP ([(wb,_)]++ν3++ν4) [] bKZ (⟨a,b,c,d⟩:C2.Mk) rfl U40 rfl rfl wM CN rfl aCT rfl rfl rfl h5 hA902 Yd Yq bRD fun v1 νx hx=>Zab ((wb,_)::(ν3++(ν4++νx))) bKP.symm<|Wbz ?_;refine Wz ?_;exact bJ rfl fun D' hD=>⟨0,{s.table with marks:=s.table.marks++[(⟨a,b,c,d⟩:C2.Mk)]},rfl,bT.ok Ya7,hv,lv,v1,ν3,ν4,νx,rfl,h3,h4,hx⟩
     ·refine aA<|Zav rfl<|Zf rfl<|aF<|Zag rfl (fun hO=>?_) (fun hO=>?_)
      ·obtain rfl:=bMN hO;obtain⟨hl,rfl⟩:=jO (k2:=1) (act2:=tJ) hact rfl;obtain⟨a,rfl⟩:=zF hl;obtain⟨bt,ot,ct,rfl⟩:=dF hn Yf;have hbt:=eS hn;have I:=hr a Yf;refine Za2<|Za2<|aV [] 5 9 248<|Za rfl<|aS rfl hn<|Za rfl<|Zal rfl<|Zj rfl mT rfl<|Zo rfl M6 rfl Mm0 rfl<|cG rfl U40 rfl h5 rfl rfl bRD<|Wav ?_;refine Zag rfl (fun hP=>?_) (fun hP=>?_)
       ·have hR:=hP;simp only[LT]at hR;refine Wg ?_;exact bJ rfl fun D' hD=>⟨7,s.table,rfl,bT.err Xcn,hv,lv,mv,ν3,ν4,ν5,rfl,h3,h4,h5⟩
       ·have hR:=hP;simp only[bLV]at hR;refine aQ ?_;obtain⟨i,rfl⟩:∃i:Nat,a=(i:Int):=⟨a.toNat,Yd⟩
        have hi:i<s.table.marks.length:=by omega
        obtain⟨bx,cap,junk,rfl,hcap,rfl,hl1,R⟩:=h5.some Yd;refine fD hbt Yf fun hap=>pW fun hnd=>?_;have hnu:=fE hap hnd;have hwbo:wb∉dC.mk [bt,wb]:=dC.out Yf;have hbto:bt∉dC.mk [bt,wb]:=dC.out Yf;have hbx:bx∈dC.mk [bt,wb]:=dC.in_ (hnu (bx,_) (GT _ (GT _ bLP)));refine aV (dC.mk [bt,wb]) 2 22 524286<|Za rfl<|Za rfl<|Zal rfl<|Zj rfl mT rfl<|bD rfl M6 rfl Mm0 rfl Ym rfl bRD<|Za rfl<|aS rfl hn<|AY (i:=i) rfl U40 wM rfl rfl Yd rfl bRD<|Za rfl<|Zal rfl<|Zj rfl mT rfl ?_;refine bD rfl M6 rfl Mm0 rfl Ym rfl bRD<|Za rfl<|aS rfl hn<|Zae rfl<|BU (j:=i+1) rfl U40 wM rfl rfl Yd rfl bRD fun o ho=>Zab (([(wb,_)]++(ν3++ν4))++(bx,_)::[]) bd2<|OO ([(wb,_)]++(ν3++ν4)) [] bKZ rfl U40 rfl rfl wM rfl rfl hi hcap ho hl1 R Ybc bRD fun v1 νx hx=>Zab ((wb,_)::(ν3++(ν4++νx))) bd3<|Wbz ?_;refine Wz ?_;exact bJ rfl fun D' hD=>⟨0,{s.table with marks:=s.table.marks.eraseIdx i},rfl,bT.ok (by unfold tJ;simp only[];rw[bLX Yd,bNI]),hv,lv,v1,ν3,ν4,νx,rfl,h3,h4,hx⟩
      ·refine Wm ?_;exact bJ rfl fun D' hD=>⟨-1,s.table,rfl,bMF ⟨rfl,rfl,(by simp only[j8,bLO,n4,bNV,bQX];exact⟨bML hc1,bML hY,bML hc6,bML O,bML hE,bML hO⟩)⟩,hv,lv,mv,ν3,ν4,ν5,rfl,h3,h4,h5⟩
def I0:List Λ:=[⟨#[104,105,114,101]⟩,⟨#[98,114,105,110,103]⟩,⟨#[115,109,117,100,103,101]⟩,⟨#[115,116,114,105,107,101]⟩]
theorem bKO{s:aO}{a b c:Int}(ha:0≤a)(h:(s.yard.chairs.length:Int)≤a∨3≤b):vT s [a,b,c]=.error 7:=by
 unfold vT;simp only[]
 split
 ·rfl
 ·rename_i hq;have:=(bLS.1 hq).1;exact bMG Yd
theorem bJJ{s:aO}{a b c:Int}(ha:a.toNat<s.yard.chairs.length)(hb:b<3)(hc:2<c):vT s [a,b,c]=.error 2:=by
 unfold vT;simp only[]
 rw[bLR ha];exact(bLX Yd).trans (bMG hc)
theorem PR{s:aO}{a b c:Int}{x:C7.Ch}(hx:s.yard.chairs[a.toNat]?= some x)(hb:b<3)(hc:c≤2):vT s [a,b,c]=.ok (kR s {s.yard with chairs:=s.yard.chairs.set a.toNat {x with parts:=EL x.parts b.toNat c}}):=by
 unfold vT;simp only[]
 rw[hx];exact(bLX Yd).trans (bLX Yd)
theorem PA{w:Λ}{ns:List Int}{act:eJ}(h:G6 w ns act)(h1:w∉tO)(h2:w∉j8)(h3:w∉I0)(g1:¬w=⟨#[98,114,111,107,101,110]⟩)(g2:¬w=⟨#[112,97,114,116]⟩)(g3:¬w=⟨#[102,105,116]⟩)(g4:¬w=⟨#[99,108,97,105,109]⟩):w=⟨#[117,110,99,108,97,105,109]⟩:=by
 obtain⟨x,hx,e⟩:∃x∈kU,x.1=w.data.toList:=⟨_,List.mem_of_find?_eq_some h,rfl⟩
 have hw:w=LS x.1:=by rw[e];exact(yO w).symm
 clear h e;simp only[tO,j8,I0,bLO,n4,bNV,bQX]at h1 h2 h3;simp only[kU,bLO,n4,bNV]at hx;rcases hx with rfl|rfl|rfl|rfl|rfl|rfl|rfl|rfl|rfl|rfl|rfl|rfl|rfl|rfl|rfl|rfl|rfl|rfl|rfl|rfl|rfl|rfl;all_goals first|exact hw|exact absurd hw h1.1|exact absurd hw h1.2.1|exact absurd hw h1.2.2.1|exact absurd hw h1.2.2.2.1|exact absurd hw h1.2.2.2.2.1|exact absurd hw h1.2.2.2.2.2.1|exact absurd hw h1.2.2.2.2.2.2|exact absurd hw h2.1|exact absurd hw h2.2.1|exact absurd hw h2.2.2.1|exact absurd hw h2.2.2.2.1|exact absurd hw h2.2.2.2.2.1|exact absurd hw h2.2.2.2.2.2|exact absurd hw h3.1|exact absurd hw h3.2.1|exact absurd hw h3.2.2.1|exact absurd hw h3.2.2.2|exact absurd hw g1|exact absurd hw g2|exact absurd hw g3|exact absurd hw g4
theorem aKR(wb:Nat)(s:aO)(pv cv hv lv mv bl bc yc yq nv:Γ)(w:Λ)(ns:List Int)(act:eJ)(ν6:aD)(D:aC)(hn:Sl D RI 1 nv ns)(hact:G6 w ns act)(hr:∀x∈ns,0≤x∧x≤999)(hk:lT s)(hg:jN s)(I:bM 184 3 bl s.book.lines.length (s.book.lines.flatMap cL) ν6):kF prog 80 [.pointer (some ⟨wb,9,none⟩),.string w,nv] D ((wb,qC (dR s pv cv hv lv mv bl bc yc yq) 52)::(ν6)) (fun _ v ν'=>∃(e:Int) (r:C3.bA),v=qI e∧bT I0 w act s ns e (oY s r)∧∃bl' ν6',ν'=(wb,qC (dR (oY s r) pv cv hv lv mv bl' bc yc yq) 52)::(ν6')∧bM 184 3 bl' r.lines.length (r.lines.flatMap cL) ν6'∧r.counts=s.book.counts) (fun _=>False):=by
 have kbc:=hk.bc;have k6:=hk.ln;refine eK 110 func80 rfl rfl rfl rfl fun h0 hwl hwn=>aA<|Zf rfl<|bG<|Za rfl<|aF<|Za0<|bZ<|Zav rfl<|Zf rfl<|aF<|Zag rfl (fun hc1=>?_) fun hc1=>?_
 ·obtain rfl:=bMN hc1;obtain⟨hl,rfl⟩:=jO (k2:=2) (act2:=pL 1) hact rfl;obtain⟨a,b,rfl⟩:=Y3 hl;obtain⟨bt,ot,ct,rfl⟩:=dF hn Yf;have hbt:=eS hn;have hF:=hr a Yf;have rB:=hr b Yf;refine aQ<|jC rfl hc1<|bZ<|Za rfl<|aS rfl hn<|Wap ?_;refine' dQ 5 (s:=16) (p:=21) rfl (fun hg1=>?_) (fun hg1=>?_) ?_;rotate_left
  ·refine Zb rfl<|iS rfl U35 aI rfl hn rfl Yd rfl rfl ⟨_,rfl,rfl⟩ fun cs2 hr2 hcl2 hA2=>?_;obtain rfl:cs2=[qI _]:=hr2;refine Zi 0 rfl aH rfl hA2 rfl<|Wy ?_;exact aN 4
  ·refine Wf ?_;exact aN 4
  refine aF<|Zag rfl (fun hc2=>?_) fun hc2=>?_
  ·have hH:=hc2;simp only[bMU,LT]at hH;refine Wg ?_;exact bJ rfl fun D' hD=>⟨7,s.book,rfl,bT.err Yam,bl,ν6,rfl,I,rfl⟩
  ·have hH:=hc2;simp only[bNG,bLV]at hH;refine aQ<|bZ<|Za rfl<|Zal rfl<|Zj rfl gF rfl<|Zo rfl nB rfl Mm0 rfl<|cG rfl U43 rfl I rfl rfl bRD<|Zap rfl<|aF<|Zag rfl (fun hc3=>?_) (fun hc3=>?_)
   ·have hI:=hc3;simp only[LT]at hI;refine Wg ?_;exact bJ rfl fun D' hD=>⟨3,s.book,rfl,bT.err Yam,bl,ν6,rfl,I,rfl⟩
   ·have hI:=hc3;simp only[bLV]at hI;refine aQ<|aA<|Zf rfl<|bG<|Za rfl<|Zav rfl ?_;rw[show decide ((⟨#[104,105,114,101]⟩:Λ)=⟨#[98,114,105,110,103]⟩)=false by decide];refine aF<|Zag rfl (fun hY=>?_) (fun hY=>?_)
    ·cases hY
    ·refine aQ<|fD hbt Yf fun hap=>pW fun hnd=>?_;have hnu:=fE hap hnd;have hwbo:wb∉dC.mk [bt,wb]:=dC.out Yf;have hbto:bt∉dC.mk [bt,wb]:=dC.out Yf;refine aV (dC.mk [bt,wb]) 2 18 32766<|Za rfl<|Za rfl<|Zal rfl<|Zj rfl gF rfl<|bD rfl nB rfl Mm0 rfl Ym rfl bRD<|Za rfl<|Za rfl<|aS rfl hn<|Za rfl<|aS rfl hn<|Zu [qI 1,qI a,qI b] rfl CI nP rfl ?_;refine Zt rfl U43 eQ nP rfl (.cons rfl rfl .nil) fun b901 D901 hD901 hJ=>Zab ([(wb,_)]++ν6++[]) bAZ<|xP [(wb,_)] [] bEK (⟨1,a,b⟩:C3.cB) rfl U43 rfl rfl eQ nP rfl a7 rfl rfl rfl I hJ Yd Yq bRD fun v1 νx hx=>Zab ((wb,_)::(νx)) bAZ.symm<|Wbj ?_;refine aG ?_;exact bJ rfl fun D' hD=>⟨0,{s.book with lines:=s.book.lines++[(⟨1,a,b⟩:C3.cB)]},rfl,bT.ok Yam,v1,νx,rfl,hx,rfl⟩
 ·refine aP<|Zav rfl<|Zf rfl<|aF<|Zag rfl (fun hK=>?_) (fun hK=>?_)
  ·obtain rfl:=bMN hK;obtain⟨hl,rfl⟩:=jO (k2:=2) (act2:=pL 2) hact rfl;obtain⟨a,b,rfl⟩:=Y3 hl;obtain⟨bt,ot,ct,rfl⟩:=dF hn Yf;have hbt:=eS hn;have hF:=hr a Yf;have rB:=hr b Yf;refine bZ<|Za rfl<|aS rfl hn<|Wap ?_;refine' dQ 5 (s:=16) (p:=21) rfl (fun hg2=>?_) (fun hg2=>?_) ?_;rotate_left
   ·refine Zb rfl<|iS rfl U35 aI rfl hn rfl Yd rfl rfl ⟨_,rfl,rfl⟩ fun cs6 hr6 hcl6 hA6=>?_;obtain rfl:cs6=[qI _]:=hr6;refine Zi 0 rfl aH rfl hA6 rfl<|Wy ?_;exact aN 4
   ·refine Wf ?_;exact aN 4
   refine aF<|Zag rfl (fun hN=>?_) fun hN=>?_
   ·have hO:=hN;simp only[bMU,LT]at hO;refine Wg ?_;exact bJ rfl fun D' hD=>⟨7,s.book,rfl,bT.err Yam,bl,ν6,rfl,I,rfl⟩
   ·have hO:=hN;simp only[bNG,bLV]at hO;refine aQ<|bZ<|Za rfl<|Zal rfl<|Zj rfl gF rfl<|Zo rfl nB rfl Mm0 rfl<|cG rfl U43 rfl I rfl rfl bRD<|Zap rfl<|aF<|Zag rfl (fun hP=>?_) (fun hP=>?_)
    ·have hR:=hP;simp only[LT]at hR;refine Wg ?_;exact bJ rfl fun D' hD=>⟨3,s.book,rfl,bT.err Yam,bl,ν6,rfl,I,rfl⟩
    ·have hR:=hP;simp only[bLV]at hR;refine aQ<|aA<|Zf rfl<|bG<|Za rfl<|Zav rfl ?_;rw[show decide ((⟨#[98,114,105,110,103]⟩:Λ)=⟨#[98,114,105,110,103]⟩)=true by decide];refine aF<|Zag rfl (fun rA=>?_) (fun rA=>?_)
     ·refine aP<|Zf rfl<|aF<|fD hbt Yf fun hap=>pW fun hnd=>?_;have hnu:=fE hap hnd;have hwbo:wb∉dC.mk [bt,wb]:=dC.out Yf;have hbto:bt∉dC.mk [bt,wb]:=dC.out Yf;refine aV (dC.mk [bt,wb]) 2 18 32766<|Za rfl<|Za rfl<|Zal rfl<|Zj rfl gF rfl<|bD rfl nB rfl Mm0 rfl Ym rfl bRD<|Za rfl<|Za rfl<|aS rfl hn<|Za rfl<|aS rfl hn<|Zu [qI 2,qI a,qI b] rfl CI nP rfl ?_;refine Zt rfl U43 eQ nP rfl (.cons rfl rfl .nil) fun b902 D902 hD902 hS=>Zab ([(wb,_)]++ν6++[]) bAZ<|xP [(wb,_)] [] bEK (⟨2,a,b⟩:C3.cB) rfl U43 rfl rfl eQ nP rfl a7 rfl rfl rfl I hS Yd Yq bRD fun v1 νx hx=>Zab ((wb,_)::(νx)) bAZ.symm<|Wbj ?_;refine aG ?_;exact bJ rfl fun D' hD=>⟨0,{s.book with lines:=s.book.lines++[(⟨2,a,b⟩:C3.cB)]},rfl,bT.ok Yam,v1,νx,rfl,hx,rfl⟩
     ·cases rA
  ·refine aA<|Zav rfl<|Zf rfl<|aF<|Zag rfl (fun hX=>?_) (fun hX=>?_)
   ·obtain rfl:=bMN hX;obtain⟨hl,rfl⟩:=jO (k2:=1) (act2:=qJ) hact rfl;obtain⟨a,rfl⟩:=zF hl;obtain⟨bt,ot,ct,rfl⟩:=dF hn Yf;have hbt:=eS hn;have hF:=hr a Yf;refine Za2<|Za2<|aV [] 5 9 248<|Wbv ?_;refine Zag rfl (fun O=>?_) (fun O=>?_)
    ·have R:=O;simp only[LT]at R;refine Wg ?_;exact bJ rfl fun D' hD=>⟨7,s.book,rfl,bT.err (by unfold qJ;simp only[];rw[bOP Yd]),bl,ν6,rfl,I,rfl⟩
    ·have R:=O;simp only[bLV]at R;refine aQ<|Za2<|Za2 ?_;obtain⟨bx,cap,junk,rfl,hcap,rfl,hl1,hE⟩:=I.some Yd;obtain⟨x,hx⟩:=cR s.book.lines (a.toNat);have hlx:=hg.ln x (n5 hx);refine aV [] 7 11 112<|Za rfl<|Zal rfl<|Zj rfl gF rfl<|Zo rfl nB rfl Mm0 rfl<|Za rfl<|aS rfl hn<|eP rfl U43 eQ rfl rfl Yd Yd rfl bRD<|Zj rfl rJ rfl<|bD (v:=qI x.token) rfl aH rfl Mm1 Xdb n4 rfl bRD<|Zam rfl<|aF ?_;refine Zag rfl (fun U=>?_) (fun U=>?_)
     ·have V:=U;simp only[LT]at V;refine Wg ?_;exact bJ rfl fun D' hD=>⟨6,s.book,rfl,bT.err (by unfold qJ;simp only[];rw[hx];exact bMG Yd),_,[(bx,_)],rfl,bLY ⟨bx,cap,junk,rfl,hcap,rfl,hl1,hE⟩,rfl⟩
     ·have V:=U;simp only[bLV]at V;refine aQ<|aV [] 3 10 112<|Za rfl<|Zal rfl<|Zj rfl gF rfl<|Zo rfl nB rfl Mm0 rfl<|Za rfl<|aS rfl hn<|eP rfl U43 eQ rfl rfl Yd Yd rfl bRD<|Zj rfl rJ rfl<|Wce ?_;refine Wz ?_;exact bJ rfl fun D' hD=>⟨0,{s.book with lines:=s.book.lines.set a.toNat {x with token:= -1}},rfl,bT.ok (by unfold qJ;simp only[];rw[hx];exact bLX Yd),_,[(bx,_)],rfl,sI bEK bPR hcap hl1 hE,rfl⟩
   ·refine aA<|Zav rfl<|Zf rfl<|aF<|Zag rfl (fun Y=>?_) (fun Y=>?_)
    ·obtain rfl:=bMN Y;obtain⟨hl,rfl⟩:=jO (k2:=1) (act2:=tR) hact rfl;obtain⟨a,rfl⟩:=zF hl;obtain⟨bt,ot,ct,rfl⟩:=dF hn Yf;have hbt:=eS hn;have hF:=hr a Yf;refine Za2<|Za2<|aV [] 5 9 248<|Wbv ?_;refine Zag rfl (fun Z=>?_) (fun Z=>?_)
     ·have hB:=Z;simp only[LT]at hB;refine Wg ?_;exact bJ rfl fun D' hD=>⟨7,s.book,rfl,bT.err Xco,bl,ν6,rfl,I,rfl⟩
     ·have hB:=Z;simp only[bLV]at hB;refine aQ ?_;obtain⟨i,rfl⟩:∃i:Nat,a=(i:Int):=⟨a.toNat,Yd⟩
      have hi:i<s.book.lines.length:=by omega
      obtain⟨bx,cap,junk,rfl,hcap,rfl,hl1,hE⟩:=I.some Yd;refine fD hbt Yf fun hap=>pW fun hnd=>?_;have hnu:=fE hap hnd;have hwbo:wb∉dC.mk [bt,wb]:=dC.out Yf;have hbto:bt∉dC.mk [bt,wb]:=dC.out Yf;have hbx:bx∈dC.mk [bt,wb]:=dC.in_ (hnu (bx,_) bLP);refine aV (dC.mk [bt,wb]) 2 22 524286<|Za rfl<|Za rfl<|Zal rfl<|Zj rfl gF rfl<|bD rfl nB rfl Mm0 rfl Ym rfl bRD<|Za rfl<|aS rfl hn<|AY (i:=i) rfl U43 eQ rfl rfl Yd rfl bRD<|Za rfl<|Zal rfl<|Zj rfl gF rfl ?_;refine bD rfl nB rfl Mm0 rfl Ym rfl bRD<|Za rfl<|aS rfl hn<|Zae rfl<|BU (j:=i+1) rfl U43 eQ rfl rfl Yd rfl bRD fun o ho=>aY ([(wb,_)]++(bx,_)::[]) rfl<|OO [(wb,_)] [] bEK rfl U43 rfl rfl eQ rfl rfl hi hcap ho hl1 hE Ybc bRD fun v1 νx hx=>Zab ((wb,_)::(νx)) bd0<|Zal rfl<|Zj rfl gF rfl<|Zs (dR s pv cv hv lv mv v1 bc yc yq) rfl hx.cells1 I3 .head rfl hx.cell1<|Zan ?_;refine Wz ?_;exact bJ rfl fun D' hD=>⟨0,{s.book with lines:=s.book.lines.eraseIdx i},rfl,bT.ok (by unfold tR;simp only[];rw[bLX Yd,bNI]),v1,νx,rfl,hx,rfl⟩
    ·refine Wm ?_;exact bJ rfl fun D' hD=>⟨-1,s.book,rfl,bMF ⟨rfl,rfl,(by simp only[I0,bLO,n4,bNV,bQX];exact⟨bML hc1,bML hK,bML hX,bML Y⟩)⟩,bl,ν6,rfl,I,rfl⟩
theorem aHP(wb:Nat)(s:aO)(pv cv hv lv mv bl bc yc yq nv:Γ)(w:Λ)(ns:List Int)(act:eJ)(ν7 ν8:aD)(D:aC)(hn:Sl D RI 1 nv ns)(hact:G6 w ns act)(hw1:w∉tO)(hw2:w∉j8)(hw3:w∉I0)(hr:∀x∈ns,0≤x∧x≤999)(hk:lT s)(_hg:jN s)(I:bM 267 4 yc s.yard.chairs.length (s.yard.chairs.flatMap cH) ν7)(h8:bM 146 2 yq s.yard.claims.length (s.yard.claims.flatMap cP) ν8):kF prog 81 [.pointer (some ⟨wb,14,none⟩),.string w,nv] D ((wb,qC (dR s pv cv hv lv mv bl bc yc yq) 52)::(ν7++ν8)) (fun _ v ν'=>∃(e:Int) (r:C7.bC),v=qI e∧bT [w] w act s ns e (kR s r)∧∃yc' yq' ν7' ν8',ν'=(wb,qC (dR (kR s r) pv cv hv lv mv bl bc yc' yq') 52)::(ν7'++ν8')∧bM 267 4 yc' r.chairs.length (r.chairs.flatMap cH) ν7'∧bM 146 2 yq' r.claims.length (r.claims.flatMap cP) ν8') (fun _=>False):=by
 have k7:=hk.ch;have k8:=hk.cl;refine eK 172 func81 rfl rfl rfl rfl fun h0 hwl hwn=>aA<|Zf rfl<|bG<|Za rfl<|aF<|Za0<|aA<|Zav rfl<|Zf rfl<|aF<|Zag rfl (fun hc1=>?_) fun hc1=>?_
 ·obtain rfl:=bMN hc1;obtain⟨hl,rfl⟩:=jO (k2:=4) (act2:=tZ) hact rfl;obtain⟨a,b,c,d,rfl⟩:=bDW hl;obtain⟨bt,ot,ct,rfl⟩:=dF hn Yf;have hbt:=eS hn;have hE:=hr a Yf;have rB:=hr b Yf;have O:=hr c Yf;have hd9:=hr d Yf;refine bZ<|Za rfl<|aS rfl hn<|Wap ?_;refine' dQ 5 (s:=44) (p:=49) rfl (fun hg1=>?_) (fun hg1=>?_) ?_;rotate_left
  ·refine Zb rfl<|iS rfl U35 aI rfl hn rfl Yd rfl rfl ⟨_,rfl,rfl⟩ fun cs2 hr2 hcl2 hA2=>?_;obtain rfl:cs2=[qI _]:=hr2;refine Zi 0 rfl aH rfl hA2 rfl<|Wy ?_;exact aN 4
  ·refine Wf ?_;exact aN 4
  refine Za rfl ?_;refine' dQ 5 (s:=50) (p:=55) rfl (fun hg2=>?_) (fun hg2=>?_) ?_;rotate_left
  ·refine Zb rfl<|iS rfl U35 aI rfl hn rfl Yd rfl rfl ⟨_,rfl,rfl⟩ fun cs3 hr3 hcl3 hA3=>?_;obtain rfl:cs3=[qI _]:=hr3;refine Zi 0 rfl aH rfl hA3 rfl<|Wy ?_;exact aN 4
  ·refine Wf ?_;exact aN 4
  refine Za rfl ?_;refine' dQ 5 (s:=56) (p:=61) rfl (fun hg3=>?_) (fun hg3=>?_) ?_;rotate_left
  ·refine Zb rfl<|iS rfl U35 aI rfl hn rfl Yd rfl rfl ⟨_,rfl,rfl⟩ fun cs4 hr4 hcl4 hA4=>?_;obtain rfl:cs4=[qI _]:=hr4;refine Zi 0 rfl aH rfl hA4 rfl<|Wy ?_;exact aN 4
  ·refine Wf ?_;exact aN 4
  refine aF<|Zag rfl (fun hc2=>?_) fun hc2=>?_
  ·have hF:=hc2;simp only[bMU,LT]at hF;refine Wg ?_;exact bJ rfl fun D' hD=>⟨2,s.yard,rfl,bT.err Ya1,yc,yq,ν7,ν8,rfl,I,h8⟩
  ·have hF:=hc2;simp only[bNG,bLV]at hF;refine aQ<|bZ<|Za rfl<|Zal rfl<|Zj rfl iJ rfl<|Zo rfl pD rfl Mm0 rfl<|cG rfl U47 rfl I rfl rfl bRD<|Zap rfl<|aF<|Zag rfl (fun hc3=>?_) (fun hc3=>?_)
   ·have hH:=hc3;simp only[LT]at hH;refine Wg ?_;exact bJ rfl fun D' hD=>⟨3,s.yard,rfl,bT.err Ya1,yc,yq,ν7,ν8,rfl,I,h8⟩
   ·have hH:=hc3;simp only[bLV]at hH;refine aQ<|fD hbt Yf fun hap=>pW fun hnd=>?_;have hnu:=fE hap hnd;have hwbo:wb∉dC.mk [bt,wb]:=dC.out Yf;have hbto:bt∉dC.mk [bt,wb]:=dC.out Yf;refine aV (dC.mk [bt,wb]) 2 24 2097150<|Za rfl<|Za rfl<|Zal rfl<|Zj rfl iJ rfl<|bD rfl pD rfl Mm0 rfl Ym rfl bRD<|Za rfl<|aS rfl hn<|Wac ?_;refine Za rfl<|aS rfl hn<|j7 (cs:=[qI b,qI c,qI d]) rfl U265 aI wS rfl rfl rfl bRD<|iB (cs:=[qI a,qI b,qI c,qI d]) rfl aWZ DK rfl Yg rfl bRD<|Zt rfl U47 sG DK rfl (.cons rfl rfl .nil) fun b901 D901 hD901 hI=>Zab ([(wb,_)]++ν7++ν8) bBK<|xP [(wb,_)] ν8 bJC (⟨a,⟨b,c,d⟩⟩:C7.Ch) rfl U47 rfl rfl sG DK rfl aFL rfl rfl rfl I hI Yd Yq bRD fun v1 νx hx=>Zab ((wb,_)::(νx++ν8)) bBK.symm<|Zal rfl<|Zj rfl iJ rfl<|Zs (dR s pv cv hv lv mv bl bc v1 yq) rfl hx.cells1 XJ .head rfl hx.cell1<|Zan ?_;refine Wz ?_;exact bJ rfl fun D' hD=>⟨0,{s.yard with chairs:=s.yard.chairs++[(⟨a,⟨b,c,d⟩⟩:C7.Ch)]},rfl,bT.ok Ya1,v1,yq,νx,ν8,rfl,hx,h8⟩
 ·refine aA<|Zav rfl<|Zf rfl<|aF<|Zag rfl (fun hJ=>?_) (fun hJ=>?_)
  ·obtain rfl:=bMN hJ;obtain⟨hl,rfl⟩:=jO (k2:=3) (act2:=vT) hact rfl;obtain⟨a,b,c,rfl⟩:=aYP hl;obtain⟨bt,ot,ct,rfl⟩:=dF hn Yf;have hbt:=eS hn;have hE:=hr a Yf;have rB:=hr b Yf;have O:=hr c Yf;refine Za2<|Za2<|aV [] 7 15 248<|Za rfl<|aS rfl hn<|Za rfl<|Zal rfl<|Zj rfl iJ rfl<|Zo rfl pD rfl Mm0 rfl<|cG rfl U47 rfl I rfl rfl bRD<|jT rfl rfl rfl rfl bRD<|Za rfl ?_;refine' dQ 5 (s:=102) (p:=107) rfl (fun hg4=>?_) (fun hg4=>?_) ?_;rotate_left
   ·refine Zb rfl<|iS rfl U35 aI rfl hn rfl Yd rfl rfl ⟨_,rfl,rfl⟩ fun cs10 hr10 hcl10 hA10=>?_;obtain rfl:cs10=[qI _]:=hr10;refine Zi 0 rfl aH rfl hA10 rfl<|Wy ?_;exact aN 4
   ·refine Wf ?_;exact aN 4
   refine aF<|Zag rfl (fun hK=>?_) fun hK=>?_
   ·have hN:=hK;simp only[bMU,LT]at hN;refine Wg ?_;exact bJ rfl fun D' hD=>⟨7,s.yard,rfl,bT.err (bKO Yd Yd),yc,yq,ν7,ν8,rfl,I,h8⟩
   ·have hN:=hK;simp only[bNG,bLV]at hN;refine aQ<|bZ<|Za rfl<|aS rfl hn<|Zaq rfl<|aF<|Zag rfl (fun hO=>?_) (fun hO=>?_)
    ·have hP:=hO;simp only[LT]at hP;refine Wg ?_;exact bJ rfl fun D' hD=>⟨2,s.yard,rfl,bT.err (bJJ Yd Yd Yd),yc,yq,ν7,ν8,rfl,I,h8⟩
    ·have hP:=hO;simp only[bLV]at hP;refine aQ ?_;obtain⟨bx,cap,junk,rfl,hcap,rfl,hl1,hR⟩:=I.some Yd;obtain⟨x,hx⟩:=cR s.yard.chairs (a.toNat);refine aV [] 3 17 32752<|Za rfl<|Zal rfl<|Zj rfl iJ rfl<|Zo rfl pD rfl Mm0 rfl<|Za rfl<|aS rfl hn<|Za rfl<|aS rfl hn<|Za rfl<|aS rfl hn<|eP rfl U47 sG rfl rfl Yd Yd rfl bRD ?_;refine Zj rfl y0 rfl<|eX rfl U265 aI rfl rfl Yd Yd rfl bRD<|PP bJC (x2:={x with parts:=EL x.parts b.toNat c}) (k:=(1+b.toNat)) rfl rfl rfl rfl aI (.tail .head) hx Yd (aNL Yd) Yd bRD<|Zan<|Wz ?_;exact bJ rfl fun D' hD=>⟨0,{s.yard with chairs:=s.yard.chairs.set a.toNat {x with parts:=EL x.parts b.toNat c}},rfl,bT.ok (PR hx Yd Yd),_,yq,[(bx,_)],ν8,rfl,sI bJC bPR hcap hl1 hR,h8⟩
  ·refine aA<|Zav rfl<|Zf rfl<|aF<|Zag rfl (fun hS=>?_) (fun hS=>?_)
   ·obtain rfl:=bMN hS;obtain⟨hl,rfl⟩:=jO (k2:=1) (act2:=PM) hact rfl;obtain⟨a,rfl⟩:=zF hl;obtain⟨bt,ot,ct,rfl⟩:=dF hn Yf;have hbt:=eS hn;have hE:=hr a Yf;refine bZ<|Za rfl<|aS rfl hn<|Zaq rfl<|aF<|Zag rfl (fun hX=>?_) (fun hX=>?_)
    ·have hY:=hX;simp only[LT]at hY;refine Wg ?_;exact bJ rfl fun D' hD=>⟨2,s.yard,rfl,bT.err Xby,yc,yq,ν7,ν8,rfl,I,h8⟩
    ·have hY:=hX;simp only[bLV]at hY;refine aQ<|aP<|Za rfl<|Za rfl<|aS rfl hn<|Zal rfl<|Zj rfl N5 rfl<|cY (ws:=[pv,cv,qI s.row.wrong,qI s.row.off,qI s.table.last,hv,qI s.table.step,lv,mv,qI s.book.chairs,qI s.book.coin,qI s.book.box,bl,bc,yc,qI a,yq]) rfl rfl rfl rfl aI .head Yf rfl Yk bRD<|Zan<|Za3<|Zay<|aA ?_;refine We ?_;exact bJ rfl fun D' hD=>⟨0,{s.yard with fit:=a},rfl,bT.ok Xby,yc,yq,ν7,ν8,rfl,I,h8⟩
   ·refine aA<|Zav rfl<|Zf rfl<|aF<|Zag rfl (fun O=>?_) (fun O=>?_)
    ·obtain rfl:=bMN O;obtain⟨hl,rfl⟩:=jO (k2:=2) (act2:=C9) hact rfl;obtain⟨a,b,rfl⟩:=Y3 hl;obtain⟨bt,ot,ct,rfl⟩:=dF hn Yf;have hbt:=eS hn;have hE:=hr a Yf;have rB:=hr b Yf;refine Za2<|Za2<|aV [] 4 8 56<|Za rfl<|aS rfl hn<|Za rfl<|aS rfl hn<|Zd rfl (fun D1 hD1=>V5 _ _ _ _)<|Zas rfl<|aF<|Zag rfl (fun R=>?_) (fun R=>?_)
     ·have U:=R;simp only[bQI,bOQ,bLV]at U;refine Wg ?_;exact bJ rfl fun D' hD=>⟨2,s.yard,rfl,bT.err Ya4,yc,yq,ν7,ν8,rfl,I,h8⟩
     ·have U:=R;simp only[bLQ,bQH,LT]at U;refine aQ<|bZ<|Za rfl<|Zal rfl<|Zj rfl kT rfl<|Zo rfl xS rfl Mm0 rfl<|cG rfl U48 rfl h8 rfl rfl bRD<|Zap rfl<|aF<|Zag rfl (fun V=>?_) (fun V=>?_)
      ·have Y:=V;simp only[LT]at Y;refine Wg ?_;exact bJ rfl fun D' hD=>⟨3,s.yard,rfl,bT.err Ya4,yc,yq,ν7,ν8,rfl,I,h8⟩
      ·have Y:=V;simp only[bLV]at Y;refine aQ<|fD hbt Yf fun hap=>pW fun hnd=>?_;have hnu:=fE hap hnd;have hwbo:wb∉dC.mk [bt,wb]:=dC.out Yf;have hbto:bt∉dC.mk [bt,wb]:=dC.out Yf;refine aV (dC.mk [bt,wb]) 2 17 16382<|Za rfl<|Za rfl<|Zal rfl<|Zj rfl kT rfl<|bD rfl xS rfl Mm0 rfl Ym rfl bRD<|Za rfl<|aS rfl hn<|Za rfl<|aS rfl hn<|Zu [qI a,qI b] rfl aZQ CP rfl<|Zt rfl U48 xE CP rfl (.cons rfl rfl .nil) fun b902 D902 hD902 rA=>?_;refine Zab (([(wb,_)]++ν7)++ν8++[]) aIF<|xP ([(wb,_)]++ν7) [] bGR (a,b) rfl U48 rfl rfl xE CP rfl aEE rfl rfl rfl h8 rA Yd Yq bRD fun v1 νx hx=>Zab ((wb,_)::(ν7++νx)) aIF.symm<|Zal rfl<|Zj rfl kT rfl<|Zs (dR s pv cv hv lv mv bl bc yc v1) rfl hx.cells1 PU .head rfl hx.cell1<|Zan<|Wz ?_;exact bJ rfl fun D' hD=>⟨0,{s.yard with claims:=s.yard.claims++[(a,b)]},rfl,bT.ok Ya4,yc,v1,ν7,νx,rfl,I,hx⟩
    ·obtain rfl:=PA hact hw1 hw2 hw3 (bML hc1) (bML hJ) (bML hS) (bML O);obtain⟨hl,rfl⟩:=jO (k2:=1) (act2:=qH) hact rfl;obtain⟨a,rfl⟩:=zF hl;obtain⟨bt,ot,ct,rfl⟩:=dF hn Yf;have hbt:=eS hn;have hE:=hr a Yf;refine Za2<|Za2<|aV [] 5 9 248<|Za rfl<|aS rfl hn<|Za rfl<|Zal rfl<|Zj rfl kT rfl<|Zo rfl xS rfl Mm0 rfl<|cG rfl U48 rfl h8 rfl rfl bRD<|Wav ?_;refine Zag rfl (fun Z=>?_) (fun Z=>?_)
     ·have hB:=Z;simp only[LT]at hB;refine Wg ?_;exact bJ rfl fun D' hD=>⟨7,s.yard,rfl,bT.err Xcp,yc,yq,ν7,ν8,rfl,I,h8⟩
     ·have hB:=Z;simp only[bLV]at hB;refine aQ ?_;obtain⟨i,rfl⟩:∃i:Nat,a=(i:Int):=⟨a.toNat,Yd⟩
      have hi:i<s.yard.claims.length:=by omega
      obtain⟨bx,cap,junk,rfl,hcap,rfl,hl1,hR⟩:=h8.some Yd;refine fD hbt Yf fun hap=>pW fun hnd=>?_;have hnu:=fE hap hnd;have hwbo:wb∉dC.mk [bt,wb]:=dC.out Yf;have hbto:bt∉dC.mk [bt,wb]:=dC.out Yf;have hbx:bx∈dC.mk [bt,wb]:=dC.in_ (hnu (bx,_) (GT _ bLP));refine aV (dC.mk [bt,wb]) 2 22 524286<|Za rfl<|Za rfl<|Zal rfl<|Zj rfl kT rfl<|bD rfl xS rfl Mm0 rfl Ym rfl bRD<|Za rfl<|aS rfl hn<|AY (i:=i) rfl U48 xE rfl rfl Yd rfl bRD<|Za rfl<|Zal rfl<|Zj rfl kT rfl ?_;refine bD rfl xS rfl Mm0 rfl Ym rfl bRD<|Za rfl<|aS rfl hn<|Zae rfl<|BU (j:=i+1) rfl U48 xE rfl rfl Yd rfl bRD fun o ho=>aY (([(wb,_)]++ν7)++(bx,_)::[]) rfl<|OO ([(wb,_)]++ν7) [] bGR rfl U48 rfl rfl xE rfl rfl hi hcap ho hl1 hR Ybc bRD fun v1 νx hx=>Zab ((wb,_)::(ν7++νx)) bLN<|Zal rfl<|Zj rfl kT rfl<|Zs (dR s pv cv hv lv mv bl bc yc v1) rfl hx.cells1 PU .head rfl hx.cell1<|Zan ?_;refine Wz ?_;exact bJ rfl fun D' hD=>⟨0,{s.yard with claims:=s.yard.claims.eraseIdx i},rfl,bT.ok (by unfold qH;simp only[];rw[bLX Yd,bNI]),yc,v1,ν7,νx,rfl,I,hx⟩
theorem XV(sv:Γ)(s:aO)(D:aC)(hs:iD D sv s)(hk:lT s)(hg:jN s):Fn prog 82 #[sv] D (fun _ v=>v=qI (eI s)):=by
 obtain⟨pv,cv,hv,lv,mv,bl,bc,yc,yq,rfl,hL⟩:=hs;unfold dR;have hcl:=hk.cl;have hp5:2^s.yard.claims.length≤2^5:=bNQ Yd Yd;have Y:1≤2^s.yard.claims.length:=Nat.one_le_two_pow;refine Zw 40 func82 rfl fun h0=>aA<|Zy rfl fun q1 E1 rB I=>Zf rfl<|bG<|Zj rfl qW rfl<|dY rfl (k:=0) w0 L0 rfl I Yc rfl rfl n4 rfl bRD<|Zaa rfl (fun D1 Z=>L1.x6 _ s.row _ (hL.row.up (Z _ Yf)) (hg.rowOk hk)) fun v1 D1 Z Y=>?_;have hJ:=Y;refine Zah rfl U57 rfl hJ rfl<|Zap rfl<|aF<|Zaf rfl (fun hc1=>?_) fun hc1=>?_
 ·have R:C1.truths s.row=[]:=(bOL Yd)
  refine aA<|Wi ?_;exact aE rfl fun D hD=>by show Value.int _ _=_;rw[uK hk hg];unfold VN;rw[bMG R]
 ·have R:¬C1.truths s.row=[]:=fun e=>hc1 Xaf
  refine aQ<|bZ<|Zj rfl oD rfl<|dY rfl (k:=4) A3 vU rfl I Yc rfl rfl n4 rfl bRD<|Zaa rfl (fun D2 hB=>L2.ME _ s.table _ (hL.table.up (hB _ Yf)) (hg.t3 hk)) fun v2 D2 hB hK=>?_;have hN:=hK;refine Zah rfl U57 rfl hN rfl<|Zap rfl<|aF<|Zaf rfl (fun hc2=>?_) fun hc2=>?_
  ·have a2:C2.eZ s.table=[]:=(CO fun x=>t8 hk hg).1 (bOL Yd);refine aA<|Wi ?_;exact aE rfl fun D hD=>by show Value.int _ _=_;rw[uK hk hg];unfold VN;rw[bLX R,bMG a2]
  ·have a2:¬C2.eZ s.table=[]:=fun e=>hc2 (by rw[(CO fun x=>t8 hk hg).2 e];rfl)
   refine aQ<|bZ<|Zj rfl oD rfl<|dY rfl (k:=4) A3 vU rfl I Yc rfl rfl n4 rfl bRD<|Zaa rfl (fun D3 hE=>L2.W1 _ s.table _ (hL.table.up (hE _ Yf)) (hg.t3 hk)) fun v3 D3 hE hO=>?_;have hP:=hO;refine Zah rfl U57 rfl hP rfl<|Zap rfl<|aF<|Zaf rfl (fun hc3=>?_) fun hc3=>?_
   ·have a3:C2.bL s.table=[]:=(CO fun x=>FY hk hg).1 (bOL Yd);refine aA<|Wi ?_;exact aE rfl fun D hD=>by show Value.int _ _=_;rw[uK hk hg];unfold VN;rw[bLX R,bLX a2,bMG a3]
   ·have a3:¬C2.bL s.table=[]:=fun e=>hc3 (by rw[(CO fun x=>FY hk hg).2 e];rfl)
    refine aQ<|bZ<|Zj rfl sU rfl<|dY rfl (k:=9) zU vH rfl I Yc rfl rfl n4 rfl bRD<|Zd rfl (fun D4 hR=>L3.yV _ s.book 3 _ (hL.book.up (hR _ Yf)) hk.bc Yu)<|Wap ?_;refine' dQ 5 (s:=23) (p:=28) rfl (fun hS=>?_) (fun hS=>?_) ?_;rotate_left
    ·refine Zk rfl oN rfl<|dY rfl (k:=14) qD nW rfl I Yc rfl rfl n4 rfl ⟨_,rfl,rfl⟩<|Ze rfl (fun D5 hX=>L7.FQ _ s.yard _ (hL.yard.up (hX _ Yf)) (by have:=hk.ch;omega))<|Wy ?_;exact aN 4
    ·refine Wf ?_;exact aN 4
    refine aF<|Zag rfl (fun U=>?_) fun U=>?_
    ·have a4:4096<C3.tE 3 s.book.lines∨8<C7.dH s.yard.chairs:=by rw[FX hg.ln];have O:=U;simp only[bMU,LT]at O;omega
     refine aA<|Wi ?_;exact aE rfl fun D hD=>by show Value.int _ _=_;rw[uK hk hg];unfold VN;rw[bLX R,bLX a2,bLX a3,bMG a4]
    ·have a4:¬(4096<C3.tE 3 s.book.lines∨8<C7.dH s.yard.chairs):=by rw[FX hg.ln];have O:=U;simp only[bNG,bLV]at O;omega
     have hfy:C7.aX s.yard=0:=by rw[hg.fY hk];exact bLX Yd
     refine aQ<|aA<|Zj rfl oN rfl<|dY rfl (k:=14) qD nW rfl I Yc rfl rfl n4 rfl bRD<|Zaa rfl (fun D6 hF=>L7.YX _ s.yard _ (hL.yard.up (hF _ Yf)) hfy) fun v6 D6 hF hY=>?_;have hA:=hY;refine Zf rfl<|bW<|Za2<|bS [] 4 8 60<|Zj rfl oN rfl<|dY rfl (k:=14) qD nW rfl I Yc rfl rfl n4 rfl bRD<|Za rfl<|Zj rfl oN rfl<|dY rfl (k:=14) qD nW rfl I Yc rfl rfl n4 rfl bRD<|Zaa rfl (fun D7 hH=>L7.aWP _ s.yard _ (hL.yard.up (hH _ Yf)) Yd) fun v7 D7 hH rA=>?_;obtain rfl:=rA;rw[show((2^s.yard.claims.length:Nat):Int)-1=((2^s.yard.claims.length-1:Nat):Int) by omega];refine Zd rfl (fun D8 hI=>L7.bFZ _ _ s.yard (L7.aBC s.yard) (2^s.yard.claims.length-1) _ (hL.yard.up (hI _ Yf)) (hA.up RI.up (hI _ Yf)) hcl Yd)<|Zas rfl<|aF<|Zag rfl (fun V=>?_) fun V=>?_
     ·have a5:L7.dT s.yard []=[]:=by have O:=V;rw[SI hfy]at O;simpa using O
      refine aA<|Wi ?_;exact aE rfl fun D hD=>by show Value.int _ _=_;rw[uK hk hg];unfold VN;rw[bLX R,bLX a2,bLX a3,bLX a4,bMG a5]
     ·have a5:¬L7.dT s.yard []=[]:=by have O:=V;rw[SI hfy]at O;simpa using O
      refine aQ<|aA<|We ?_;exact aE rfl fun D hD=>by show Value.int _ _=_;rw[uK hk hg];unfold VN;rw[bLX R,bLX a2,bLX a3,bLX a4,bLX a5]
end L12
namespace C12
end C12
namespace L12
open C12 Go.Lib
section
variable{P:Program}{X:Cx}{γb:Type}[Membership Nat γb]{bad:γb}{all:Array Oper}{K:Act→Δ→Prop}{Q:Exit→Act→Δ→Prop}
variable{σ:bX}{μ:aD}{Ds:List aC}{os:List (Bool×Nat)}{fl:Bool}{ix d:Nat}{ty:Θ}{pos:String}{aft:Array Edge}{g:Option (Nat×Bool)}{v:Γ}
end
theorem WT(ls:List Λ):(gM ls).length=ls.length:=bNE _
theorem aJH(D:aC):Fn prog 27 #[] D (fun D' v=>iD D' v C6):=by
 refine Zw 17 func27 rfl fun h0=>aA<|Zad rfl J7 rfl fun q1=>aJ<|Zad rfl J7 rfl fun q2=>aJ<|Zt rfl U35 aI cO rfl (.cons rfl rfl (.cons rfl rfl (.cons rfl rfl (.cons rfl rfl .nil)))) fun V D901 Z I=>?_;have O:=Sl.ofInts (l:=[_,_,_,_]) (n:=4) (cap:=4) I rfl Yd Yd;refine Zu [qS V 4 4,qN,qI 0,qI 1] rfl bFQ bGL rfl<|Zj rfl qW rfl<|Zr rfl L0 ζ rfl<|aJ<|Zu [qI 5,qI 5] rfl P5 tM rfl<|Zu [qI 5,qI 5] rfl P5 tM rfl<|Zu [qI 5,qI 5] rfl P5 tM rfl<|Zu [qI 5,qI 5] rfl P5 tM rfl<|Zt rfl U39 mK tM rfl (.cons rfl rfl (.cons rfl rfl (.cons rfl rfl (.cons rfl rfl .nil)))) fun Y hE hB U=>Zu [qI 3,qS Y 4 4,qI 5,qN,qN] rfl bGA bGH rfl<|Zj rfl oD rfl<|Zr rfl vU ζ rfl ?_;refine aJ<|Zu [qI 3,qI 5,qI 20,qN,qN] rfl bGX bFH rfl<|Zj rfl sU rfl<|Zr rfl vH ζ rfl<|aJ<|Zu [qN,qI 1,qN] rfl bIG bIT rfl<|Zj rfl oN rfl<|Zr rfl nW ζ rfl<|aJ<|Zac rfl mZ rfl Mm0 gV<|bE rfl rfl rfl rfl gV Yb Yb (.tail ζ) Yk bRD<|aG ?_;exact Zq [_] rfl ⟨⟨_,_,_,rfl,Mm1,Or.inr ⟨mZ,gV,rfl⟩⟩,bRD⟩ fun D' hD=>⟨_,_,_,_,_,_,_,_,_,rfl,⟨O.up RI.up (hD _ Yf),Sl.nil,(nK (f:=cP) (R:=BL) (xs:=[(5,5),(5,5),(5,5),(5,5)]) (fun _ _=>rfl) (fun _=>rfl) (bLY ⟨_,4,rfl,Yu,U⟩) Yu).up BL.up (hD _ Yf),Sl.nil,Sl.nil,Sl.nil,Sl.nil,Sl.nil,Sl.nil⟩⟩
section
variable{G G':List Λ}{w:Λ}{act:eJ}{s s':aO}{ns:List Int}{e:Int}
theorem bT.neg(h:bT G w act s ns e s')(he:e<0):e= -1∧s'=s∧w∉G:=by
 rcases h with h|⟨h,_⟩|⟨h,_⟩
 ·exact h
 ·omega
 ·omega
theorem bT.add(h:bT G' w act s ns e s')(h0:w∉G):bT (G++G') w act s ns e s':=by
 rcases h with⟨h1,h2,h3⟩|h
 ·exact bMF ⟨h1,h2,fun hm=>(bMD.1 hm).elim h0 h3⟩
 ·exact bLY h
theorem bT.keep(h:bT G w act s ns e s')(he:¬e<0):bT G' w act s ns e s':=by
 rcases h with⟨h1,_⟩|h
 ·omega
 ·exact bLY h
theorem bT.zero(h:bT G w act s ns e s')(he:e=0):act s ns=.ok s':=by
 rcases h with⟨h,_⟩|⟨_,h⟩|⟨h,_⟩
 ·omega
 ·exact h
 ·omega
theorem bT.errs(h:bT [w] w act s ns e s')(he:¬e=0):act s ns=.error e:=by
 rcases h with⟨_,_,h⟩|⟨h,_⟩|⟨_,h⟩
 ·exact absurd bLP h
 ·omega
 ·exact h
end
theorem aOK{o:Option (List Int)}{b:Bool}{Q:List Int→Prop}(h:match o with|some ns=>b=true∧Q ns|none=>b=false)(hb:b=true):∃ns,o=some ns∧Q ns:=by
 cases o with
 |none=>rw[hb]at h;cases h
 |some ns=>exact⟨ns,rfl,h.2⟩
theorem YF{line:Λ}{ns:List Int}(h:iN line.data.toList=some ns):∃p0 ps act,eC line=p0::ps∧G6 p0 ns act∧jM line=some (act,ns):=by
 obtain⟨p0,ps,hc⟩:=pK line;rw[Z7 hc]at h;split at h
 ·rename_i hm;unfold T0 at hm;split at hm
  ·rename_i l k act hf;have hk:ps.length=k:=by omega
   have hl:ns.length=ps.length:=by have h8:=FF (ps:=gM ps) (by rw[X3];exact h);rwa [WT]at h8
   have e:l=p0.data.toList:=by have:=List.find?_some hf;simpa using this
   refine⟨p0,ps,act,hc,?_,o6 hc hf hk h⟩;unfold G6;rw[hf,e,hl,hk]
  ·omega
 ·cases h
theorem IJ{line:Λ}(h:iN line.data.toList=none):jM line=none:=by
 obtain⟨p0,ps,hc⟩:=pK line;rw[Z7 hc]at h;rw[uM hc];unfold T0 at h;split
 ·rfl
 ·rename_i l k act hf;rw[hf]at h;simp only at h;split
  ·rename_i hk;rw[bMG Yd]at h;rw[h];rfl
  ·rfl
theorem WY{line:Λ}{act:eJ}{n:List Int}{s I:aO}(h:jM line=some (act,n))(hk:lT s)(hg:jN s)(ha:act s n=.ok I):jN I:=by
 obtain⟨x,hx,rfl⟩:=FT h;exact GQ x hx s n I hk hg (H8 h) ha
theorem aAK{q:Nat}{s:aO}{nv:Γ}{w:Λ}{ns:List Int}{act:eJ}{ν:aD}{D:aC}(hn:Sl D RI 1 nv ns)(hact:G6 w ns act)(hr:∀x∈ns,0≤x∧x≤999)(hk:lT s)(hg:jN s)(h:pS aFW D q s ν):kF prog 78 [qP q,.string w,nv] D ν (fun D' v ν'=>∃(e:Int) (s':aO),v=qI e∧bT tO w act s ns e s'∧pS aFW D' q s' ν') (fun _=>False):=by
 obtain⟨pv,cv,hv,lv,mv,bl,bc,yc,yq,ν1,ν2,ν3,ν4,ν5,ν6,ν7,ν8,rfl,hO⟩:=h;refine kF.reorder ((aAM q s pv cv hv lv mv bl bc yc yq nv w ns act ν1 ν2 D hn hact hr hk hg hO.pl hO.ct).frameB (ν8++(ν7++(ν6++(ν5++(ν4++(ν3))))))) Yj ?_ fun _ h=>h;rintro D' v _ hle ⟨_,⟨e,r,rfl,hP,pv',cv',μ1,μ2,rfl,I,O⟩,rfl⟩;exact⟨_,Yy,e,_,rfl,hP,pv',cv',hv,lv,mv,bl,bc,yc,yq,μ1,μ2,ν3,ν4,ν5,ν6,ν7,ν8,rfl,⟨I,O,hO.ht,hO.lev,hO.mks,hO.ln,hO.cn.up vY.up hle,hO.ch,hO.cl⟩⟩
theorem aPN{q:Nat}{s:aO}{nv:Γ}{w:Λ}{ns:List Int}{act:eJ}{ν:aD}{D:aC}(hn:Sl D RI 1 nv ns)(hact:G6 w ns act)(hr:∀x∈ns,0≤x∧x≤999)(hk:lT s)(hg:jN s)(h:pS aFW D q s ν):kF prog 79 [.pointer (some ⟨q,4,none⟩),.string w,nv] D ν (fun D' v ν'=>∃(e:Int) (s':aO),v=qI e∧bT j8 w act s ns e s'∧pS aFW D' q s' ν') (fun _=>False):=by
 obtain⟨pv,cv,hv,lv,mv,bl,bc,yc,yq,ν1,ν2,ν3,ν4,ν5,ν6,ν7,ν8,rfl,hO⟩:=h;refine kF.reorder ((aRE q s pv cv hv lv mv bl bc yc yq nv w ns act ν3 ν4 ν5 D hn hact hr hk hg hO.ht hO.lev hO.mks).frameB (ν8++(ν7++(ν6++(ν2++(ν1)))))) Yj ?_ fun _ h=>h;rintro D' v _ hle ⟨_,⟨e,r,rfl,hP,hv',lv',mv',μ3,μ4,μ5,rfl,I,O,R⟩,rfl⟩;exact⟨_,Yw,e,_,rfl,hP,pv,cv,hv',lv',mv',bl,bc,yc,yq,ν1,ν2,μ3,μ4,μ5,ν6,ν7,ν8,rfl,⟨hO.pl,hO.ct,I,O,R,hO.ln,hO.cn.up vY.up hle,hO.ch,hO.cl⟩⟩
theorem aHX{q:Nat}{s:aO}{nv:Γ}{w:Λ}{ns:List Int}{act:eJ}{ν:aD}{D:aC}(hn:Sl D RI 1 nv ns)(hact:G6 w ns act)(hr:∀x∈ns,0≤x∧x≤999)(hk:lT s)(hg:jN s)(h:pS aFW D q s ν):kF prog 80 [.pointer (some ⟨q,9,none⟩),.string w,nv] D ν (fun D' v ν'=>∃(e:Int) (s':aO),v=qI e∧bT I0 w act s ns e s'∧pS aFW D' q s' ν') (fun _=>False):=by
 obtain⟨pv,cv,hv,lv,mv,bl,bc,yc,yq,ν1,ν2,ν3,ν4,ν5,ν6,ν7,ν8,rfl,hO⟩:=h;refine kF.reorder ((aKR q s pv cv hv lv mv bl bc yc yq nv w ns act ν6 D hn hact hr hk hg hO.ln).frameB (ν8++(ν7++(ν5++(ν4++(ν3++(ν2++(ν1)))))))) Yj ?_ fun _ h=>h;rintro D' v _ hle ⟨_,⟨e,r,rfl,hP,bl',μ6,rfl,I,hcq⟩,rfl⟩;exact⟨_,Yah,e,_,rfl,hP,pv,cv,hv,lv,mv,bl',bc,yc,yq,ν1,ν2,ν3,ν4,ν5,μ6,ν7,ν8,rfl,⟨hO.pl,hO.ct,hO.ht,hO.lev,hO.mks,I,by show Sl D' vY 3 bc r.counts;rw[hcq];exact hO.cn.up vY.up hle,hO.ch,hO.cl⟩⟩
theorem aGZ{q:Nat}{s:aO}{nv:Γ}{w:Λ}{ns:List Int}{act:eJ}{ν:aD}{D:aC}(hn:Sl D RI 1 nv ns)(hact:G6 w ns act)(I:w∉tO)(O:w∉j8)(R:w∉I0)(hr:∀x∈ns,0≤x∧x≤999)(hk:lT s)(hg:jN s)(h:pS aFW D q s ν):kF prog 81 [.pointer (some ⟨q,14,none⟩),.string w,nv] D ν (fun D' v ν'=>∃(e:Int) (s':aO),v=qI e∧bT [w] w act s ns e s'∧pS aFW D' q s' ν') (fun _=>False):=by
 obtain⟨pv,cv,hv,lv,mv,bl,bc,yc,yq,ν1,ν2,ν3,ν4,ν5,ν6,ν7,ν8,rfl,hO⟩:=h;refine kF.reorder ((aHP q s pv cv hv lv mv bl bc yc yq nv w ns act ν7 ν8 D hn hact I O R hr hk hg hO.ch hO.cl).frameB (ν6++(ν5++(ν4++(ν3++(ν2++(ν1))))))) Yj ?_ fun _ h=>h;rintro D' v _ hle ⟨_,⟨e,r,rfl,hP,yc',yq',μ7,μ8,rfl,U,V⟩,rfl⟩;exact⟨_,Yag,e,_,rfl,hP,pv,cv,hv,lv,mv,bl,bc,yc',yq',ν1,ν2,ν3,ν4,ν5,ν6,μ7,μ8,rfl,⟨hO.pl,hO.ct,hO.ht,hO.lev,hO.mks,hO.ln,hO.cn.up vY.up hle,U,V⟩⟩
theorem bHW(sv:Γ)(s:aO)(line:Λ)(D:aC)(hs:iD D sv s)(hk:lT s)(hg:jN s)(hl:line.size≤1000):Fn prog 28 #[sv,.string line] D (fun D' v=>∃v1,v=.tuple #[v1,qI (zM s line).2]∧iD D' v1 (zM s line).1):=by
 have hs0:=hs;obtain⟨pv,cv,hv,lv,mv,bl,bc,yc,yq,rfl,hL⟩:=hs;unfold dR;refine Zw 56 func28 rfl fun h0=>aA<|Zy rfl fun q1 E1 hE1 Z=>Zad rfl J7 rfl fun O=>Zf rfl<|aJ<|Za rfl<|Zaa rfl (fun D1 hD1=>AZ line hl _) fun v1 D1 hD1 hp1=>?_;obtain⟨nv,nb,rfl,hm⟩:=hp1;refine Za rfl<|Zao rfl<|Zao rfl<|Zf rfl<|Zf rfl<|bG<|Za rfl<|Zas rfl<|aF<|Zag rfl (fun hc1=>?_) fun hc1=>?_
 ·have hnone:=KW Xbe hm;refine aA<|Zv rfl mZ rfl Z gV<|bE rfl rfl rfl rfl gV Yb Yb ζ (gE hL) bRD<|Wi ?_;exact Zq [_,_] rfl ⟨⟨_,_,_,rfl,Mm0,Or.inr ⟨mZ,gV,rfl⟩⟩,rfl,bRD⟩ fun D' hD=>Q7 (PC (IJ hnone)) ⟨pv,cv,hv,lv,mv,bl,bc,yc,yq,rfl,hL.up (hD _ Yf)⟩
 ·obtain⟨ns,hns,hnS⟩:=aOK hm Xbe;obtain⟨p0,ps,act,hcut,hfw,hpa⟩:=YF hns;have hr:=H8 hpa;have hp0:(eC line)[0]?= some p0:=by rw[hcut];rfl
  have hcl:=O1 line;refine aQ<|aA<|Zv rfl mZ rfl Z gV<|gI rfl rfl rfl (fun D20 hJ=>aAU _ s _ (hs0.up (hJ _ Yf)) hk.small) rfl bRD fun v20 D21 νC hD21 hw=>?_;obtain⟨cs,νD,νz,rfl,rfl,hK,hcc,hown⟩:=hw;refine Zad rfl J7 rfl fun q3=>bE rfl rfl rfl rfl gV hK Ybb .head hcc bRD<|bW<|KP (((q3,qC cs 52)::νD)++(νz++[(O,_)])) bKX ?_;have hO:=hown q3;generalize (q3,Obj.cells cs.toArray 52 (0,0))::νD=νW at hO ⊢
  refine bIV (List.Sublist.append Mm5 (List.sublist_append_right _ _))<|aP<|Za rfl<|Zaa rfl (fun D2 hD2=>p8 line hl _) fun v2 D2 hD2 hp2=>?_;have hwd:=hp2;refine Zx rfl U22 kZ rfl hwd rfl hp0 fun b1 o1 cs1 hr1 hcl1 hA1=>?_;obtain rfl:cs1=[.string _]:=hr1;refine Zh 0 rfl wQ rfl hA1 rfl<|Zf rfl<|aJ<|Zj rfl qW rfl<|Za rfl<|Za rfl<|Zm [] [(O,_)] νW rfl (b7 hO) (fun D30 R=>aAK (hnS.up RI.up (R _ Yf)) hfw hr hk hg (hO.up (R _ Yf))) (fun _ _ _ h=>h.elim) fun v30 D31 hN R hR=>?_;obtain⟨e,I,rfl,hP,hO⟩:=hR;refine Zf rfl<|aF<|ZD (γ:=Int×aO×aD×aC) (fun g=>pS aFW g.2.2.2 q3 g.2.1 g.2.2.1∧bT (tO++j8) p0 act s ns g.1 g.2.1) (fun g=>[(10,qI g.1),(9,.string p0),(6,nv),(8,qP q3),(4,qP O),(2,qP q1)]) (fun g=>g.2.2.1++[(O,qC [qN,qN,qI 0,qI 0,qI 0,qN,qI 0,qN,qN,qI 0,qI 0,qI 0,qN,qN,qN,qI 0,qN] 52)]) (fun g=>[g.2.2.2,D1,E1,D]) ?_ ?_
  ·refine aA<|Za rfl<|Zam rfl<|aF<|Zaf rfl (fun hc2=>?_) (fun hc2=>?_)
   ·obtain⟨he2,hs2,hn2⟩:=hP.neg hc2;rw[hs2]at hO;refine aP<|Zj rfl oD rfl<|Za rfl<|Za rfl<|Zm [] [(O,_)] hN rfl (b7 hO) (fun D40 U=>aPN (hnS.up RI.up (U _ Yf)) hfw hr hk hg (hO.up (U _ Yf))) (fun _ _ _ h=>h.elim) fun v40 D41 ν40 U hS=>?_;obtain⟨e,I,rfl,hP,hO⟩:=hS;refine Zf rfl<|Zan<|R3 ?_;exact fun a w hh=>⟨(e,I,ν40,D41),⟨hO,hP.add hn2⟩,hh.weak bQ Mm5 Yp⟩
   ·refine bH<|R3 ?_;exact fun a w hh=>⟨(e,I,hN,D31),⟨hO,hP.keep hc2⟩,hh.weak bQ Mm5 Yp⟩
  rintro⟨e,I,ν,Dn⟩ ⟨hO,hP⟩;dsimp only at hO hP ⊢
  refine ZD (γ:=Int×aO×aD×aC) (fun g=>pS aFW g.2.2.2 q3 g.2.1 g.2.2.1∧bT ((tO++j8)++I0) p0 act s ns g.1 g.2.1) (fun g=>[(10,qI g.1),(9,.string p0),(6,nv),(8,qP q3),(4,qP O),(2,qP q1)]) (fun g=>g.2.2.1++[(O,qC [qN,qN,qI 0,qI 0,qI 0,qN,qI 0,qN,qN,qI 0,qI 0,qI 0,qN,qN,qN,qI 0,qN] 52)]) (fun g=>[g.2.2.2,D1,E1,D]) ?_ ?_
  ·refine aA<|Za rfl<|Zam rfl<|aF<|Zaf rfl (fun hc3=>?_) (fun hc3=>?_)
   ·obtain⟨he3,hs3,hn3⟩:=hP.neg hc3;rw[hs3]at hO;refine aP<|Zj rfl sU rfl<|Za rfl<|Za rfl<|Zm [] [(O,_)] ν rfl (b7 hO) (fun D50 V=>aHX (hnS.up RI.up (V _ Yf)) hfw hr hk hg (hO.up (V _ Yf))) (fun _ _ _ h=>h.elim) fun v50 D51 ν50 V hX=>?_;obtain⟨e,I,rfl,hP,hO⟩:=hX;refine Zf rfl<|Zan<|R3 ?_;exact fun a w hh=>⟨(e,I,ν50,D51),⟨hO,hP.add hn3⟩,hh.weak bQ Mm5 Yp⟩
   ·refine bH<|R3 ?_;exact fun a w hh=>⟨(e,I,ν,Dn),⟨hO,hP.keep hc3⟩,hh.weak bQ Mm5 Yp⟩
  rintro⟨e,I,ν,Dn⟩ ⟨hO,hP⟩;dsimp only at hO hP ⊢
  refine ZD (γ:=Int×aO×aD×aC) (fun g=>pS aFW g.2.2.2 q3 g.2.1 g.2.2.1∧bT [p0] p0 act s ns g.1 g.2.1) (fun g=>[(10,qI g.1),(9,.string p0),(6,nv),(8,qP q3),(4,qP O),(2,qP q1)]) (fun g=>g.2.2.1++[(O,qC [qN,qN,qI 0,qI 0,qI 0,qN,qI 0,qN,qN,qI 0,qI 0,qI 0,qN,qN,qN,qI 0,qN] 52)]) (fun g=>[g.2.2.2,D1,E1,D]) ?_ ?_
  ·refine aA<|Za rfl<|Zam rfl<|aF<|Zaf rfl (fun hF=>?_) (fun hF=>?_)
   ·obtain⟨he4,hs4,hB⟩:=hP.neg hF;rw[hs4]at hO;simp only[bMD,bQX]at hB;refine aP<|Zj rfl oN rfl<|Za rfl<|Za rfl<|Zm [] [(O,_)] ν rfl (b7 hO) (fun D60 Y=>aGZ (hnS.up RI.up (Y _ Yf)) hfw hB.1.1 hB.1.2 hB.2 hr hk hg (hO.up (Y _ Yf))) (fun _ _ _ h=>h.elim) fun v60 D61 ν60 Y hY=>?_;obtain⟨e,I,rfl,hP,hO⟩:=hY;refine Zf rfl<|Zan<|R3 ?_;exact fun a w hh=>⟨(e,I,ν60,D61),⟨hO,hP⟩,hh.weak bQ Mm5 Yp⟩
   ·refine bH<|R3 ?_;exact fun a w hh=>⟨(e,I,ν,Dn),⟨hO,hP.keep hF⟩,hh.weak bQ Mm5 Yp⟩
  rintro⟨e,I,ν,Dn⟩ ⟨hO,hP⟩;dsimp only at hO hP ⊢
  refine bZ<|Za rfl<|Zap rfl<|aF<|Zaf rfl (fun hE=>?_) fun hE=>?_
  ·have hact:=hP.zero hE;have rA:=EQ hpa hk hact;have hg2:=WY hpa hk hg hact;refine BG (T:=aFW) (B:=[(_,_)]) hO rfl Yf rA.small fun D9 rB cv2 hv2 lv2 mv2 bl2 bc2 yc2 yq2 hD9 hH=>?_;unfold dR;refine aP<|Zac rfl mZ rfl Mm0 gV<|Zd rfl (fun D3 hD3=>XV _ I _ ⟨rB,cv2,hv2,lv2,mv2,bl2,bc2,yc2,yq2,rfl,hH.up (hD3 _ Yf)⟩ rA hg2)<|Zf rfl<|bG<|Za rfl<|Zaw rfl<|aF<|Zaf rfl (fun hI=>?_) (fun hI=>?_)
   ·refine aA<|Zv rfl mZ rfl Z gV<|Za rfl<|bE rfl rfl rfl rfl gV Yb Yb (.tail ζ) (gE hL) bRD<|Wi ?_;exact Zq [_,_] rfl ⟨⟨_,_,_,rfl,Mm1,Or.inr ⟨mZ,gV,rfl⟩⟩,rfl,bRD⟩ fun D' hD=>Q7 (aTD hpa hact hI) ⟨pv,cv,hv,lv,mv,bl,bc,yc,yq,rfl,hL.up (hD _ Yf)⟩
   ·refine aQ<|aA<|Zac rfl mZ rfl Mm0 gV<|bE rfl rfl rfl rfl gV Yb Yb (.tail ζ) (gE hH) bRD<|We ?_;exact Zq [_,_] rfl ⟨⟨_,_,_,rfl,Mm1,Or.inr ⟨mZ,gV,rfl⟩⟩,rfl,bRD⟩ fun D' hD=>Q7 (aCI hpa hact (bQD.1 hI)) ⟨rB,cv2,hv2,lv2,mv2,bl2,bc2,yc2,yq2,rfl,hH.up (hD _ Yf)⟩
  ·refine aQ<|bZ<|Za rfl<|Zaw rfl<|aF<|Zaf rfl (fun hc7=>?_) (fun hc7=>?_)
   ·refine aA<|Zv rfl mZ rfl Z gV<|Za rfl<|bE rfl rfl rfl rfl gV Yb Yb (.app ζ) (gE hL) bRD<|Wi ?_;exact Zq [_,_] rfl ⟨⟨_,_,_,rfl,(GT _ Mm0),Or.inr ⟨mZ,gV,rfl⟩⟩,rfl,bRD⟩ fun D' hD=>Q7 (aST hpa (hP.errs hE)) ⟨pv,cv,hv,lv,mv,bl,bc,yc,yq,rfl,hL.up (hD _ Yf)⟩
   ·exact(hc7 hE).elim
theorem aQT(lv:Γ)(ls:List Λ)(D:aC)(hS:Sl D RS 1 lv ls)(hn:ls.length≤1000)(hsz:∀l∈ls,l.size≤1000):Fn prog 12 #[lv] D (fun D' v=>∃R v2,v=.tuple #[R,v2]∧iD D' R (cJ ls).1∧Sl D' RI 1 v2 (cJ ls).2):=by
 refine Zw 30 func12 rfl fun h0=>aA<|Zad rfl J7 rfl fun q1=>Zf rfl<|aJ<|Zaa rfl (fun D1 Y=>aJH _) fun R D1 Y Z=>?_;obtain⟨pv,cv,hv,O,mv,bl,bc,yc,yq,rfl,hL⟩:=Z;unfold dR;refine Zad rfl J7 rfl (fun q2=>bE rfl rfl rfl rfl gV Yb Yb ζ (gE hL) bRD<|aJ<|Zf rfl<|bG<|Zf rfl<|aF<|Za0<|fZ (γ:=bEI) (fun g=>ls.length-g.k) (fun g=>g.k≤ls.length∧cJ (ls.take g.k)=(g.s,g.es)∧g.es.length=g.k∧bM 3 1 g.v g.k (ints g.es) g.ν∧jR g.Dn g.s g.pv g.cv g.hv g.lv g.mv g.bl g.bc g.yc g.yq∧(lT g.s∧jN g.s)) (fun g=>[(6,qI (g.k:Int)),(5,g.v)]) [(4,_),(3,_),(2,_),(0,_)] (fun g=>g.ν++[(q2,qC (dR g.s g.pv g.cv g.hv g.lv g.mv g.bl g.bc g.yc g.yq) 52),(q1,qC [qN,qN,qI 0,qI 0,qI 0,qN,qI 0,qN,qN,qI 0,qI 0,qI 0,qN,qN,qN,qI 0,qN] 52)]) (fun g=>[g.Dn,D]) ⟨0,C6,[],pv,cv,hv,O,mv,bl,bc,yc,yq,qN,[],D1⟩ ⟨Yf,by simp[cJ],rfl,Xaj,hL,A7,DT⟩ ⟨Ya,Ya,bRD⟩ bQ Mm5 (Yal) ?_);rintro⟨k,s,es,pv,cv,hv,lv,mv,bl,bc,yc,yq,v,ν,Dn⟩ ⟨h1,hp,h3,ha,hL,hk⟩;simp only at h1 hp h3 ha hL hk;refine bZ<|Za rfl<|Za rfl<|Zah rfl U22 rfl hS rfl<|Zam rfl<|aF<|Zaf rfl (fun hc1=>?_) fun hc1=>?_
 ·simp only at hc1;have hlt:k<ls.length:=by omega
  obtain⟨x,hx⟩:=cR ls k;refine aQ<|Za2<|Za0<|aA<|Zf rfl<|bW<|bS [] 4 11 30<|Zac rfl mZ rfl (GT _ Mm0) gV<|Za rfl<|Za rfl<|Zx rfl U22 kZ rfl (hS.up RS.up (Le.refl _)) rfl hx fun b1 o1 hB hE hcl1 hF=>?_;obtain rfl:hB=[.string _]:=hE;refine Zh 0 rfl wQ rfl hF rfl<|Zaa rfl (fun D2 U=>bHW _ s x _ ⟨pv,cv,hv,lv,mv,bl,bc,yc,yq,rfl,hL.up (U _ Yf)⟩ hk.1 hk.2 (hsz x (n5 hx))) fun v2 D2 U hH=>?_;obtain⟨w1,rfl,hI,hJ,hK,O,hN,hO,hP,hR,hX,rfl,V⟩:=hH;have hY:=And.intro (OZ hk.1 x) (aEU hk.1 hk.2 x);unfold dR;refine Za rfl<|Zao rfl<|Zao rfl<|bE rfl rfl rfl rfl gV Yb Yb (.app ζ) (gE V) bRD<|Zf rfl<|aF<|aP<|Za rfl<|Za rfl<|Zt rfl U35 aI cO rfl (.cons rfl rfl .nil) fun b901 D901 rA I=>?_;have rB:=Sl.ofInts (l:=[_]) (n:=1) (cap:=1) I rfl Yd Yd;refine aU (A:=[]) (B:=[(_,_),(_,_)]) rfl U35 rfl rfl aI cO rfl kD rfl rfl rfl ha (lD.lit I) Yf rfl (by simp[ints,h3]) Yk Yd (bMF rfl) rfl bRD fun R ν1 ha1=>?_;have ha2:bM 3 1 R (k+1) (ints (es++[(zM s x).2])) ν1:=by rw[←eV];exact ha1
  refine Wt ?_;exact aL 25 ⟨k+1,(zM s x).1,es++[(zM s x).2],hI,hJ,hK,O,hN,hO,hP,hR,hX,R,ν1,D2⟩ ⟨Yn,by simp only;rw[ED hx,hp],by simp[h3],ha2,V,hY⟩ Yn ⟨Ya,Ya,bRD⟩ rfl rfl Mm5 (Yal)
 ·obtain rfl:k=ls.length:=by simp only at hc1;omega
  rw[bMP]at hp;refine Za5<|Za1<|Za1<|Za6<|Zay<|aA<|Zac rfl mZ rfl (GT _ Mm0) gV<|Za rfl<|bE rfl rfl rfl rfl gV Yb Yb (.app (.tail ζ)) (gE hL) bRD<|Zf rfl<|aG<|dU (A:=[]) (B:=[(_,_),(_,_)]) ha rfl fun D9 hD9 hF9=>?_;have hes:=hF9.ints (l:=es) h3 Yd;exact Zq [_,_] rfl ⟨⟨_,_,_,rfl,bMJ _ Mm0,bLY ⟨mZ,gV,rfl⟩⟩,rfl,bRD⟩ fun D hD=>⟨_,_,rfl,Xdd,by rw[hp];exact hes.up RI.up (hD _ Yf)⟩
end L12
namespace L3
open L1
open C3
theorem UN{x:bA}{t:List cB}(hlen:t.length=x.lines.length)(hr:∀(i:Nat) l z,t[i]?= some l→x.lines[i]?= some z→l∈cK x.chairs z)(hc:∀(i:Nat) l,t[i]?= some l→jZ (p4 x t i) l=true)(hk:∀i:Nat,i≤t.length→fU x (p4 x t i) i=true):
  ∀(j i:Nat),i+j=t.length→(t.drop i,(List.range (j+1)).map fun m=>p4 x t (i+m))∈tL x (x.lines.drop i) i (p4 x t i)
 |0,i,h=>by
  rw[bNK Yd,bNK Yd];unfold tL;rw[bMG (hk i Yd)]
  simp
 |j+1,i,h=>by
  obtain⟨l,hl⟩:=cR t i;obtain⟨z,hz⟩:=cR x.lines i;have I:t.drop i=l::t.drop (i+1):=by rw[bNC Yd];congr 1;exact bMQ ((bLR Yd).symm.trans hl)
  have O:x.lines.drop i=z::x.lines.drop (i+1):=by rw[bNC Yd];congr 1;exact bMQ ((bLR Yd).symm.trans hz)
  have ih:=UN hlen hr hc hk j (i+1) Yd;rw[←aRW hl]at ih;rw[I,O];unfold tL;rw[bMG (hk i Yd)]
  refine bPE.2 ⟨l,hr i l z hl hz,?_⟩;rw[bMG (hc i l hl)];refine GE.2 ⟨_,ih,?_⟩;have R:(List.range (j+1+1)).map (fun m=>p4 x t (i+m))=p4 x t i::(List.range (j+1)).map fun m=>p4 x t (i+1+m):=by
   rw[List.range_succ_eq_map,bMT,bQC,bRC];congr 1;exact bQN fun m _=>by simp only[Function.comp];rw[show i+(m+1)=i+1+m by omega]
  rw[R]
theorem bHA{α:Type}{R:Rd α}{D:aC}{sz i:Nat}{v:Γ}{xs:List α}{x:α}(h:Sl D R sz v xs)(hx:xs[i]?= some x):∃b o c cs,v=.slice (some ⟨b,o,none⟩) xs.length c∧R D x cs∧cs.length=sz∧At D b (o+i*sz) cs:=by
 obtain⟨a,cap,rfl,h1,h2,h3⟩:=h;rcases h3 with rfl|⟨b,o,rfl,h3⟩
 ·simp at hx
 ·obtain⟨cs,hr,hc,hA⟩:=h3 _ _ hx;exact⟨b,o,cap,cs,rfl,hr,hc,hA⟩
theorem bII{b:Nat}{ν B:aD}(h:b∉(ν++B).ks){q:Nat×Obj}(hq:q∈ν):q.1∉[b]:=fun hm=>h (GE.2 ⟨q,bMA _ hq,Xau⟩)
def bFT:Rd (List cB):=fun D l cs=>∃v,cs=[v]∧Sl D kE 3 v l
theorem bFT.up:bFT.Up:=fun hl _ _ ⟨v,hc,hs⟩=>⟨v,hc,hs.up kE.up hl⟩
def aJF(D:aC)(vs:List Γ)(ts:List (List cB)):Prop:=vs.length=ts.length∧∀(i:Nat) (v:Γ) (t:List cB),vs[i]?= some v→ts[i]?= some t→Sl D kE 3 v t
section
variable{D D':aC}{vs:List Γ}{ts:List (List cB)}{v:Γ}{t:List cB}
theorem aJF.nil:aJF D [] []:=⟨rfl,fun i v t h _=>Xad⟩
theorem aJF.len(h:aJF D vs ts):vs.length=ts.length:=h.1
theorem aJF.up(h:aJF D vs ts)(hl:Le D D'):aJF D' vs ts:=⟨h.1,fun i v t hv ht=>(h.2 i v t hv ht).up kE.up hl⟩
theorem aJF.snoc(h:aJF D vs ts)(hv:Sl D kE 3 v t):aJF D (vs++[v]) (ts++[t]):=by
 refine⟨by simp[h.1],fun i u s hu hs=>?_⟩;by_cases hi:i<vs.length
 ·rw[bNX hi]at hu;rw[bNX (by rw[←h.1];exact hi)]at hs
  exact h.2 i u s hu hs
 ·have h1:=(bLS.1 hu).1;simp only[bLT,bOD]at h1;obtain rfl:i=vs.length:=by omega
  rw[bOV (bMH _)]at hu;rw[bOV (by rw[h.1];exact bMH _),h.1]at hs
  simp at hu hs;subst hu hs;exact hv
theorem _root_.Go.Fs.kH.llists(hF:kH D' v vs.length vs)(h:aJF D vs ts)(hl:Le D D')(hb:ts.length≤9223372036854775807):Sl D' bFT 1 v ts:=
 hF.sl h.1.symm (by rw[h.1];exact hb) fun i t hi=>by
  have hlt:=(bLS.1 hi).1;have hv:vs[i]?= some (vs[i]'(by rw[h.1];exact hlt)):=bLR _
  refine⟨_,⟨_,rfl,(h.2 i _ t hv hi).up kE.up hl⟩,rfl,?_⟩;rw[bNY,bNC (by rw[h.1];exact hlt)];rfl
end
def TC(n:Nat)(l:cB):Nat:=(xW n l 2).length
def wA(n:Nat):List cB→Nat→List cB
 | [],_=>[]
 |l::ls,k=>((xW n l 2)[k%(xW n l 2).length]?).toList++wA n ls (k / (xW n l 2).length)
theorem aJQ{n:Nat}{ls:List cB}{k p:Nat}{x:cB}(h:ls[k]?= some x):wA n (ls.drop k) p=((xW n x 2)[p%(xW n x 2).length]?).toList++wA n (ls.drop (k+1)) (p / (xW n x 2).length):=by
 obtain⟨hk,rfl⟩:=bLS.1 h;rw[bNC hk];rfl
theorem RG(n:Nat):∀(ls:List cB) (k:Nat),(wA n ls k).length≤ls.length
 | [],_=>bMH _
 |l::ls,k=>by
  have:=RG n ls (k / (xW n l 2).length);rw[wA,bLT,bLU];have:(((xW n l 2)[k%(xW n l 2).length]?).toList).length≤1:=by cases(xW n l 2)[k%(xW n l 2).length]? <;>simp
  omega
def qO(n:Nat)(ls:List cB)(k:Nat):List (List cB):=((List.range k).map (wA n ls)).filter fun t=>sV t t.length
def iQ(n:Nat)(ls:List cB):List (List cB):=qO n ls (oE n ls).toNat
section
variable{n k:Nat}{ls:List cB}
theorem QX(n:Nat)(ls:List cB)(k:Nat):(qO n ls k).length≤k:=by
 have:=bNF (fun t=>sV t t.length) ((List.range k).map (wA n ls));rw[bNE,bPQ]at this;exact this
theorem RH(h:sV (wA n ls k) (wA n ls k).length=true):qO n ls (k+1)=qO n ls k++[wA n ls k]:=by
 unfold qO;rw[bND,bME,bMY,bPA,bOA,bMG h];rfl
theorem XD(h:sV (wA n ls k) (wA n ls k).length=false):qO n ls (k+1)=qO n ls k:=by
 unfold qO;rw[bND,bME,bMY,bPA,bOA,bLX Ybh];simp
end
theorem ON(bv:Γ)(b:bA)(n m:Nat)(D:aC)(hb:gD D bv b)(hn:b.chairs=(n:Int))(h4:n≤4)(hm:m≤100000)(h1:∀l∈b.lines,1≤TC n l)(h8:b.lines.length≤100):Fn prog 35 #[bv,qI (m:Int)] D (fun D' v=>Sl D' kE 3 v (wA n b.lines m)):=by
 have V:=hb;obtain⟨lv,cv,rfl,hl,hc⟩:=hb;have hll:=hl.len;refine Zw 37 func35 rfl fun h0=>aA<|Zy rfl fun q1 E1 hR I=>Zf rfl<|aJ<|Zf rfl<|bG<|Zf rfl<|aF<|Za0<|Zc (Nat×List cB×Nat×Γ×aD) (fun g=>b.lines.length-g.1) (fun g=>g.1≤b.lines.length∧g.2.1.length=g.1∧g.2.2.1≤100000∧wA n b.lines m=g.2.1++wA n (b.lines.drop g.1) g.2.2.1∧bM 184 3 g.2.2.2.1 g.1 (uC g.2.1) g.2.2.2.2) (fun g=>[(6,qI (g.1:Int)),(5,g.2.2.2.1),(1,qI (g.2.2.1:Int))]) [(4,_),(2,_)] (fun g=>g.2.2.2.2++[]) (fun g=>[E1,D]) (0,[],m,qN,[]) ⟨Yf,rfl,hm,rfl,bM.nil⟩ ⟨Ya,Ya,Ya,bRD⟩ Mm5 ?_;rintro⟨k,out,p,v,ν⟩ ⟨h0x,h2,h3,h5,ha⟩;simp only at h0x h2 h3 h5 ha;refine bZ<|Za rfl<|Zj rfl gF rfl<|Zh 3 rfl nB rfl I rfl<|Zah rfl U43 rfl hl rfl<|Zam rfl<|aF<|Zaf rfl (fun hc1=>?_) fun hc1=>?_
 ·simp only at hc1;have hk:k<b.lines.length:=by omega
  obtain⟨x,hx⟩:=cR b.lines k;have hsz:=h1 x (n5 hx);unfold TC at hsz;have Y:=CK (l:=x) (k:=2) h4;refine aQ<|Za2<|Za0<|Za2<|bS [] 4 8 62<|Zv rfl zU rfl I vH<|Zj rfl gF rfl<|Zh 3 rfl nB rfl I rfl<|Za rfl<|Zx rfl U43 eQ rfl hl rfl hx fun b1 o1 Z hB hO hE=>?_;obtain rfl:Z=[qI _,qI _,qI _]:=hB;refine Zv rfl DJ rfl hE eQ<|Zaa rfl (fun D1 R=>d4 _ b x n _ (V.up (R _ Yf)) hn h4) fun v1 D1 R hH=>?_;have hr:=hH;refine Zf rfl<|aF ?_;obtain⟨u,hu⟩:∃u,xW n x 2=u:=⟨_,rfl⟩
  rw[hu]at hr hsz Y;obtain⟨i,hi⟩:∃i,p%u.length=i:=⟨_,rfl⟩
  obtain⟨d,hd⟩:∃d,p / u.length=d:=⟨_,rfl⟩
  have hil:i<u.length:=by rw[←hi];exact Nat.mod_lt _ Yd
  have hdl:d≤p:=by rw[←hd];exact Nat.div_le_self _ _
  have hmd:(p:Int)%(u.length:Int)=(i:Int):=by rw[←hi];rfl
  have hdv:(p:Int) / (u.length:Int)=(d:Int):=by rw[←hd];rfl
  obtain⟨y,hy⟩:=cR u i;have U:=hr;obtain⟨bt,ot,ct,cs0,rfl,hI,_,hA0⟩:=bHA hr hy;obtain rfl:cs0=_:=hI;refine fD hA0 Yf fun hbt=>?_;have hbo:bt∉dC.mk [bt]:=dC.out Yf;refine iK (dC.mk [bt]) 1 [0,1,2,3,4,5,6,7,10,11,12,13,8,9,14,15] [false,true,true,true,true,true,true,true,true,true,true,true,true,true,true,false] [(false,0),(true,1),(true,2),(true,3),(true,4),(true,5),(true,6),(true,7),(true,10),(true,11),(true,12),(true,13),(true,8),(true,9),(true,14),(false,15)] bB (fun _ _ _ h=>fM (P:=prog) (fn:=f35) _ _ _ h) Yg rfl<|Za rfl<|Za rfl<|Za rfl<|Za rfl<|Zah rfl U43 rfl U rfl<|yJ rfl rfl rfl Yd Yd (by rw[hmd];simp only[tQ];omega) rfl bRD ?_
  rw[hmd];refine eP rfl U43 eQ rfl rfl Yd Yd rfl bRD<|cU rfl DJ rfl hA0 Yf eQ hbo rfl bRD<|Za rfl<|Za rfl<|Zah rfl U43 rfl U rfl<|KO rfl rfl rfl Yd Yd (by rw[hdv];simp only[tQ];omega) rfl bRD ?_
  rw[hdv];refine Zt rfl U43 eQ nP rfl (.cons rfl Yg .nil) (fun hP D901 hJ O=>aU (A:=[]) (B:=[]) rfl U43 rfl rfl eQ nP rfl a7 rfl rfl rfl ha (lD.lit O) Yf rfl (by rw[Y9,h2]) Yk Yd (bLY fun q hq=>dC.in_ (bII hbt hq)) rfl bRD fun v1 ν1 hK=>?_);have hN:bM 184 3 v1 (k+1) (uC (out++[y])) ν1:=by rw[aHL];exact hK
  refine Zf rfl<|Wt ?_;exact aL 35 (k+1,out++[y],d,v1,ν1) ⟨Yn,by simp[h2],Yn,by simp only;rw[h5,aJQ hx,hu,hi,hd,hy,bMC];rfl,by simpa [h2]using hN⟩ Yn ⟨Ya,Ya,Ya,bRD⟩ rfl rfl Mm5 fun D h=>⟨D,bMJ _ (bMJ _ (h)),Le.refl D⟩
 ·obtain rfl:k=b.lines.length:=by simp only at hc1;omega
  rw[bQP]at h5;refine Za5<|Za1<|Za1<|Za6<|Zay<|aA<|Za rfl<|Zf rfl<|aG<|dU (A:=[]) (B:=[]) ha rfl fun D2 hS hF=>?_;exact aE rfl fun D' hD=>by rw[h5,wA,bMM];exact(hF.lins h2 Yd).up kE.up (hD _ Yf)
theorem QW(bv tv:Γ)(b:bA)(D:aC)(hb:gD D bv b)(I:b.counts=[]):Fn prog 37 #[bv,tv] D (fun _ v=>v=.bool true):=by
 obtain⟨lv,cv,rfl,hl,hc⟩:=hb;have R:b.counts.length=0:=by rw[I];rfl
 refine Zw 32 func37 rfl fun h0=>aA<|Zy rfl fun V E1 U O=>Zf rfl<|bG<|Zf rfl<|aF<|Za0<|bK (γ:=Unit) (fun g=>0) (fun g=>True) (fun g=>[(5,qI 0)]) [(4,_),(2,_),(1,_)] (fun g=>[E1,D]) () bRD ⟨Ya,bRD⟩ bQ (aK) ?_;rintro⟨⟩ _h;refine bZ<|Za rfl<|Zj rfl aRM rfl<|Zh 4 rfl bFD rfl O rfl<|Zah rfl U44 rfl hc rfl<|Zam rfl<|aF<|Zaf rfl (fun hc1=>?_) fun hc1=>?_
 ·omega
 ·refine Wk ?_;exact aE rfl fun D hD=>rfl
theorem W1(bv:Γ)(b:bA)(n:Nat)(D:aC)(hb:gD D bv b)(hn:b.chairs=(n:Int))(h4:n≤4)(Y:b.counts=[])(h1:∀l∈b.lines,1≤TC n l)(h8:b.lines.length≤100):Fn prog 15 #[bv] D (fun D' v=>Sl D' bFT 1 v (iQ n b.lines)):=by
 have R:=hb;obtain⟨lv,cv,rfl,hl,hc⟩:=hb;have hll:=hl.len;have hmr:=UA n b.lines;obtain⟨N,hN⟩:∃N:Nat,oE n b.lines=(N:Int):=⟨(oE n b.lines).toNat,Yd⟩
 refine Zw 27 func15 rfl fun h0=>aA<|Zy rfl fun q1 E1 hO U=>Zf rfl<|aJ<|Zf rfl<|bG<|Zf rfl<|aF<|Za0<|fZ (γ:=Nat×Γ×List Γ×aD×aC) (fun g=>N-g.1) (fun g=>g.1≤N∧bM 43 1 g.2.1 g.2.2.1.length g.2.2.1 g.2.2.2.1∧aJF g.2.2.2.2 g.2.2.1 (qO n b.lines g.1)) (fun g=>[(4,qI (g.1:Int)),(3,g.2.1)]) [(2,_),(1,_)] (fun g=>g.2.2.2.1++[]) (fun g=>[g.2.2.2.2,E1,D]) (0,qN,[],[],D) ⟨Yf,Xar,aJF.nil⟩ ⟨Ya,Ya,bRD⟩ bQ Mm5 (Yav) ?_;rintro⟨k,v,vs,ν,Dn⟩ ⟨h1x,ha,hla⟩;simp only at h1x ha hla;have hvl:=hla.len;have hkl:=QX n b.lines k;refine bZ<|Za rfl<|Zv rfl zU rfl U vH<|Zd rfl (fun D1 Z=>yV _ b n _ (R.up (Z _ Yf)) hn h4)<|Zam rfl<|aF<|Zaf rfl (fun hc1=>?_) fun hc1=>?_
 ·have hk:k<N:=by simp only at hc1;omega
  refine aQ<|Za2<|Za0<|aA<|Zv rfl zU rfl U vH<|Za rfl<|Zaa rfl (fun D2 O=>ON _ b n k _ (R.up (O _ Yf)) hn h4 Yd h1 h8) fun v2 D2 O hB=>?_;have hw:=hB;have hwl:=RG n b.lines k;refine Zf rfl<|aJ<|Za rfl<|Zd rfl (fun D3 hE=>aKL _ (wA n b.lines k) _ (hw.up kE.up (hE _ Yf)) Yd)<|Za rfl ?_;refine' bU 4 (s:=17) (p:=21) rfl (fun hH=>?_) (fun hH=>?_) ?_;rotate_left
  ·refine cU rfl zU rfl U Yc vH n4 rfl ⟨_,rfl,rfl⟩<|Zb rfl<|Ze rfl (fun D4 hI=>QW _ _ b _ (R.up (hI _ Yf)) Y)<|Zaj rfl ?_;exact aN 3
  ·refine Wb ?_;exact aN 3
  refine aF<|Zag rfl (fun hc2=>?_) fun hc2=>?_
  ·refine aP<|Za rfl<|Za rfl<|Zt rfl U59 I3 aTF rfl (.cons hw.cells1 rfl .nil) (fun hK D901 I V=>aU (A:=[]) (B:=_) rfl U59 rfl rfl I3 aTF rfl bGS rfl rfl rfl ha (lD.lit V) Yf rfl Yf (by simpa using hw.cell1) Yd (bMF rfl) rfl bRD fun v1 ν1 hJ=>Zf rfl<|Wbd ?_);refine Wbl ?_;exact aL 22 (k+1,v1,vs++[v2],ν1,D901) ⟨Yn,by simpa using hJ,by simp only;rw[RH Yat];exact(hla.up (I Dn Yf)).snoc (hw.up kE.up (I _ Yf))⟩ Yn ⟨Ya,Ya,bRD⟩ rfl rfl Mm5 (Yau)
  ·refine Wbs ?_;exact aL 17 (k+1,v,vs,ν,Dn) ⟨Yn,ha,by simp only;rw[XD Yat];exact hla⟩ Yn ⟨Ya,Ya,bRD⟩ rfl rfl Mm5 (Ys)
 ·obtain rfl:k=N:=by simp only at hc1;omega
  refine Za5<|Za1<|Za1<|Za6<|Zay<|aA<|Za rfl<|Zf rfl<|aG<|dU (A:=[]) (B:=[]) ha rfl fun D2 O hF=>?_;exact aE rfl fun D' hD=>by unfold iQ;rw[hN];exact(hF.llists hla (O _ Yf) Yd).up bFT.up (hD _ Yf)
theorem aFZ(lo hi n:Int)(D:aC):Fn prog 39 #[.agg #[qI lo,qI hi],qI n] D (fun _ v=>v=.agg #[qI (min lo n),qI (max hi n)]):=by
 refine Zw 14 func39 rfl fun h0=>aA<|Zy rfl fun R E1 O I=>Zad rfl V9 rfl fun U=>aJ<|Zj rfl RE rfl<|Zh 0 rfl aH rfl I rfl<|Za rfl<|y7 rfl rfl rfl rfl bRD<|Zj rfl UW rfl<|Zh 1 rfl aH rfl I rfl<|Za rfl ?_;refine nZ rfl rfl rfl rfl bRD<|Zu [qI (min lo n),qI (max hi n)] rfl aVP V9 rfl<|Zz rfl pZ ζ<|aG ?_;exact Zq [_] rfl ⟨⟨_,_,_,rfl,Mm0,Or.inr ⟨EG,Xcs,rfl⟩⟩,bRD⟩ fun D hD=>rfl
theorem aIS(D:aC):Fn prog 38 #[] D (fun _ v=>v=.agg #[qI 1099511627776,qI (-1099511627776)]):=by
 refine Zw 2 func38 rfl fun h0=>aA<|Zad rfl V9 rfl fun I=>aJ<|Zu [qI 1099511627776,qI (-1099511627776)] rfl aVP V9 rfl<|Zz rfl pZ ζ<|aG ?_;exact Zq [_] rfl ⟨⟨_,_,_,rfl,Mm0,Or.inr ⟨EG,Xcs,rfl⟩⟩,bRD⟩ fun D hD=>rfl
theorem XO(bv sv:Γ)(b:bA)(ts:List (List cB))(m:Nat)(D:aC)(hb:gD D bv b)(hS:Sl D bFT 1 sv ts)(hlen:∀t∈ts,m≤t.length∧t.length≤1000)(hco:0≤b.coin∧b.coin≤1000)(hbx:0≤b.box∧b.box≤1000):Fn prog 16 #[bv,sv,qI (m:Int)] D (fun _ v=>v=.agg #[qI ((ts.map fun t=>mL b t m).foldl min (1099511627776)),qI ((ts.map fun t=>mL b t m).foldl max (-1099511627776))]):=by
 have O:=hb;obtain⟨lv,cv,rfl,hl,hc⟩:=hb;have hll:=hl.len;have hSl:=hS.len;refine Zw 26 func16 rfl fun h0=>aA<|Zy rfl fun q1 E1 hB R=>Zad rfl V9 rfl fun q2=>aJ<|Zd rfl (fun D1 hE=>aIS _)<|Zad rfl V9 rfl fun q3=>Zz rfl pZ ζ<|bG<|Zf rfl<|aF<|Za0 ?_;refine fZ (γ:=Nat) (fun k=>ts.length-k) (fun k=>k≤ts.length) (fun k=>[(8,qI (k:Int))]) [(7,_),(6,_),(3,_),(1,_),(2,_)] (fun k=>[(q3,qC [qI (((ts.take k).map fun t=>mL b t m).foldl min (1099511627776)),qI (((ts.take k).map fun t=>mL b t m).foldl max (-1099511627776))] 61),(q2,qC [qI 0,qI 0] 61)]) (fun k=>[E1,D]) 0 Yd ⟨Ya,bRD⟩ bQ Mm5 (aK) ?_;rintro k hF;refine bZ<|Za rfl<|Za rfl<|Zah rfl U59 rfl hS rfl<|Zam rfl<|aF<|Zaf rfl (fun hc1=>?_) fun hc1=>?_
 ·have hk:k<ts.length:=by omega
  obtain⟨t,ht⟩:=cR ts k;have htm:=n5 ht;refine aQ<|Za2<|Za0<|bS [] 4 10 254<|Zac rfl EG rfl Mm0 pZ<|Zv rfl zU rfl R vH<|Za rfl<|Za rfl<|Zx rfl U59 I3 rfl hS rfl ht fun b1 o1 hH U Z V=>?_;obtain⟨w1,rfl,Y⟩:=U;refine Zh 0 rfl nB rfl V rfl<|Za rfl<|Zd rfl (fun D2 I=>aFV _ _ b t m _ (O.up (I _ Yf)) (Y.up kE.up (I _ Yf)) (hlen t htm).1 (hlen t htm).2 hco hbx)<|Zd rfl (fun D3 hI=>aFZ _ _ _ _)<|Zz rfl pZ ζ<|Zan<|Za3<|Zay<|aP<|Za rfl<|Zae rfl<|Zf rfl ?_;refine Zan ?_;rw[show mL b t m=((fun t=>mL b t m)) t from rfl,←vC ht,←vW ht];exact Zn 17 (k+1) ⟨Ya,bRD⟩ rfl Mm5
 ·obtain rfl:k=ts.length:=by omega
  rw[bMP];refine Za5<|Za1<|Za1<|Za6<|Zay<|aA<|Zac rfl EG rfl Mm0 pZ<|Zz rfl pZ (.tail ζ)<|aG ?_;exact Zq [_] rfl ⟨⟨_,_,_,rfl,Mm1,Or.inr ⟨EG,Xcs,rfl⟩⟩,bRD⟩ fun D hD=>rfl
end L3
namespace L12
open C12 Go.Lib
open C3 (cB bA tL fH eM jZ aRL fU cK JT rN tV)
open L3 (xW wA iQ qO oE TC sV p4)
theorem aFS{l:cB}(h:S0 l):xW 3 l 2=cK 3 l:=by
 obtain⟨k,c,t⟩:=l;obtain⟨h1,h2,h3⟩:=h;simp only at h1 h2 h3;have I:k=1∨k=2:=by omega
 have O:c=0∨c=1∨c=2:=by omega
 have R:t= -1∨t=0∨t=1∨t=2:=by omega
 rcases I with rfl|rfl<;>rcases O with rfl|rfl|rfl<;>rcases R with rfl|rfl|rfl|rfl<;>decide
theorem ZE{l:cB}(h:S0 l):1≤TC 3 l:=by
 unfold TC;rw[(GL h).1];rcases(GL h).2 with e|e<;>omega
theorem bGM{l:cB}(h:S0 l):rN 3 l=true:=by
 obtain⟨h1,h2,h3⟩:=h;unfold rN;simp only[bLQ,C1.bN];omega
def S7:List cB→Nat
 | []=>1
 |l::ls=>TC 3 l*S7 ls
theorem yL:∀(ls:List cB) (a:Nat),(∀l∈ls,S0 l)→ls.foldl (fun(m:Int) l=>min 5000 (m*((xW 3 l 2).length:Int))) ((min 5000 a:Nat):Int)=((min 5000 (a*S7 ls):Nat):Int)
 | [],a,_=>by rw[List.foldl_nil,S7,bNY]
 |l::ls,a,h=>by
  have hs:=ZE (h l bLP);have e:min (5000:Int) (((min 5000 a:Nat):Int)*((xW 3 l 2).length:Int))=((min 5000 (a*TC 3 l):Nat):Int):=by
   have I:((min 5000 a:Nat):Int)*((xW 3 l 2).length:Int)=(((min 5000 a)*TC 3 l:Nat):Int):=by rw[Int.natCast_mul];rfl
   rw[I];rcases Nat.le_total a 5000 with h5|h5
   ·rw[Nat.min_eq_right h5];omega
   ·rw[bPH h5];have O:5000*1≤5000*TC 3 l:=Nat.mul_le_mul_left _ hs;have R:5000*TC 3 l≤a*TC 3 l:=bPG _ h5;omega
  rw[bMO,e,yL ls (a*TC 3 l) fun x hx=>h x (LE _ hx),S7,Nat.mul_assoc]
theorem aZH{ls:List cB}(h:∀l∈ls,S0 l):oE 3 ls=((min 5000 (S7 ls):Nat):Int):=by
 have e:oE 3 ls=((min 5000 (1*S7 ls):Nat):Int):=yL ls 1 h
 rwa [Nat.one_mul]at e
theorem bBI{ls:List cB}(h:∀l∈ls,S0 l)(hm:¬4096<oE 3 ls):(oE 3 ls).toNat=S7 ls:=by
 rw[aZH h]at hm ⊢;omega
def bEG:List cB→List cB→Prop
 | [],[]=>True
 |l::ls,x::t=>x∈cK 3 l∧bEG ls t
 |_,_=>False
theorem n8:∀{ls t:List cB},bEG ls t→t.length=ls.length
 | [],[],_=>rfl
 |_::_,_::_,h=>by rw[bLU,bLU,n8 h.2]
theorem XE:∀{ls t:List cB} {i:Nat} {x z:cB},bEG ls t→t[i]?= some x→ls[i]?= some z→x∈cK 3 z
 | [],[],_,_,_,_,h,_=>by simp at h
 |_::_,_::_,0,_,_,h,h1,h2=>by
  simp only[List.getElem?_cons_zero,bPV]at h1 h2;subst h1;subst h2;exact h.1
 |_::_,_::_,i+1,_,_,h,h1,h2=>XE (i:=i) h.2 Xae Xal
theorem aBU:∀{ls:List cB} {k:Nat},(∀l∈ls,S0 l)→bEG ls (wA 3 ls k)
 | [],_,_=>trivial
 |l::ls,k,h=>by
  have hs:=ZE (h l bLP);unfold TC at hs;have hl:k%(xW 3 l 2).length<(xW 3 l 2).length:=Nat.mod_lt _ Yd;rw[wA,bLR hl];refine⟨?_,aBU fun x hx=>h x (LE _ hx)⟩;rw[←aFS (h l bLP)];exact List.getElem_mem hl
theorem aDI:∀{ls t:List cB},(∀l∈ls,S0 l)→bEG ls t→∃k,k<S7 ls∧wA 3 ls k=t
 | [],[],_,_=>⟨0,Nat.zero_lt_one,rfl⟩
 |l::ls,x::t,h,hi=>by
  obtain⟨k,hk,rfl⟩:=aDI (fun y hy=>h y (LE _ hy)) hi.2;have h1:=hi.1;rw[←aFS (h l bLP)]at h1;obtain⟨m,hm⟩:=List.getElem?_of_mem h1;have hl:m<(xW 3 l 2).length:=(bLS.1 hm).1;have I:(m+(xW 3 l 2).length*k)%(xW 3 l 2).length=m:=by rw[Nat.add_mul_mod_self_left,Nat.mod_eq_of_lt hl]
  have O:(m+(xW 3 l 2).length*k) / (xW 3 l 2).length=k:=by rw[Nat.add_mul_div_left _ _ Yd,Nat.div_eq_of_lt hl,bOM]
  refine⟨m+(xW 3 l 2).length*k,?_,?_⟩
  ·have:TC 3 l*(k+1)≤TC 3 l*S7 ls:=Nat.mul_le_mul_left _ hk;rw[S7];rw[Nat.mul_add,bNY]at this;unfold TC at *;omega
  ·rw[wA,I,O,hm];rfl
theorem wG{ls t:List cB}(h:∀l∈ls,S0 l)(hm:¬4096<oE 3 ls):t∈iQ 3 ls ↔ bEG ls t∧sV t t.length=true:=by
 unfold iQ qO;rw[bBI h hm,bOZ,GE];constructor
 ·rintro⟨⟨k,_,rfl⟩,hp⟩;exact⟨aBU h,hp⟩
 ·rintro⟨hi,hp⟩;obtain⟨k,hk,e⟩:=aDI h hi;exact⟨⟨k,bNJ.2 hk,e⟩,hp⟩
theorem KB{x:bA}(hch:x.chairs=3):∀(ls:List cB) (i:Nat) (s:C3.Sc) (z:List cB×List C3.Sc) (pre:List cB),z∈tL x ls i s→pre.length=i→s=p4 x (pre++z.1) i→
    bEG ls z.1∧(∀j y,z.1[j]?= some y→jZ (p4 x (pre++z.1) (i+j)) y=true)∧aRL z.2 ls.length=p4 x (pre++z.1) (i+ls.length)
  | [],i,s,z,pre,hz,hp,hs=>by
    unfold tL at hz;split at hz
    · obtain rfl:z=([],[s]):=by simpa using hz
      exact⟨bRD,fun j y h=>Xad,hs⟩
    · cases hz
  |l::ls,i,s,z,pre,hz,hp,hs=>by
    unfold tL at hz;split at hz
    · obtain⟨r,hr,h⟩:=bPE.1 hz;split at h
      · rename_i hcn;obtain⟨z',hz',rfl⟩:=GE.1 h;simp only at hs ⊢
        have hx:(pre++r::z'.1)[i]?= some r:=by rw[bOV Yd,hp,Nat.sub_self];rfl
        have e:pre++r::z'.1=(pre++[r])++z'.1:=by simp
        obtain⟨g1,g2,g3⟩:=KB hch ls (i+1) _ z' (pre++[r]) hz' (by simp[hp]) (by rw[hs,L3.aRW hx,e]);rw[←e]at g2 g3;rw[hch]at hr;refine⟨⟨hr,g1⟩,fun j y hy=>?_,?_⟩
        · cases j with
          | zero => obtain rfl : r = y := by simpa using hy
                    rw[bRC,←hs];exact hcn
          |succ j=>rw[show i+(j+1)=i+1+j by omega];exact g2 j y (by simpa using hy)
        · rw[bLU,show i+(ls.length+1)=i+1+ls.length by omega,←g3];rfl
      · cases h
    · cases hz
section
variable{x:bA}(hch:x.chairs=3)(hc:x.counts=[])(h:∀l∈x.lines,S0 l)(hm:¬4096<oE 3 x.lines)
include h in
theorem OC{t:List cB}(hi:bEG x.lines t):∀l∈t,JT 3 l:=fun l hl=>by
 obtain⟨i,I⟩:=List.getElem?_of_mem hl;have hlt:=(bLS.1 I).1;have hz:x.lines[i]?= some (x.lines[i]'(by rw[←n8 hi];exact hlt)):=bLR _
 exact((tV (bGM (h _ (n5 hz)))).1 (XE hi I hz)).1
include hch hc h hm in
theorem BB{t:List cB}(ht:t∈iQ 3 x.lines):∃y∈L3.vM x 0 (fH x),aRL y x.lines.length=p4 x t x.lines.length:=by
 obtain⟨hi,hp⟩:=(wG h hm).1 ht;have hl:=n8 hi;have hlin:=OC h hi;have hr:=L3.UN (x:=x) (t:=t) hl (fun i l z h1 h2=>by rw[hch];exact XE hi h1 h2) (fun i l h1=>by
  rw[L3.aMU (fun l hl=>Xct) h1];unfold sV at hp;rw[bMK]at hp;exact hp i (bNJ.2 (bLS.1 h1).1)) (fun i _=>by unfold fU;rw[hc];rfl) t.length 0 Yd
 refine⟨_,GE.2 ⟨_,hr,rfl⟩,L3.aTW ?_⟩;rw[bNB,bPW Yd,bNL,bOM]
include hch h hm in
theorem AU{y:List C3.Sc}(hy:y∈L3.vM x 0 (fH x)):∃t∈iQ 3 x.lines,aRL y x.lines.length=p4 x t x.lines.length:=by
 obtain⟨z,hz,rfl⟩:=GE.1 hy;rw[bPN]at hz;obtain⟨g1,g2,g3⟩:=KB hch x.lines 0 _ z [] hz rfl rfl;rw[bMW,bOM]at g3;have hlin:=OC h g1;refine⟨z.1,(wG h hm).2 ⟨g1,?_⟩,g3⟩;unfold sV;rw[bMK];intro j hj;obtain⟨u,hu⟩:∃u,z.1[j]?= some u:=⟨_,bLR (bNJ.1 hj)⟩
 have:=g2 j u hu;rw[bMW,bOM,L3.aMU (fun l hl=>Xct) hu]at this
 exact this
include hch hc h hm in
theorem BC:iQ 3 x.lines=[] ↔ C3.truths x=[]:=by
 constructor
 ·intro e;cases hz:C3.truths x with
  |nil=>rfl
  |cons z l=>
   obtain⟨t,ht,_⟩:=AU hch h hm (y:=z.2) (GE.2 ⟨z,by show z∈C3.truths x;rw[hz];exact bLP,rfl⟩);rw[e]at ht;cases ht
 ·intro e;cases hz:iQ 3 x.lines with
  |nil=>rfl
  |cons t l=>
   obtain⟨y,hy,_⟩:=BB hch hc h hm (t:=t) (by rw[hz];exact bLP);obtain⟨z,O,_⟩:=GE.1 hy;have I:z∈C3.truths x:=O;rw[e]at I;cases I
end
theorem aUX:∀{l:List Int} {a:Int},l≠[]→(∀y∈l,y≤a)→l.foldl min a=C1.rC l
 | [],_,h,_=>absurd rfl h
 |y::l,a,_,h=>by have:=h y bLP;rw[bMO,show min a y=y by omega];rfl
theorem aON:∀{l:List Int} {a:Int},l≠[]→(∀y∈l,a≤y)→l.foldl max a=C1.pH l
 | [],_,h,_=>absurd rfl h
 |y::l,a,_,h=>by have:=h y bLP;rw[bMO,show max a y=y by omega];rfl
theorem bGQ{l m:List Int}{a b:Int}(hl:l≠[])(hab:∀y∈l,b≤y∧y≤a)(h:∀y,y∈l ↔ y∈m):l.foldl min a=C1.rC m∧l.foldl max b=C1.pH m:=by
 have hm:m≠[]:=fun e=>hl (by rw[List.eq_nil_iff_forall_not_mem];intro y hy;rw[h,e]at hy;cases hy)
 rw[aUX hl fun y hy=>(hab y hy).2,aON hl fun y hy=>(hab y hy).1];have h1:=C1.NW ((h _).2 (C1.FE hm));have h2:=C1.NW ((h _).1 (C1.FE hl));have h3:=C1.OS ((h _).2 (C1.EI hm));have h4:=C1.OS ((h _).1 (C1.EI hl));omega
theorem bDR{x:bA}(hch:x.chairs=3)(hc:x.counts=[])(h:∀l∈x.lines,S0 l)(hm:¬4096<oE 3 x.lines)(hco:x.coin=5∧x.box=20)(h8:x.lines.length≤8)(hne:iQ 3 x.lines≠[]):
  ((iQ 3 x.lines).map fun t=>L3.mL x t x.lines.length).foldl min 1099511627776=(L3.HZ (fun s=>s.money) x x.lines.length).1∧((iQ 3 x.lines).map fun t=>L3.mL x t x.lines.length).foldl max (-1099511627776)=(L3.HZ (fun s=>s.money) x x.lines.length).2:=by
 have hlk:∀t∈iQ 3 x.lines,(p4 x t x.lines.length).money=L3.mL x t x.lines.length:=fun t ht=>by
  obtain⟨hi,_⟩:=(wG h hm).1 ht;have hlin:=OC h hi;exact(L3.bIP (b:=x) (fun l hl=>Xct) _ (Nat.le_of_eq (n8 hi).symm)).2.2
 refine bGQ (by simpa using hne) (fun y hy=>?_) fun y=>?_
 ·obtain⟨t,_,rfl⟩:=GE.1 hy;have:=L3.aAX (b:=x) (t:=t) Yd x.lines.length;omega
 ·constructor
  ·intro hy;obtain⟨t,ht,rfl⟩:=GE.1 hy;obtain⟨z,hz,e⟩:=BB hch hc h hm ht;exact GE.2 ⟨_,GE.2 ⟨z,hz,rfl⟩,by rw[e,hlk t ht]⟩
  ·intro hy;obtain⟨s,hs,rfl⟩:=GE.1 hy;obtain⟨z,hz,rfl⟩:=GE.1 hs;obtain⟨t,ht,e⟩:=AU hch h hm hz;exact GE.2 ⟨t,ht,by rw[e,hlk t ht]⟩
end L12
namespace L12
open C12 Go.Lib
section
variable(ls:List Λ)
theorem m9:C1.truths (cJ ls).1.row≠[]∧(∀t∈C1.truths (cJ ls).1.row,t.length≤9∧∀x∈t,0≤x∧x≤1)∧0≤((cJ ls).1.row.places.length:Int)-1∧(∀t∈C1.truths (cJ ls).1.row,((cJ ls).1.row.places.length:Int)-1<t.length)∧
  (cJ ls).1.book.chairs=((3:Nat):Int)∧(cJ ls).1.book.counts=[]∧(∀l∈(cJ ls).1.book.lines,S0 l)∧¬4096<L3.oE 3 (cJ ls).1.book.lines∧((cJ ls).1.book.coin=5∧(cJ ls).1.book.box=20)∧(cJ ls).1.book.lines.length≤8:=by
 have hk:=uZ ls;have hg:=X5 ls;obtain⟨h1,_,_,h4,_,_⟩:=xB (xA ls);have hln:∀l∈(cJ ls).1.book.lines,S0 l:=hg.ln;have hpl:=hk.pl;have I:=hg.len0;refine⟨fun e=>?_,fun t ht=>?_,Yd,fun t ht=>?_,hk.bc,hg.bk.2.2,hln,?_,⟨hg.bk.1,hg.bk.2.1⟩,hk.ln⟩
 ·unfold C1.eE at h1;rw[e]at h1;split at h1
  ·omega
  ·simp at h1
 ·have:=C1.uT ht;exact⟨by have:=this.1;omega,this.2⟩
 ·have:=(C1.uT ht).1;omega
 ·rw[←FX hln];rw[hg.fB hk]at h4;split at h4
  ·cases h4
  ·assumption
variable{ls}
theorem bCM(h:eT ls≠0):mX ls=((0,0),eT ls):=by unfold mX;rw[sN h,bLX h]
theorem aPJ(h:eT ls≠0):mG ls=((0,0),eT ls):=by unfold mG;rw[sN h,bLX h]
theorem aZY(h:eT ls=0):mG ls=((C1.EB (C1.truths (cJ ls).1.row) (0:Int).toNat (((cJ ls).1.row.places.length:Int)-1).toNat,C1.DR (C1.truths (cJ ls).1.row) (0:Int).toNat (((cJ ls).1.row.places.length:Int)-1).toNat),0):=by
 obtain⟨I,_,O,_⟩:=m9 ls;have e:C1.eE (cJ ls).1.row (C1.qM (cJ ls).1.row 0 (((cJ ls).1.row.places.length:Int)-1))=0:=by
  have hp:C1.qM (cJ ls).1.row 0 (((cJ ls).1.row.places.length:Int)-1)=true:=by unfold C1.qM;rw[bLQ,C1.bN,C1.bN];omega
  rw[hp];exact(xB (xA ls)).1
 unfold mG;rw[nQ h];simp only[bOC,e]
theorem aSG{b:C3.bA}(hf:C3.aX b=0):C3.A0 b (C1.gU (b.lines.length:Int) 0 (b.lines.length:Int))=if C3.truths b=[]then 11 else 0:=by
 unfold C3.A0;rw[bLX Yd,bLX (by rw[C1.bN.2 Yd];simp)]
theorem ZZ(h:eT ls=0)(ht:L3.iQ 3 (cJ ls).1.book.lines=[]):mX ls=((0,0),11):=by
 obtain⟨_,_,_,_,I,O,R,U,_,_⟩:=m9 ls;have hf:=(xB (xA ls)).2.2.2.1;have e:=aSG hf;rw[bMG ((BC I O R U).1 ht)]at e;unfold mX;rw[nQ h];simp only[bOC,e];rfl
theorem aYD(h:eT ls=0)(ht:L3.iQ 3 (cJ ls).1.book.lines≠[]):mX ls=((((L3.iQ 3 (cJ ls).1.book.lines).map fun t=>L3.mL (cJ ls).1.book t (cJ ls).1.book.lines.length).foldl min 1099511627776,((L3.iQ 3 (cJ ls).1.book.lines).map fun t=>L3.mL (cJ ls).1.book t (cJ ls).1.book.lines.length).foldl max (-1099511627776)),0):=by
 obtain⟨_,_,_,_,O,R,U,V,Y,I⟩:=m9 ls;have hf:=(xB (xA ls)).2.2.2.1;have e:=aSG hf;rw[bLX fun Z=>ht ((BC O R U V).2 Z)]at e;obtain⟨g1,g2⟩:=bDR O R U V Y I ht;unfold mX;rw[nQ h];simp only[bOC,e,g1,g2,bNI]
end
theorem SZ(lv:Γ)(ls:List Λ)(D:aC)(hS:Sl D RS 1 lv ls)(hV:pP D):Fn prog 3 #[lv] D (fun _ v=>v=.bool true):=by
 have hsl:=hS.len;refine Zw 122 func3 rfl fun h0=>aA<|Zf rfl<|bG<|Za rfl<|Zd rfl (fun D1 hD1=>aLY _ ls _ (hS.up RS.up (hD1 _ Yf)))<|Wbr ?_;refine' dQ 4 (s:=16) (p:=20) rfl (fun hI=>?_) (fun hI=>?_) ?_;rotate_left
 ·obtain⟨h45,hE⟩:=Q3.1 (show DW ls=true by simpa using hI);refine Zb rfl<|Ze rfl (fun D2 hD2=>ZI _ ls _ (hS.up RS.up (hD2 _ Yf)) Yd fun x hx=>by have:=hE x hx;omega)<|Waf ?_
  exact aN 3
 ·refine Wbo ?_;exact aN 3
 refine aF<|Zag rfl (fun hc1=>?_) fun hc1=>?_
 ·refine aA<|Zd rfl (fun D3 hD3=>n6 _ (hV.up (hD3 _ Yf)))<|Wi ?_;exact aE rfl fun D hD=>rfl
 ·obtain⟨h45,hE⟩:=Q3.1 (show DW ls=true by have h9:=hc1;simp only[bNG,bQH]at h9;exact h9.1);refine aQ<|aA<|Za rfl<|Zaa rfl (fun D4 hJ=>MF _ ls _ (hS.up RS.up (hJ _ Yf)) Yd) fun v4 D4 hJ hp4=>?_;have hq:=hp4;refine Zd rfl (fun D5 hK=>K7 _ ls _ (hq.up RS.up (hK _ Yf)) (hV.up (hK _ Yf)))<|Za rfl<|Zao rfl<|Zao rfl<|Zad rfl lL rfl fun q1=>bE rfl rfl rfl rfl eF Yb Yb ζ Yk bRD<|Zf rfl<|aJ<|Za rfl<|Zaa rfl (fun D6 hN=>MF _ ls _ (hS.up RS.up (hN _ Yf)) Yd) fun v6 D6 hN hp6=>?_;have hq:=hp6;refine Zd rfl (fun D7 hO=>R0 _ ls _ (hq.up RS.up (hO _ Yf)) (hV.up (hO _ Yf)))<|Za rfl<|Zao rfl<|Zao rfl<|Zad rfl pF rfl fun q2=>bE rfl rfl rfl rfl iE Yb Yb ζ Yk bRD<|Zf rfl<|bG<|Za rfl<|Zd rfl (fun D8 hD8=>aAT _ ls _ (hS.up RS.up (hD8 _ Yf)))<|Zf rfl<|aJ ?_;refine Za rfl<|Zaw rfl<|aF<|Zaf rfl (fun hc2=>?_) (fun hc2=>?_)
  ·refine aA<|Za rfl<|Za rfl<|Was ?_;refine' bU 4 (s:=41) (p:=45) rfl (fun hg2=>?_) (fun hg2=>?_) ?_;rotate_left
   ·refine Zb rfl<|Zb rfl<|Waa ?_;exact aN 3
   ·refine Wb ?_;exact aN 3
   refine Za rfl ?_;refine' bU 4 (s:=46) (p:=50) rfl (fun hg3=>?_) (fun hg3=>?_) ?_;rotate_left
   ·refine bI rfl lZ rfl Mm1 eF n4 rfl ⟨_,rfl,rfl⟩<|Waz ?_;exact aN 3
   ·refine Wb ?_;exact aN 3
   refine Za rfl ?_;refine' bU 4 (s:=51) (p:=55) rfl (fun hg4=>?_) (fun hg4=>?_) ?_;rotate_left
   ·refine bI rfl vV rfl Mm0 iE n4 rfl ⟨_,rfl,rfl⟩<|iB (cs:=[qI 0,qI 0]) rfl W9 pF rfl rfl rfl ⟨_,rfl,rfl⟩<|x9 (a:=(mG ls).1) (b:=(0,0)) rfl Yg aQC rfl rfl rfl ⟨_,rfl,rfl⟩<|Zaj rfl ?_;exact aN 3
   ·refine Wb ?_;exact aN 3
   refine Za rfl ?_;refine' bU 2 (s:=56) (p:=58) rfl (fun hg5=>?_) (fun hg5=>?_) ?_;rotate_left
   ·refine Ze rfl (fun D9 hD9=>n6 _ (hV.up (hD9 _ Yf)))<|Zaj rfl ?_;exact aN 1
   ·refine Zg rfl<|Zak rfl ?_;exact aN 1
   refine Wi ?_;exact aE rfl fun D hD=>bLZ Value.bool (by rw[bCM hc2,aPJ hc2];simp)
  ·have hF:eT ls=0:=bQD.1 hc2;refine aQ<|aA<|Za rfl<|Zaa rfl (fun D10 Y=>aQT _ ls _ (hS.up RS.up (Y _ Yf)) Yd fun x hx=>by have:=hE x hx;omega) (fun v10 D10 Y hP=>?_)
   obtain⟨u1,u2,rfl,⟨pv2,cv2,hv2,lv2,mv2,bl2,bc2,yc2,yq2,rfl,R⟩,hes2⟩:=hP;unfold dR;refine Za rfl<|Zao rfl<|Zao rfl<|Zad rfl J7 rfl fun q3=>bE rfl rfl rfl rfl gV Yb Yb ζ (gE R) bRD<|Zf rfl<|bW ?_;obtain⟨z1,z2,z3,z4,z5,z6,z7,z8,z9,z10⟩:=m9 ls;have hp7:=(uZ ls).pl;refine oT [] 5 [false,false,true,true,true,true,true,true,true,true,false] [.fork [0,1,3,4,5,6,7] 2 (.fork [] 8 (.fin [9]) 9 (.fin [8])) 9 (.fin [2,8]),.fin [10]] bB (fun _ _ _ h=>fM (P:=prog) (fn:=f3) _ _ _ h) Yg<|AC (γ:=Nat) (fun g=>True) (fun g=>[(72,.agg #[qI (C1.EB (C1.truths (cJ ls).1.row) (0:Int).toNat (((cJ ls).1.row.places.length:Int)-1).toNat),qI (C1.DR (C1.truths (cJ ls).1.row) (0:Int).toNat (((cJ ls).1.row.places.length:Int)-1).toNat)]),(10,qP g),(8,qP q3),(6,qI (mG ls).2),(5,qP q2),(4,qI (mX ls).2),(3,qP q1)]) (fun g=>[(g,qC [qI 0,qI 0] 55),(q3,qC (dR (cJ ls).1 pv2 cv2 hv2 lv2 mv2 bl2 bc2 yc2 yq2) 52),(q2,qC [qI (mG ls).1.1,qI (mG ls).1.2] 31),(q1,qC [qI (mX ls).1.1,qI (mX ls).1.2] 26)]) (fun g=>[D10,D6,D4,D]) [.fork [0,1,3,4,5,6,7] 2 (.fork [] 8 (.fin [9]) 9 (.fin [8])) 9 (.fin [2,8])] [.fin [10]] rfl ?_ ?_
   ·refine sX<|bP [(false,0),(false,1),(true,3),(true,4),(true,5),(true,6),(true,7)] rfl<|Zj rfl qW rfl<|dX rfl w0 L0 rfl Mm0 rfl rfl n4 rfl bRD<|Zj rfl qW rfl<|Zj rfl iW rfl<|Zo rfl cF rfl Mm0 rfl<|Zah rfl U35 rfl (R.pl.up RI.up (Le.refl _)) rfl<|Zau rfl<|Zan (dV true true rfl rfl ?_ ?_)
    ·refine Zaa rfl (fun hH I=>L1.x6 _ (cJ ls).1.row _ (R.row.up (I _ Yf)) ((X5 ls).rowOk (uZ ls))) fun v11 hH I U=>?_;have V:=U;refine Zan<|bP [] rfl<|Zan (dV true true rfl rfl ?_ ?_)
     ·refine Zd rfl (fun hR O=>L1.V0 _ (C1.truths (cJ ls).1.row) 0 (((cJ ls).1.row.places.length:Int)-1) _ (V.up RL.up (O _ Yf)) z1 z2 Yd z3 z4)<|Zan<|aT [(true,9)] rfl<|Zad rfl B3 rfl fun q4=>Zan ?_;exact fun a w hh=>⟨q4,bRD,hh.weak bQ Mm5 fun D0 h=>⟨D0,LE _ (h),Le.refl _⟩⟩
     ·refine Zad rfl B3 rfl fun q4=>Zan<|aT [(true,8)] rfl<|Wba ?_;exact fun a w hh=>⟨q4,bRD,hh.weak bQ Mm5 fun D0 h=>⟨D0,LE _ (h),Le.refl _⟩⟩
    ·refine Zad rfl B3 rfl fun q4=>Zan<|aT [(true,2),(true,8)] rfl<|Zaa rfl (fun hH I=>L1.x6 _ (cJ ls).1.row _ (R.row.up (I _ Yf)) ((X5 ls).rowOk (uZ ls))) fun v11 hH I U=>?_;have V:=U;refine Wba ?_;exact fun a w hh=>⟨q4,bRD,hh.weak bQ Mm5 fun D0 h=>⟨D0,LE _ (h),Le.refl _⟩⟩
   rintro qx -;dsimp only;refine nT [(false,10)] rfl<|Zz rfl qK ζ<|Zan<|pQ<|Zay<|bZ<|Za rfl<|Zaw rfl<|Za rfl ?_;refine' dQ 8 (s:=75) (p:=83) rfl (fun hg6=>?_) (fun hg6=>?_) ?_;rotate_left
   ·refine bI rfl vV rfl Mm2 iE n4 rfl ⟨_,rfl,rfl⟩<|Zk rfl UU rfl<|Zp rfl aH rfl Mm0 rfl<|Zk rfl QY rfl<|Zp rfl aH rfl Mm0 rfl<|iB (cs:=[qI (C1.EB (C1.truths (cJ ls).1.row) (0:Int).toNat (((cJ ls).1.row.places.length:Int)-1).toNat),qI (C1.DR (C1.truths (cJ ls).1.row) (0:Int).toNat (((cJ ls).1.row.places.length:Int)-1).toNat)]) rfl W9 pF rfl rfl rfl ⟨_,rfl,rfl⟩<|bIC (a:=(mG ls).1) (b:=(C1.EB (C1.truths (cJ ls).1.row) (0:Int).toNat (((cJ ls).1.row.places.length:Int)-1).toNat,C1.DR (C1.truths (cJ ls).1.row) (0:Int).toNat (((cJ ls).1.row.places.length:Int)-1).toNat)) rfl Yg aQC rfl rfl rfl ⟨_,rfl,rfl⟩<|Zak rfl ?_;exact aN 7
   ·refine Wal ?_;exact aN 7
   refine aF<|Zag rfl (fun hc3=>?_) fun hc3=>?_
   ·exact absurd hc3 (by rw[aZY hF];simp)
   ·refine aQ<|aA<|Zj rfl sU rfl<|dX rfl zU vH rfl Mm1 rfl rfl n4 rfl bRD<|Zaa rfl (fun D13 Z=>L3.W1 _ (cJ ls).1.book 3 _ (R.book.up (Z _ Yf)) z5 Yu z6 (fun l hl=>ZE (z7 l hl)) Yd) fun v13 D13 Z hX=>?_;have hY:=hX;refine Zf rfl<|bG<|Za rfl<|Zah rfl U59 rfl hY rfl<|Zap rfl<|aF<|Zaf rfl (fun rA=>?_) (fun rA=>?_)
    ·have htn:L3.iQ 3 (cJ ls).1.book.lines=[]:=bOL Yd;refine aA<|Za rfl<|Was ?_;refine' bU 4 (s:=92) (p:=96) rfl (fun hg7=>?_) (fun hg7=>?_) ?_;rotate_left
     ·refine bI rfl lZ rfl Mm3 eF n4 rfl ⟨_,rfl,rfl⟩<|Waz ?_;exact aN 3
     ·refine Wb ?_;exact aN 3
     refine Za rfl ?_;refine' bU 2 (s:=97) (p:=99) rfl (fun hg8=>?_) (fun hg8=>?_) ?_;rotate_left
     ·refine Ze rfl (fun D14 rB=>n6 _ (hV.up (rB _ Yf)))<|Zaj rfl ?_;exact aN 1
     ·refine Zg rfl<|Zak rfl ?_;exact aN 1
     refine Wi ?_;exact aE rfl fun D hD=>bLZ Value.bool (by rw[ZZ hF htn];simp)
    ·have htn:L3.iQ 3 (cJ ls).1.book.lines≠[]:=fun e=>rA Xaf
     refine aQ<|aA<|Zj rfl sU rfl<|dX rfl zU vH rfl Mm1 rfl rfl n4 rfl bRD<|Za rfl<|Zj rfl sU rfl<|Zj rfl gF rfl<|Zo rfl nB rfl Mm1 rfl<|Zah rfl U43 rfl (R.ln.up kE.up (Le.refl _)) rfl<|Zd rfl (fun D15 hB=>L3.XO _ _ (cJ ls).1.book (L3.iQ 3 (cJ ls).1.book.lines) (cJ ls).1.book.lines.length _ (R.book.up (hB _ Yf)) (hY.up L3.bFT.up (hB _ Yf)) (fun t ht=>by have:=n8 ((wG z7 z8).1 ht).1;omega) Yd Yd)<|Zad rfl V9 rfl fun q5=>Zz rfl pZ ζ ?_;refine aJ<|Za rfl<|Was ?_;refine' bU 8 (s:=110) (p:=118) rfl (fun hg9=>?_) (fun hg9=>?_) ?_;rotate_left
     ·refine bI rfl lZ rfl (bMJ _ Mm3) eF n4 rfl ⟨_,rfl,rfl⟩<|Zk rfl RE rfl<|Zp rfl aH rfl Mm0 rfl<|Zk rfl UW rfl<|Zp rfl aH rfl Mm0 rfl<|iB (cs:=[qI _,qI _]) rfl A2 lL rfl rfl rfl ⟨_,rfl,rfl⟩<|x9 (a:=(mX ls).1) (b:=(_,_)) rfl Yg aDX rfl rfl rfl ⟨_,rfl,rfl⟩<|Zaj rfl ?_;exact aN 7
     ·refine Zg rfl<|Wo ?_;exact aN 7
     refine Za rfl ?_;refine' bU 2 (s:=119) (p:=121) rfl (fun hg10=>?_) (fun hg10=>?_) ?_;rotate_left
     ·refine Ze rfl (fun D16 hD16=>n6 _ (hV.up (hD16 _ Yf)))<|Zaj rfl ?_;exact aN 1
     ·refine Zg rfl<|Zak rfl ?_;exact aN 1
     refine We ?_;exact aE rfl fun D hD=>bLZ Value.bool (by rw[aYD hF htn];simp)
end L12
end Go.Fs
