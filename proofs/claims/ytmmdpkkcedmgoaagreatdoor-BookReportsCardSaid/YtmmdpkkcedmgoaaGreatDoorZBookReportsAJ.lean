/- Of BookReports. -/
import Derived.Test.YtmmdpkkcedmgoaaGreatDoorZBookReportsAI
namespace Go.Fs
open Go.Proofs Tryz
namespace L1
open C1
theorem VS{r:dG}(hok:mV r):(bP r.places).length≤512:=by
 have h1:=tR r.places;have h3:2^r.places.length≤2^9:=wu Yd hok.len9;omega
theorem JQ{α:Type}{l:List α}{p:α→Bool}{k:Nat}{x:α}(hx:l[k]?= some x)(h:p x=true):(l.take (k+1)).filter p=(l.take k).filter p++[x]:=by
 rw[zg,hx,yd,xu,wj,zo h];rfl
theorem TT{α:Type}{l:List α}{p:α→Bool}{k:Nat}{x:α}(hx:l[k]?= some x)(h:p x=false):(l.take (k+1)).filter p=(l.take k).filter p:=by
 rw[zg,hx,yd,xu,wj,zv (by simp[h])];simp
theorem UV{r:dG}{t:List Int}(h:t∈bP r.places):eM r t=true:=by
 have key:∀(l t:List Int),t∈bP l→(t.length==l.length)=true∧((t.zip l).all λx=>rV x.1 x.2)=true:=by
  intro l;induction l with
  |nil=>intro t h;simp[bP]at h;subst h;simp
  |cons p ps ih=>
   intro t h;simp only[bP,zd]at h;rcases h with h|h
   ·split at h
    ·rename_i hp;obtain⟨u,hu,rfl⟩:=n5.1 h;obtain⟨h1,h2⟩:=ih u hu;refine⟨vj,?_⟩;rw[s3,uh,h2];rcases hp with rfl|rfl<;>rfl
    ·simp at h
   ·split at h
    ·rename_i hp;obtain⟨u,hu,rfl⟩:=n5.1 h;obtain⟨h1,h2⟩:=ih u hu;refine⟨vj,?_⟩;rw[s3,uh,h2];rcases hp with rfl|rfl<;>rfl
    ·simp at h
 obtain⟨h1,h2⟩:=key r.places t h;unfold eM;rw[h1,h2];rfl
theorem Ja{r:dG}{t:List Int}(_hm:t∈bP r.places)(h:(eM r t&&fits r t)=true):fits r t=true:=(Bool.and_eq_true_iff.1 h).2
theorem Is{r:dG}{t:List Int}(hm:t∈bP r.places)(_hok:mV r)(h:(eM r t&&fits r t)=false):fits r t=false:=by
 rw[UV hm]at h;simpa using h
theorem DH(rv:Γ)(r:dG)(D:aC)(hr:nS D rv r)(hok:mV r):Fn prog 14 #[rv] D (λD' v=>Sl D' RL 1 v (truths r)):=by
 have U:=hr;obtain⟨pv,cv,rfl,hp,hc⟩:=hr;have hal:=VS hok;refine Zx 28 func14 C λh0=>aA<|Zac C λq1 E1 hX V=>Zf C<|aJ<|Zf C<|aJ<|Zv C H7 C V wS<|Zz C (λZ Y=>LF _ r _ (U.up (Y _ Yf)) hok) λv1 Z Y hB=>?_;have hS:=hB;refine Zf C<|bD<|Zf C<|aE<|Za4<|Zc (Nat×Γ×List Γ×aF) (λg=>(bP r.places).length-g.1) (λg=>g.1≤(bP r.places).length∧bM 35 1 g.2.1 g.2.2.1.length g.2.2.1 g.2.2.2∧LA Z g.2.2.1 (((bP r.places).take g.1).filter (fits r))) (λg=>[(5,qI (g.1:Int)),(3,g.2.1)]) [(4,_),(2,_),(1,_)] (λg=>g.2.2.2++[]) (λg=>[Z,E1,D]) (0,qN,[],[]) ⟨Yf,mn,by simpa using LA.nil⟩ ⟨Ya,Ya,zy⟩ zp ?_;rintro⟨k,v,vs,ν⟩ ⟨h1,ha,hla⟩;simp only at h1 ha hla;have hvl:=hla.len;have hfl:=xm (fits r) ((bP r.places).take k);have htk:((bP r.places).take k).length≤k:=ul _ _;refine bL<|Za C<|Za C<|Zaj C U57 C hS C<|Zal C<|aE<|Zae C (λhc1=>?_) λhc1=>?_
 ·have hk:k<(bP r.places).length:=Yd
  obtain⟨t,ht⟩:=cF (bP r.places) k;have htm:=GE ht;have htr:oS r t:=pZ htm;refine aP<|Za6<|Za4<|Za6<|bK [] 3 6 30<|Zv C H7 C V wS<|Za C<|Za C<|Zy C U57 eZ C hS C ht λb1 o1 hY hE hO hH=>?_;obtain⟨w1,rfl,hI⟩:=hE;refine Zh 0 C bW C hH C<|Zd C (λD2 I=>SZ _ _ r t _ (U.up (I _ Yf)) (hI.up RI.up (I _ Yf)) hok)<|aE<|Zai C (λhc2=>?_) λhc2=>?_
  ·have hfy:=(Ja htm hc2)
   refine aM<|Za C<|Za C<|Za C<|Zy C U57 eZ C hS C ht λb2 o2 rA hJ hP hK=>?_;obtain⟨w2,rfl,O⟩:=hJ;refine Zh 0 C bW C hK C<|Zu C U57 eZ wP C (.cons O.cells1 C .nil) (λhR D901 hN R=>aT (A:=[]) (B:=_) C U57 C C eZ wP C UQ C C C ha (kX.lit R) Yf C Yf (by simpa using O.cell1) Yd (zq C) C zy λv1 ν1 ha1=>Wp ?_);exact aK 23 (k+1,v1,vs++[w2],ν1) ⟨Yl,km,by simp only;rw[JQ ht hfy];exact hla.snoc O⟩ Yl ⟨Ya,Ya,zy⟩ C C zp λD h=>⟨D,zb _ (h),Le.refl D⟩
  ·have hfn:=Is htm hok hc2;refine xz ?_;exact aK 15 (k+1,v,vs,ν) ⟨Yl,ha,by simp only;rw[TT ht hfn];exact hla⟩ Yl ⟨Ya,Ya,zy⟩ C C zp (aN)
 ·obtain rfl:k=(bP r.places).length:=Yd
  rw[ym]at hla;refine Za9<|Za5<|Za5<|Zba<|Za2<|aA<|Za C<|Zf C<|aG<|dE (A:=[]) (B:=[]) ha C λD2 I hF=>?_;exact aD C λD' hD=>(hF.lists hla (I _ Yf) (by have:=xm (fits r) (bP r.places);omega)).up RL.up (hD _ Yf)
end L1
namespace L2
open L1
open C2
open C1 (gF bH qH kU)
structure T3(t:bA):Prop where
 len:t.heights.length=4
 hts:∀r∈t.heights,0≤r.1∧r.1≤r.2∧r.2≤99∧r.2≤r.1+2
 step:0≤t.step∧t.step≤99
 mks:t.marks.length≤5
 mark:∀m∈t.marks,0≤m.frm∧m.frm≤m.to∧m.to≤3
theorem Xcu{q:Nat}{o:Obj}{ν B:aF}(h:(List.map (λp=>p.1) ((q,o)::(ν++B))).Nodup):∀p∈ν,p.1∉[q]:=by
 intro p hp hm;obtain rfl:p.1=q:=ob
 exact(xg.1 h).1 (n5.2 ⟨p,yw _ hp,C⟩)
def N5(r:Int×Int):Nat:=(r.2-r.1+1).toNat
theorem UI{r:Int×Int}(h:0≤r.1∧r.1≤r.2∧r.2≤99∧r.2≤r.1+2):((N5 r:Nat):Int)=r.2-r.1+1:=by unfold N5;omega
def qY:List (Int×Int)→Nat
 | []=>1
 |r::rs=>N5 r*qY rs
def sU:List (Int×Int)→Nat→List Int
 | [],_=>[]
 |r::rs,n=>(r.1+((n%N5 r:Nat):Int))::sU rs (n / N5 r)
def oH(step:Int):Option Int→List Int→Bool
 |_,[]=>true
 |p,n::l=>iF step p n&&oH step (some n) l
def aPM:List (Int×Int)→List Int→Prop
 | [],[]=>True
 |r::rs,x::l=>(r.1≤x∧x≤r.2)∧aPM rs l
 |_,_=>False
theorem Mt{rs:List (Int×Int)}{k:Nat}{r:Int×Int}(h:rs[k]?= some r):qY (rs.drop k)=N5 r*qY (rs.drop (k+1)):=by
 obtain⟨hk,rfl⟩:=yx.1 h;rw[xc hk];rfl
theorem G_{rs:List (Int×Int)}{k n:Nat}{r:Int×Int}(h:rs[k]?= some r):sU (rs.drop k) n=[r.1+((n%N5 r:Nat):Int)]++sU (rs.drop (k+1)) (n / N5 r):=by
 obtain⟨hk,rfl⟩:=yx.1 h;rw[xc hk];rfl
theorem aBV{k:Nat}(h:k≤4):3^k≤81:=wu (n:=3) Yu h
theorem In{m k s:Nat}(h:m≤3^k)(hs:s≤3):m*s≤3^(k+1):=by rw[Nat.pow_succ];exact rc h hs
theorem Cy{step:Int}{l:List Int}(h:1≤l.length):oH step none l=oH step (l[1-1]?) (l.drop 1):=by
 match l,h with
 |x::l,_=>rfl
theorem OR{step z x:Int}{l:List Int}{k:Nat}(hz:l[((k:Int)-1).toNat]?= some z)(hx:l[(k:Int).toNat]?= some x)(h1:1≤k):oH step (l[k-1]?) (l.drop k)=(iF step (some z) x&&oH step (l[k]?) (l.drop (k+1))):=by
 rw[show((k:Int)-1).toNat=k-1 by omega]at hz;rw[xr]at hx;obtain⟨hk,rfl⟩:=yx.1 hx;rw[hz,hx,xc hk];rfl
theorem W7:∀{rs:List (Int×Int)} {l:List Int},aPM rs l→l.length=rs.length
 | [],[],_=>rfl
 |_::_,_::_,h=>by rw[zh,zh,W7 h.2]
theorem dv:∀{rs:List (Int×Int)} {l:List Int} {k:Nat} {x:Int} {r:Int×Int},aPM rs l→l[k]?= some x→rs[k]?= some r→r.1≤x∧x≤r.2
 | [],[],_,_,_,_,h,_=>by simp at h
 |_::_,_::_,0,_,_,h,h1,h2=>by
  simp only[List.getElem?_cons_zero,uk]at h1 h2;subst h1;subst h2;exact h.1
 |_::_,_::_,k+1,_,_,h,h1,h2=>dv (k:=k) h.2 vj rt
theorem T7{t:bA}(h4:T3 t){l:List Int}(h:aPM t.heights l):∀x∈l,0≤x∧x≤99:=λx hx=>by
 obtain⟨k,hk,rfl⟩:=List.getElem_of_mem hx;have hl:=W7 h;have h1:=dv h (yz hk) (yz Yd);have h2:=h4.hts _ (List.getElem_mem (show k<t.heights.length by omega));omega
theorem Uh:∀{rs:List (Int×Int)},(∀r∈rs,N5 r≤3)→qY rs≤3^rs.length
 | [],_=>zk _
 |r::rs,h=>by
  rw[qY,zh,Nat.pow_succ,Nat.mul_comm];exact rc (Uh λq hq=>h q (GT _ hq)) (h r zj)
theorem YH{t:bA}(h4:T3 t):qY t.heights≤81:=by
 have:=Uh (rs:=t.heights) λr hr=>by have h1:=h4.hts r hr;have:=UI h1;omega
 rw[h4.len]at this;exact this
theorem Qq:∀{rs:List (Int×Int)} {n:Nat},(∀r∈rs,r.1≤r.2)→aPM rs (sU rs n)
 | [],_,_=>trivial
 |r::rs,n,h=>by
  have h1:=h r zj;have:n%N5 r<N5 r:=Nat.mod_lt _ (by unfold N5;omega)
  exact⟨by unfold N5 at this ⊢;omega,Qq λq hq=>h q (GT _ hq)⟩
theorem Ua{t:bA}(h4:T3 t){n:Nat}(_:n<qY t.heights):aPM t.heights (sU t.heights n):=Qq λr hr=>(h4.hts r hr).2.1
def I5(t:bA)(k:Nat):List (List Int):=((List.range k).map (sU t.heights)).filter (oH t.step none)
def pJ(t:bA):List (List Int):=I5 t (qY t.heights)
def nI(t:bA):List (List Int):=(pJ t).filter (iI t)
theorem IG(t:bA)(k:Nat):(I5 t k).length≤k:=by
 have:=xm (oH t.step none) ((List.range k).map (sU t.heights));rw[yh,vz]at this;exact this
theorem Me{t:bA}{k:Nat}(h:oH t.step none (sU t.heights k)=true):I5 t (k+1)=I5 t k++[sU t.heights k]:=by
 unfold I5;rw[yb,ze,xu];simp[h]
theorem Hq{t:bA}{k:Nat}(h:oH t.step none (sU t.heights k)=false):I5 t (k+1)=I5 t k:=by
 unfold I5;rw[yb,ze,xu];simp[h]
theorem CF{t:bA}(h4:T3 t){l:List Int}(h:l∈pJ t):aPM t.heights l∧oH t.step none l=true:=by
 obtain⟨h1,h2⟩:=xf.1 h;obtain⟨n,hn,rfl⟩:=n5.1 h1;exact⟨Ua h4 (yj.1 hn),h2⟩
theorem JQ{α:Type}{l:List α}{p:α→Bool}{k:Nat}{x:α}(hx:l[k]?= some x)(h:p x=true):(l.take (k+1)).filter p=(l.take k).filter p++[x]:=by
 rw[zg,hx,yd,xu,wj,zo h];rfl
theorem TT{α:Type}{l:List α}{p:α→Bool}{k:Nat}{x:α}(hx:l[k]?= some x)(h:p x=false):(l.take (k+1)).filter p=(l.take k).filter p:=by
 rw[zg,hx,yd,xu,wj,zv u_];simp
theorem Jb{α:Type}{l:List α}{p:α→Bool}{x:α}(hx:x∈l)(h:p x=false):l.all p=false:=by
 rw[ql];exact⟨x,hx,by simp[h]⟩
theorem Fc{step z x:Int}{l:List Int}{k:Nat}(hz:l[((k:Int)-1).toNat]?= some z)(hx:l[(k:Int).toNat]?= some x)(h:x-z≤step∧z-x≤step)(h1:1≤k:=by omega):oH step (l[k-1]?) (l.drop k)=oH step (l[k]?) (l.drop (k+1)):=by
 rw[OR hz hx h1];have e:iF step (some z) x=true:=bH.2 Yd;rw[e,v_]
theorem Am{step z x:Int}{l:List Int}{k:Nat}(hz:l[((k:Int)-1).toNat]?= some z)(hx:l[(k:Int).toNat]?= some x)(h:step<x-z∨step<z-x)(h1:1≤k:=by omega):oH step (l[k-1]?) (l.drop k)=false:=by
 rw[OR hz hx h1];have e:iF step (some z) x=false:=by
  rw[←Bool.not_eq_true];intro e
  have:=bH.1 e;omega
 rw[e,Bool.false_and]
theorem aIB{l:List Int}{a k:Nat}{x x0:Int}(hx:l[((a:Int)+k).toNat]?= some x):((l.drop a).take (k+1)).foldl max x0=max (((l.drop a).take k).foldl max x0) x:=by
 rw[show((a:Int)+k).toNat=a+k by omega]at hx;rw[zg,vb,hx,yd,xk];rfl
theorem Yaq{l:List Int}{a:Nat}{b x0:Int}(hx:l[(a:Int).toNat]?= some x0)(h:(a:Int)≤b):((l.drop a).take (b+1-a).toNat).foldl max x0=cO l a b:=by
 rw[xr]at hx;obtain⟨hk,rfl⟩:=yx.1 hx;unfold cO;rw[xr,xc hk,show(b+1-(a:Int)).toNat=(b-a).toNat+1 by omega,List.take_succ_cons,yp,Int.max_self];rfl
theorem Qi(n lo hi:Int)(D:aC):Fn prog 256 #[qI n,qI lo,qI hi] D (λ_ v=>v=.bool (gF n lo hi)):=by
 refine Zx 15 func256 C λh0=>g_ ?_;refine' bU 4 (s:=10) (p:=14) C (λI=>?_) (λI=>?_) ?_;rotate_left
 ·refine r_ ?_;exact aQ 3
 ·refine Wb ?_;exact aQ 3
 refine Wd ?_;exact aD C λD hD=>C
theorem LI(r:Int×Int)(h:0≤r.1∧r.1≤r.2∧r.2≤99∧r.2≤r.1+2)(D:aC):Fn prog 255 #[nA r] D (λ_ v=>v=qI ((N5 r:Nat):Int)):=by
 refine Zx 9 func255 C λh0=>aA<|Zac C λR E1 O I=>Zf C<|aJ<|Zj C C5 C<|Zh 1 C aH C I C<|Zj C wE C<|Zh 0 C aH C I C<|Zax C<|Zaf C<|Zf C ?_;refine aG ?_;exact aD C λD hD=>by rw[UI h];rfl
theorem wY(tv:Γ)(t:bA)(D:aC)(ht:hZ D tv t)(h4:T3 t):Fn prog 189 #[tv] D (λ_ v=>v=qI ((qY t.heights:Nat):Int)):=by
 have ht0:=ht;obtain⟨hv,lv,mv,rfl,hh,hl,hm⟩:=ht;have hlen:=h4.len;refine Zx 22 func189 C λh0=>aA<|Zac C λq1 E1 hE I=>Zf C<|aJ<|Zf C<|bD<|Zf C<|aE<|Za4<|cW (γ:=Nat×Nat) (λg=>t.heights.length-g.1) (λg=>g.1≤t.heights.length∧g.2≤3^g.1∧g.2*qY (t.heights.drop g.1)=qY t.heights) (λg=>[(4,qI (g.1:Int)),(3,qI (g.2:Int))]) [(2,_),(1,_)] (λg=>[E1,D]) (0,1) ⟨Yf,Yf,Yf⟩ ⟨Ya,Ya,zy⟩ cE (aN) ?_;rintro⟨k,m⟩ ⟨h1,h2,h3⟩;simp only at h1 h2 h3;refine bL<|Za C<|Zj C oM C<|Zh 1 C yU C I C<|Zaj C U39 C hh C<|Zal C<|aE<|Zae C (λhc1=>?_) λhc1=>?_
 ·simp only at hc1;have hk:k<t.heights.length:=Yd
  obtain⟨r,hr⟩:=cF t.heights k;have O:=h4.hts r (GE hr);have hs9:=UI O;have R:=In h2 (show N5 r≤3 by omega);have U:=aBV (show k+1≤4 by omega);have hmm:(m:Int)*((N5 r:Nat):Int)=((m*N5 r:Nat):Int):=by rw[Int.natCast_mul]
  have hmx:m*N5 r≤81:=xj R U;refine aP<|Za6<|Za4<|aM<|Za C<|Zj C oM C<|Zh 1 C yU C I C<|Za C<|Zy C U39 fD C hh C hr λb1 o1 V Y hB Z=>?_;obtain rfl:V=[qI _,qI _]:=Y;refine Zv C vJ C Z fD<|Zd C (λD1 hF=>LI r O _)<|EM C C C Ye C zy<|zL C C C C zy<|Zf C<|jk ?_;refine Zap ?_;exact aK 20 (k+1,m*N5 r) ⟨Yl,R,by simp only;rw[←h3,Mt hr,Nat.mul_assoc]⟩ Yl ⟨Ya,Z_,zy⟩ C C zp (aN)
 ·obtain rfl:k=t.heights.length:=by simp only at hc1;omega
  refine Wj ?_;exact aD C λD hD=>by rw[←h3,oy];show Value.int _ _=_;rw[qY,xp]
theorem GK(tv:Γ)(t:bA)(n:Nat)(D:aC)(ht:hZ D tv t)(h4:T3 t)(hn:n≤100000):Fn prog 190 #[tv,qI (n:Int)] D (λD' v=>Sl D' RI 1 v (sU t.heights n)):=by
 have ht0:=ht;obtain⟨hv,lv,mv,rfl,hh,hl,hm⟩:=ht;have hlen:=h4.len;refine Zx 35 func190 C λh0=>aA<|Zac C λq1 E1 hN R=>Zf C<|aJ<|Zf C<|bD<|Zf C<|aE<|Za4<|Zc (Nat×List Int×Nat×Γ×aF) (λg=>t.heights.length-g.1) (λg=>g.1≤t.heights.length∧g.2.1.length=g.1∧g.2.2.1≤100000∧sU t.heights n=g.2.1++sU (t.heights.drop g.1) g.2.2.1∧bM 3 1 g.2.2.2.1 g.1 (ints g.2.1) g.2.2.2.2) (λg=>[(6,qI (g.1:Int)),(5,g.2.2.2.1),(1,qI (g.2.2.1:Int))]) [(4,_),(2,_)] (λg=>g.2.2.2.2++[]) (λg=>[E1,D]) (0,[],n,qN,[]) ⟨Yf,C,hn,C,qz⟩ ⟨Ya,Ya,Ya,zy⟩ zp ?_;rintro⟨k,out,p,v,ν⟩ ⟨h0x,h1,h2,h3,ha⟩;simp only at h0x h1 h2 h3 ha;refine bL<|Za C<|Zj C oM C<|Zh 1 C yU C R C<|Zaj C U39 C hh C<|Zal C<|aE<|Zae C (λhc1=>?_) λhc1=>?_
 ·simp only at hc1;have hk:k<t.heights.length:=Yd
  obtain⟨r,hr⟩:=cF t.heights k;have O:=h4.hts r (GE hr);have hs9:=UI O;have hmd:(p:Int)%((N5 r:Nat):Int)=((p%N5 r:Nat):Int):=rfl;obtain⟨d,hd⟩:∃d,p / N5 r=d:=⟨_,C⟩
  have hdv:(p:Int) / ((N5 r:Nat):Int)=(d:Int):=by rw[←hd];rfl
  have hml:p%N5 r<N5 r:=Nat.mod_lt _ Yd;have hdl:d≤p:=by rw[←hd];exact Nat.div_le_self _ _
  refine aP<|Za6<|Za4<|aA<|Zj C oM C<|Zh 1 C yU C R C<|Za C<|Zy C U39 fD C hh C hr λb1 o1 U V hJ Y=>?_;obtain rfl:U=[qI _,qI _]:=V;refine Zv C vJ C Y fD<|Zag C lC C λZ=>fG C C C C fD Yb Yb ζ Ym zy<|aE<|rM λhnd=>?_;have hnu:=Xcu hnd;have hqo:Z∉dI.mk [Z]:=dI.out Yf;refine fS (dI.mk [Z]) 6 [0,1,2,3,4,10,11,5,6,7,8,9,12,13,14,15] [false,true,true,true,true,true,true,true,true,true,true,true,true,false,true,false] [(false,0),(true,1),(true,2),(true,3),(true,4),(true,10),(true,11),(true,5),(true,6),(true,7),(true,8),(true,9),(true,12),(false,13),(true,14),(false,15)] aV (λ_ _ _ h=>eA (P:=prog) (fn:=f190) _ _ _ h) Yg C<|Za C<|Zj C wE C<|bG C aH C zu C Yo C zy<|Za C<|bN C vJ C zu fD Yo C zy<|Za C<|bN C vJ C zu fD Yo C zy<|Zd C (λD1 hO=>LI r O _)<|uR C C C Yd Yd (by rw[hmd];simp only[vE];omega) C zy ?_
  rw[hmd];refine Zaf C<|Zu C U35 aI cN C (.cons C C .nil) λhK D901 hB I=>?_;have hE:=Sl.ofInts (l:=[_]) (n:=1) (cap:=1) I C Yd Yd;refine aT (A:=[(_,_)]) (B:=[]) C U35 C C aI cN C jV C C C ha (kX.lit I) Yf C (by simp[ints,h1]) Ym Yd (zt λp hp=>dI.in_ (hnu p hp)) C zy λv1 ν1 ha1=>?_;have hH:bM 3 1 v1 (out.length+1) (ints (out++[r.1+((p%N5 r:Nat):Int)])) ν1:=by rw[←eL,h1];exact ha1
  refine Zd C (λD2 hI=>LI r O _)<|HX C C C Yd Yd (by rw[hdv];simp only[vE];omega) C zy ?_;rw[hdv];refine Zf C<|Wp ?_;exact aK 33 (k+1,out++[r.1+((p%N5 r:Nat):Int)],d,v1,ν1) ⟨Yl,by simp[h1],Yl,by simp only;rw[h3,G_ hr,yy,hd],by simpa [h1]using hH⟩ Yl ⟨Ya,Ya,Ya,zy⟩ C C (List.Sublist.cons _ zp) λD h=>⟨D,zb _ (h),Le.refl D⟩
 ·obtain rfl:k=t.heights.length:=by simp only at hc1;omega
  rw[oy]at h3;refine Za9<|Za5<|Za5<|Zba<|Za2<|aA<|Za C<|Zf C<|aG<|dE (A:=[]) (B:=[]) ha C λD2 hI hF=>?_;exact aD C λD' hD=>by rw[h3,sU,yr];exact(hF.ints h1 Yd).up RI.up (hD _ Yf)
theorem XD(tv O:Γ)(t:bA)(l:List Int)(D:aC)(ht:hZ D tv t)(I:Sl D RI 1 O l)(h4:T3 t)(h1:1≤l.length)(hb:∀x∈l,0≤x∧x≤99):Fn prog 191 #[tv,O] D (λ_ v=>v=.bool (oH t.step none l)):=by
 have ht0:=ht;obtain⟨hv,lv,mv,rfl,hh,hl,hm⟩:=ht;have hlen:=h4.len;have hs9:=h4.step;have hll:=I.len;refine Zx 40 func191 C λh0=>aA<|Zac C λq1 E1 hK R=>Zf C<|bD<|Zf C<|aE<|Za4<|cW (γ:=Nat) (λk=>l.length-k) (λk=>1≤k∧k≤l.length∧oH t.step none l=oH t.step (l[k-1]?) (l.drop k)) (λk=>[(5,qI (k:Int))]) [(4,_),(2,_),(1,_)] (λk=>[E1,D]) 1 ⟨Yd,h1,Cy h1⟩ ⟨Ya,zy⟩ cE (aN) ?_;rintro k ⟨h2,h3,h5⟩;refine bL<|Za C<|Za C<|Zaj C U35 C I C<|Zal C<|aE<|Zae C (λhc1=>?_) λhc1=>?_
 ·have hk:k<l.length:=Yd
  obtain⟨x,hx⟩:=cF l k;obtain⟨z,U⟩:=cF l (k-1);have hz:l[((k:Int)-1).toNat]?= some z:=by rw[show((k:Int)-1).toNat=k-1 by omega];exact U
  have hN:=hb x (GE hx);have hO:=hb z (GE hz);refine aP<|Za6<|Za4<|Za6<|bK [] 7 28 58297842<|Za C<|Za C<|gH C I C hx λb1 o1=>Za C<|Za C<|Zax C<|gH C I C hz λb2 o2=>?_;refine Zax C<|Zj C HI C<|Zh 2 C aH C R C<|uv ?_;refine' dU 14 (s:=25) (p:=39) C (λV=>?_) (λV=>?_) ?_;rotate_left
  ·refine Zb C<|Zb C<|xO C C C Ye C ⟨_,C,C⟩<|eF C U35 aI C I C Yd hz C ⟨_,C,C⟩ λb3 o3 Y Z hI hB=>?_;obtain rfl:Y=[qI _]:=Z;refine Zi 0 C aH C hB C<|Zb C<|Zb C<|eF C U35 aI C I C Yd hx C ⟨_,C,C⟩ λb4 o4 hE hF hJ hH=>?_;obtain rfl:hE=[qI _]:=hF;refine Zi 0 C aH C hH C<|xO C C C Ye C ⟨_,C,C⟩<|Zk C HI C<|Zi 2 C aH C R C<|Wy ?_;exact aQ 13
  ·refine ol ?_;refine Zg C<|Zam C ?_;exact aQ 13
  refine aE<|Zai C (λhc2=>?_) λhc2=>?_
  ·refine aA<|Wg ?_;exact aD C λD hD=>by show Value.bool _=_;rw[h5,Am hz hx wm]
  ·refine xz ?_;exact aK 23 (k+1) ⟨Yd,Yd,by rw[h5,Fc hz hx wm];rfl⟩ Yd ⟨Ya,zy⟩ C C zp (aN)
 ·obtain rfl:k=l.length:=Yd
  refine Wk ?_;exact aD C λD hD=>by show Value.bool _=_;rw[h5,oy];rfl
theorem T_(I:Γ)(l:List Int)(a b:Int)(D:aC)(O:Sl D RI 1 I l)(h4:l.length=4)(hab:0≤a∧a≤b∧b≤3):Fn prog 195 #[I,qI a,qI b] D (λ_ v=>v=qI (cO l a b)):=by
 obtain⟨a0,rfl⟩:=lg hab.1;obtain⟨x0,hx0⟩:∃x,l[a0]?= some x:=⟨_,yz Yd⟩
 refine Zx 26 func195 C λh0=>aA<|Zf C<|aJ<|Za C<|Za C<|gH C O C hx0 λR U=>Zf C<|bD<|Za C<|Zf C<|aE ?_;refine Za4<|Zo Nat (λk=>(b+1-a0).toNat-k) (λk=>(a0:Int)+k≤b+1) (λk=>[(8,qI ((a0:Int)+k)),(7,qI (((l.drop a0).take k).foldl max x0))]) [(6,_),(0,_),(2,_)] (λk=>[D]) 0 ⟨Ya,Ya,zy⟩ ?_;rintro k h1;refine bL<|Za C<|Za C<|iB C C C C zy<|aE<|Zae C (λhc1=>?_) λhc1=>?_
 ·obtain⟨x,hx⟩:=cF l ((a0:Int)+k).toNat;refine aP<|Za6<|Za4<|aM<|Za C<|Za C<|Za C<|gH C O C hx λb2 V=>mL C C C C zy<|Zf C<|Zap<|Za7 ?_;refine l_ ?_;exact Zl 15 (k+1) ⟨Ya,(by rw[aIB (a:=a0) (k:=k) hx];rfl),zy⟩ C zp
 ·obtain rfl:k=(b+1-a0).toNat:=Yd
  refine Wj ?_;exact aD C λD hD=>by show Value.int _ _=_;rw[Yaq hx0 Yd]
theorem Hy(O:Γ)(l:List Int)(m:Mk)(D:aC)(R:Sl D RI 1 O l)(h4:l.length=4)(hm:0≤m.frm∧m.frm≤m.to∧m.to≤3):Fn prog 193 #[O,ni m] D (λ_ v=>v=.bool (gF (cO l m.frm m.to) m.lo m.hi)):=by
 refine Zx 18 func193 C λh0=>aA<|Zac C λZ E1 V I=>Zf C<|bX<|fS [] 3 [0,1,2,3,4,6,7,8,9,10,11,5,12,13] [false,true,true,true,true,true,true,true,true,true,true,true,false,false] [(false,0),(true,1),(true,2),(true,3),(true,4),(true,6),(true,7),(true,8),(true,9),(true,10),(true,11),(true,5),(false,12),(false,13)] aV (λ_ _ _ h=>eA (P:=prog) (fn:=f193) _ _ _ h) Yg C<|Za C<|Zj C Fu C<|Zh 0 C aH C I C<|Zj C Gy C<|Zh 1 C aH C I C<|Zj C NK C ?_;refine Zj C wE C<|Zh 2 C aH C I C<|Zj C NK C<|Zj C C5 C<|Zh 3 C aH C I C<|Zd C (λD1 U=>T_ _ l _ _ _ (R.up RI.up (U _ Yf)) h4 hm)<|Zd C (λD2 Y=>Qi _ _ _ _)<|Wd ?_;exact aD C λD hD=>C
theorem TX(tv R:Γ)(t:bA)(l:List Int)(D:aC)(ht:hZ D tv t)(O:Sl D RI 1 R l)(h4:T3 t)(hin:aPM t.heights l)(hnr:oH t.step none l=true):Fn prog 192 #[tv,R] D (λ_ v=>v=.bool true):=by
 have ht0:=ht;obtain⟨hv,lv,mv,rfl,hh,hl,hm⟩:=ht;have hlen:=h4.len;have hll:=W7 hin;have hlb:=T7 h4 hin;refine Zx 48 func192 C λh0=>aA<|Zac C λq1 E1 hN I=>Zf C<|bD<|Zf C<|aE<|Za4<|Zo Nat (λk=>l.length-k) (λk=>k≤l.length) (λk=>[(5,qI (k:Int))]) [(4,_),(2,_),(1,_)] (λk=>[E1,D]) 0 ⟨Ya,zy⟩ ?_;rintro k h1;refine bL<|Za C<|Za C<|Zaj C U35 C O C<|sh ?_;refine' bU 6 (s:=10) (p:=16) C (λV=>?_) (λV=>?_) ?_;rotate_left
 ·refine Zb C<|Zk C oM C<|Zi 1 C yU C I C<|eQ C U39 C hh C C ⟨_,C,C⟩<|IU C C C C ⟨_,C,C⟩<|Zam C ?_;exact aQ 5
 ·refine Zg C<|vw ?_;exact aQ 5
 refine aE<|Zai C (λhc1=>?_) λhc1=>?_
 ·have hk:k<l.length:=by have h9:=hc1;simp only[zl,LE]at h9;omega
  obtain⟨x,hx⟩:=cF l k;obtain⟨r,hr⟩:=cF t.heights k;have hxr:=dv hin hx hr;refine aP<|Za6<|Za4<|Za6<|bK [] 6 18 65522<|Za C<|Za C<|gH C O C hx λb1 o1=>Zj C oM C<|Zh 1 C yU C I C<|Za C<|Zy C U39 fD C hh C hr λb2 o2 Y Z hJ hB=>?_;obtain rfl:Y=[qI _,qI _]:=Z;refine Zj C wE C<|Zh 0 C aH C hB C<|Zj C oM C<|Zh 1 C yU C I C<|Za C<|Zy C U39 fD C hh C hr λb3 o3 hE hF hK hH=>?_;obtain rfl:hE=[qI _,qI _]:=hF;refine Zj C C5 C<|Zh 1 C aH C hH C<|Zd C (λD1 hO=>Qi _ _ _ _)<|Zav C<|aE<|Zai C (λhc2=>?_) λhc2=>?_
  ·exact absurd hc2 (by rw[(C1.bH (n:=x)).2 hxr];simp)
  ·refine xz ?_;exact Zl 28 (k+1) ⟨Ya,zy⟩ C zp
 ·refine Za9<|Za5<|Za5<|Zba<|Za2<|aA<|Za C<|Zaj C U35 C O C<|Zj C oM C<|Zh 1 C yU C I C<|Zaj C U39 C hh C<|Zas C ?_;refine Za C ?_;refine' bU 4 (s:=43) (p:=47) C (λhI=>?_) (λhI=>?_) ?_;rotate_left
  ·refine cQ C yY C I Yc uM n4 C ⟨_,C,C⟩<|Zb C<|Ze C (λD2 U=>XD _ _ t l _ (ht0.up (U _ Yf)) (O.up RI.up (U _ Yf)) h4 Yd hlb)<|Zam C ?_;exact aQ 3
  ·refine Wb ?_;exact aQ 3
  refine Wd ?_;exact aD C λD hD=>by show Value.bool _=_;rw[hnr,hll];simp
theorem XH(tv O:Γ)(t:bA)(l:List Int)(D:aC)(ht:hZ D tv t)(R:Sl D RI 1 O l)(h4:T3 t)(hin:aPM t.heights l)(hnr:oH t.step none l=true):Fn prog 118 #[tv,O] D (λ_ v=>v=.bool (iI t l)):=by
 have ht0:=ht;obtain⟨hv,lv,mv,rfl,hh,hl,hm⟩:=ht;have hlen:=h4.len;have hll:=W7 hin;have hlb:=T7 h4 hin;have hml:=h4.mks;refine Zx 25 func118 C λh0=>aA<|Zac C λq1 E1 hH I=>Zf C<|bD<|Zv C yY C I uM<|Za C<|Zd C (λD1 U=>TX _ _ t l _ (ht0.up (U _ Yf)) (R.up RI.up (U _ Yf)) h4 hin hnr)<|Zav C<|aE<|Zai C (λhc1=>?_) λhc1=>?_
 ·cases hc1
 ·refine aP<|bL<|Zf C<|aE<|Za4<|cW (γ:=Nat) (λk=>t.marks.length-k) (λk=>k≤t.marks.length∧(t.marks.take k).all (λm=>gF (cO l m.frm m.to) m.lo m.hi)=true) (λk=>[(5,qI (k:Int))]) [(4,_),(2,_),(1,_)] (λk=>[E1,D]) 0 ⟨Yd,C⟩ ⟨Ya,zy⟩ cE (aN) ?_;rintro k ⟨h1,h2⟩;refine bL<|Za C<|Zj C oK C<|Zh 4 C T4 C I C<|Zaj C U40 C hm C<|Zal C<|aE<|Zae C (λhc2=>?_) (λhc2=>?_)
  ·have hk:k<t.marks.length:=Yd
   obtain⟨x,hx⟩:=cF t.marks k;have V:=h4.mark x (GE hx);refine aP<|Za6<|Za4<|aA<|Za C<|Zj C oK C<|Zh 4 C T4 C I C<|Za C<|Zy C U40 yF C hm C hx λb1 o1 Y Z hF hB=>?_;obtain rfl:Y=[qI _,qI _,qI _,qI _]:=Z;refine Zv C aAG C hB yF<|Zd C (λD2 hE=>Hy _ l x _ (R.up RI.up (hE _ Yf)) Yd V)<|Zav C<|aE<|Zai C (λhc3=>?_) λhc3=>?_
   ·refine aA<|Wg ?_;exact aD C λD hD=>by show Value.bool _=_;unfold iI;rw[Jb (GE hx) ua]
   ·refine xz ?_;exact aK 17 (k+1) ⟨Yd,by rw[zg,hx,List.all_append,h2];simpa using hc3⟩ Yd ⟨Ya,zy⟩ C C zp (aN)
  ·obtain rfl:k=t.marks.length:=Yd
   rw[ym]at h2;refine Wk ?_;exact aD C λD hD=>by show Value.bool _=_;unfold iI;rw[h2]
theorem PS(tv:Γ)(t:bA)(D:aC)(ht:hZ D tv t)(h4:T3 t):Fn prog 117 #[tv] D (λD' v=>Sl D' RL 1 v (pJ t)):=by
 have ht0:=ht;obtain⟨hv,lv,mv,rfl,hh,hl,hm⟩:=ht;have hlen:=h4.len;have hpr:=YH h4;refine Zx 23 func117 C λh0=>aA<|Zac C λq1 E1 hE R=>Zf C<|aJ<|Zf C<|bD<|Zf C<|aE<|Za4<|fE (γ:=Nat×Γ×List Γ×aF×aC) (λg=>qY t.heights-g.1) (λg=>g.1≤qY t.heights∧bM 35 1 g.2.1 g.2.2.1.length g.2.2.1 g.2.2.2.1∧LA g.2.2.2.2 g.2.2.1 (I5 t g.1)) (λg=>[(4,qI (g.1:Int)),(3,g.2.1)]) [(2,_),(1,_)] (λg=>g.2.2.2.1++[]) (λg=>[g.2.2.2.2,E1,D]) (0,qN,[],[],D) ⟨Yf,mn,LA.nil⟩ ⟨Ya,Ya,zy⟩ cE zp (ew) ?_;rintro⟨k,v,vs,ν,Dn⟩ ⟨h1,ha,hla⟩;simp only at h1 ha hla;have hvl:=hla.len;have hkl:=IG t k;refine bL<|Za C<|Zv C yY C R uM<|Zd C (λD1 Y=>wY _ t _ (ht0.up (Y _ Yf)) h4)<|Zal C<|aE<|Zae C (λhc1=>?_) λhc1=>?_
 ·have hk:k<qY t.heights:=by simp only at hc1;omega
  have hni:=Ua h4 hk;have hnl:=W7 hni;have hnb:=T7 h4 hni;refine aP<|Za6<|Za4<|aA<|Zv C yY C R uM<|Za C<|Zz C (λD2 O=>GK _ t k _ (ht0.up (O _ Yf)) h4 Yd) λv2 D2 O Z=>?_;have hw:=Z;refine Zf C<|aJ<|Zv C yY C R uM<|Za C<|Zd C (λD3 V=>XD _ _ t (sU t.heights k) _ (ht0.up (V _ Yf)) (hw.up RI.up (V _ Yf)) h4 Yd hnb)<|aE<|Zai C (λhc2=>?_) λhc2=>?_
  ·refine aM<|Za C<|Za C<|Zu C U57 eZ wP C (.cons hw.cells1 C .nil) (λhB D901 I U=>aT (A:=[]) (B:=_) C U57 C C eZ wP C UQ C C C ha (kX.lit U) Yf C Yf (by simpa using hw.cell1) Yd (zq C) C zy λv1 ν1 ha1=>Zf C<|l3 ?_);refine sg ?_;exact aK 21 (k+1,v1,vs++[v2],ν1,D901) ⟨Yl,km,by simp only;rw[Me hc2];exact(hla.up (I Dn Yf)).snoc (hw.up RI.up (I _ Yf))⟩ Yl ⟨Ya,Ya,zy⟩ C C zp (Xw)
  ·refine xz ?_;exact aK 16 (k+1,v,vs,ν,Dn) ⟨Yl,ha,by simp only;rw[Hq hc2];exact hla⟩ Yl ⟨Ya,Ya,zy⟩ C C zp (Yp)
 ·obtain rfl:k=qY t.heights:=by simp only at hc1;omega
  refine Za9<|Za5<|Za5<|Zba<|Za2<|aA<|Za C<|Zf C<|aG<|dE (A:=[]) (B:=[]) ha C λD2 O hF=>?_;exact aD C λD' hD=>(hF.lists hla (O _ Yf) Yd).up RL.up (hD _ Yf)
theorem K5(tv:Γ)(t:bA)(D:aC)(ht:hZ D tv t)(h4:T3 t):Fn prog 56 #[tv] D (λD' v=>Sl D' RL 1 v (nI t)):=by
 have ht0:=ht;obtain⟨hv,lv,mv,rfl,hh,hlv,hm⟩:=ht;have hpr:=YH h4;have hkl:=IG t (qY t.heights);refine Zx 28 func56 C λh0=>aA<|Zac C λq1 E1 hX U=>Zf C<|aJ<|Zf C<|aJ<|Zv C yY C U uM<|Zz C (λY V=>PS _ t _ (ht0.up (V _ Yf)) h4) λZ Y V hB=>?_;have hS:Sl Y RL 1 Z (pJ t):=hB;have hSl:(pJ t).length≤81:=by have h9:=hkl;unfold pJ;omega
 refine Zf C<|bD<|Zf C<|aE<|Za4<|Zc (Nat×Γ×List Γ×aF) (λg=>(pJ t).length-g.1) (λg=>g.1≤(pJ t).length∧bM 35 1 g.2.1 g.2.2.1.length g.2.2.1 g.2.2.2∧LA Y g.2.2.1 (((pJ t).take g.1).filter (iI t))) (λg=>[(5,qI (g.1:Int)),(3,g.2.1)]) [(4,_),(2,_),(1,_)] (λg=>g.2.2.2++[]) (λg=>[Y,E1,D]) (0,qN,[],[]) ⟨Yf,mn,by simpa using LA.nil⟩ ⟨Ya,Ya,zy⟩ zp ?_;rintro⟨k,v,vs,ν⟩ ⟨h1,ha,hla⟩;simp only at h1 ha hla;have hvl:=hla.len;have hfl:=xm (iI t) ((pJ t).take k);have htk:((pJ t).take k).length≤k:=ul _ _;refine bL<|Za C<|Za C<|Zaj C U57 C hS C<|Zal C<|aE<|Zae C (λhc1=>?_) λhc1=>?_
 ·have hk:k<(pJ t).length:=Yd
  obtain⟨l,hl⟩:=cF (pJ t) k;obtain⟨hin,hnr⟩:=CF h4 (GE hl);refine aP<|Za6<|Za4<|Za6<|bK [] 3 6 30<|Zv C yY C U uM<|Za C<|Za C<|Zy C U57 eZ C hS C hl λb1 o1 hY hE hO hH=>?_;obtain⟨w1,rfl,hI⟩:=hE;refine Zh 0 C bW C hH C<|Zd C (λD2 I=>XH _ _ t l _ (ht0.up (I _ Yf)) (hI.up RI.up (I _ Yf)) h4 hin hnr)<|aE<|Zai C (λhc2=>?_) λhc2=>?_
  ·refine aM<|Za C<|Za C<|Za C<|Zy C U57 eZ C hS C hl λb2 o2 rA hJ hP hK=>?_;obtain⟨w2,rfl,O⟩:=hJ;refine Zh 0 C bW C hK C<|Zu C U57 eZ wP C (.cons O.cells1 C .nil) (λhR D901 hN R=>aT (A:=[]) (B:=_) C U57 C C eZ wP C UQ C C C ha (kX.lit R) Yf C Yf (by simpa using O.cell1) Yd (zq C) C zy λZ ν1 ha1=>Wp ?_);exact aK 23 (k+1,Z,vs++[w2],ν1) ⟨Yl,km,by simp only;rw[JQ hl hc2];exact hla.snoc O⟩ Yl ⟨Ya,Ya,zy⟩ C C zp λD h=>⟨D,zb _ (h),Le.refl D⟩
  ·refine xz ?_;exact aK 15 (k+1,v,vs,ν) ⟨Yl,ha,by simp only;rw[TT hl hc2];exact hla⟩ Yl ⟨Ya,Ya,zy⟩ C C zp (aN)
 ·obtain rfl:k=(pJ t).length:=Yd
  rw[ym]at hla;refine Za9<|Za5<|Za5<|Zba<|Za2<|aA<|Za C<|Zf C<|aG<|dE (A:=[]) (B:=[]) ha C λD2 I hF=>?_;exact aD C λD' hD=>(hF.lists hla (I _ Yf) (by have:=xm (iI t) (pJ t);omega)).up RL.up (hD _ Yf)
end L2
namespace L7
open C7
theorem Be{l:List Int}{k u:Nat}{n:Int}(hn:l[k]?= some n)(h:n=2):((u+Y4 (l.take (k+1)):Nat):Int)=((u+Y4 (l.take k):Nat):Int)+1:=by
 rw[zg,hn];simp only[Y4,yd,xu,zf];simp[h];omega
theorem aCL{l:List Int}{k u:Nat}{n:Int}(hn:l[k]?= some n)(h:¬n=2):((u+Y4 (l.take (k+1)):Nat):Int)=((u+Y4 (l.take k):Nat):Int):=by
 rw[zg,hn];simp only[Y4,yd,xu,zf];simp[h]
theorem Mm1(r:Int×Int):((decide (r.1<0)||decide (r.2<r.1))||decide (7<r.2))= !nN r:=by
 unfold nN;rw[vv];simp only[yg,LE,vt,pf,yt];omega
theorem Hg{p:Pt}(h:xP p):decide (p.a+p.b+p.c=3)=iM p:=by
 obtain⟨a,b,c⟩:=p;obtain⟨h1,h2,h3⟩:=h;unfold iM;rw[vv];simp only[LE,Pt.mk.injEq]at *;omega
theorem VO{f:Int}{a b:Nat}{p q:Pt}{I x2:Ch}(hp:xP p)(hq:xP q):
  (((((((decide ((a:Int)≠b)&& !iM p)&& !iM q)&&decide (I.size-x2.size≤f))&&decide (-(I.size-x2.size)≤f))&&decide (0<p.a+q.a))&&decide (0<p.b+q.b))&&decide (0<p.c+q.c))=((decide ((b:Int)≠a)&&Z7 f I x2)&&Z9 p q):=by
 obtain⟨pa,pb,pc⟩:=p;obtain⟨qa,qb,qc⟩:=q;obtain⟨h1,h2,h3⟩:=hp;obtain⟨h4,h5,h6⟩:=hq;unfold Z9 Z7 iM gF;rw[vv];simp only[zl,LE,vt,yt,Pt.mk.injEq]at *;constructor
 ·rintro⟨⟨⟨⟨⟨⟨⟨O,R⟩,U⟩,V⟩,Y⟩,Z⟩,e7⟩,e8⟩;exact⟨⟨λe=>O e.symm,Yd,Yd⟩,⟨R,U⟩,Yd,Yd,Yd⟩
 ·rintro⟨⟨O,R,U⟩,⟨V,Y⟩,Z,e7,e8⟩;exact⟨⟨⟨⟨⟨⟨⟨λe=>O e.symm,V⟩,Y⟩,Yd⟩,Yd⟩,Yd⟩,Yd⟩,Yd⟩
def gR(y:aS)(t:List Pt)(l:List (Int×Int)):Nat:=whole t+(l.filter λp=>kH y t p.1.toNat p.2.toNat).length
theorem NQ(y:aS)(t:List Pt)(l:List (Int×Int)):gR y t l≤t.length+l.length:=by
 have h1:=xm (λp:Int×Int=>kH y t p.1.toNat p.2.toNat) l;have h2:whole t≤t.length:=xm _ _;unfold gR;omega
theorem Ni{y:aS}{t:List Pt}{l:List (Int×Int)}{k x z:Nat}(h:l[k]?= some ((x:Int),(z:Int)))(hf:kH y t x z=true):((gR y t (l.take (k+1)):Nat):Int)=(gR y t (l.take k):Int)+1:=by
 unfold gR;rw[zg,h,yd,xu,zf];simp[hf];omega
theorem If{y:aS}{t:List Pt}{l:List (Int×Int)}{k x z:Nat}(h:l[k]?= some ((x:Int),(z:Int)))(hf:kH y t x z=false):gR y t (l.take (k+1))=gR y t (l.take k):=by
 unfold gR;rw[zg,h,yd,xu,zf];simp[hf]
def nD(cl:List (Int×Int))(n:Int)(i:Nat):Bool:=match cl[i]? with
 |some r=>gF n r.1 r.2
 |none=>false
theorem PF{cl:List (Int×Int)}{n:Int}{i:Nat}{r:Int×Int}(h:cl[i]?= some r):nD cl n i=gF n r.1 r.2:=by unfold nD;rw[h]
theorem KP(yv:Γ)(y:aS)(D:aC)(hy:gZ D yv y)(h7:y.chairs.length≤1000):Fn prog 147 #[yv] D (λ_ v=>v=qI (cZ y.chairs:Int)):=by
 obtain⟨cv,qv,rfl,hc,hq⟩:=hy;refine Zx 29 func147 C λh0=>aA<|Zac C λq1 E1 Y I=>Zf C<|aJ<|Zf C<|bD<|Zf C<|aE<|Za4<|Zo Nat (λi=>y.chairs.length-i) (λi=>i≤y.chairs.length) (λi=>[(4,qI (i:Int)),(3,qI (cZ (y.chairs.take i):Int))]) [(2,_),(1,_)] (λi=>[E1,D]) 0 ⟨Ya,(by simp[cZ];rfl),zy⟩ ?_
 rintro i h1;refine bL<|Za C<|Zj C iQ C<|Zh 0 C qM C I C<|Zaj C U47 C hc C<|Zal C<|aE<|Zae C (λhc1=>?_) λhc1=>?_
 ·have hi:i<y.chairs.length:=Yd
  obtain⟨x,hx⟩:=cF y.chairs i;have hub:=Py (y.chairs.take i);have hut:(y.chairs.take i).length≤i:=ul _ _;refine aP<|Za6<|Za4<|aA<|Zf C<|aE<|Za4<|Zo Nat (λk=>3-k) (λk=>k≤3) (λk=>[(5,qI (k:Int)),(3,qI ((cZ (y.chairs.take i)+Y4 (x.parts.l.take k):Nat):Int))]) [(10,_),(9,_),(8,_),(7,_),(6,_),(4,_),(2,_),(1,_)] (λk=>[E1,D]) 0 ⟨Ya,(by simp[Y4];rfl),zy⟩ ?_
  rintro k h2;refine bL<|Za C<|Zal C<|aE<|Zae C (λhc2=>?_) λhc2=>?_
  ·have Z:k<3:=Yd
   obtain⟨n,hn⟩:∃n,x.parts.l[k]?= some n:=⟨_,yz (by simp[Pt.l];omega)⟩
   have hkl:=Tx (x.parts.l.take k);have hkt:(x.parts.l.take k).length≤k:=ul _ _;refine aP<|Za6<|Za4<|aA<|Zj C iQ C<|Zh 0 C qM C I C<|Za C<|Za C<|Zy C U47 tN C hc C hx λb1 o1 O R V U=>?_;obtain rfl:O=[qI _,qI _,qI _,qI _]:=R;refine Zj C DV C<|fH C U265 aI C C Yd Yd C zy<|eE (o:=_+1) (k:=k*1) C aH C U.tail Yf (Rh hn) n4 C zy<|Zas C<|aE<|Zae C (λhc3=>?_) λhc3=>?_
   ·refine og ?_;exact Zl 19 (k+1) ⟨Ya,(by rw[Be hn hc3];rfl),zy⟩ C zp
   ·refine xz ?_;exact Zl 16 (k+1) ⟨Ya,(by rw[aCL hn hc3];rfl),zy⟩ C zp
  ·obtain rfl:k=3:=Yd
   refine oe ?_;exact Zl 13 (i+1) ⟨Ya,(by rw[WW hx];rfl),zy⟩ C zp
 ·obtain rfl:i=y.chairs.length:=Yd
  rw[ym];refine Wj ?_;exact aD C λD hD=>C
theorem xD(p:Pt)(D:aC)(hp:xP p):Fn prog 315 #[ju p] D (λ_ v=>v=.bool (iM p)):=by
 obtain⟨⟨O,R⟩,⟨U,V⟩,Y,hp5⟩:=id hp;refine Zx 12 func315 C λh0=>aA<|Zac C λq1 E1 Z I=>Zf C<|aJ<|cD C U265 aI C C Yu Yu C zy<|iW C aH C I Yf C n4 C zy<|cD C U265 aI C C Yu Yu C zy<|iW C aH C I Yf C n4 C zy<|Zaf C<|cD C U265 aI C C Yu Yu C zy<|iW C aH C I Yf C n4 C zy ?_;refine Zaf C<|Zas C<|Wd ?_;exact aD C λD hD=>by show Value.bool _=_;rw[Hg hp]
theorem Bc(tv:Γ)(t:List Pt)(D:aC)(ht:Sl D RP 3 tv t)(hb:∀p∈t,xP p):Fn prog 257 #[tv] D (λ_ v=>v=qI (whole t:Int)):=by
 have hl:=ht.len;refine Zx 19 func257 C λh0=>aA<|Zf C<|aJ<|Zf C<|bD<|Zf C<|aE<|Za4<|Zo Nat (λi=>t.length-i) (λi=>i≤t.length) (λi=>[(4,qI (i:Int)),(3,qI (whole (t.take i):Int))]) [(2,_),(0,_)] (λi=>[D]) 0 ⟨Ya,Ya,zy⟩ ?_;rintro i h1;refine bL<|Za C<|Za C<|Zaj C U241 C ht C<|Zal C<|aE<|Zae C (λhc1=>?_) λhc1=>?_
 ·have hi:i<t.length:=Yd
  obtain⟨z,hz⟩:=cF t i;have hwl:whole (t.take i)≤(t.take i).length:=xm _ _;have hwt:(t.take i).length≤i:=ul _ _;refine aP<|Za6<|Za4<|aA<|Za C<|Za C<|Zy C U241 fX C ht C hz λY Z I O U R=>?_;obtain rfl:I=[qI _,qI _,qI _]:=O;refine Zv C vB C R ml<|Zd C (λD1 V=>xD z _ (hb _ (GE hz)))<|aE<|Zai C (λhc2=>?_) λhc2=>?_
  ·refine og ?_;exact Zl 17 (i+1) ⟨Ya,(by rw[H8 hz,zo hc2];rfl),zy⟩ C zp
  ·refine xz ?_;exact Zl 14 (i+1) ⟨Ya,(by rw[H8 hz,zv (by rw[hc2];simp)];rfl),zy⟩ C zp
 ·obtain rfl:i=t.length:=Yd
  rw[ym];refine Wj ?_;exact aD C λD hD=>C
theorem SZ(yv tv:Γ)(y:aS)(t:List Pt)(a b:Nat)(D:aC)(hy:gZ D yv y)(ht:Sl D RP 3 tv t)(hyo:aSX y)(hlen:t.length=y.chairs.length)(hb:∀p∈t,xP p)(ha:a<t.length)(hb2:b<t.length):Fn prog 258 #[yv,tv,qI (a:Int),qI (b:Int)] D (λ_ v=>v=.bool (kH y t a b)):=by
 obtain⟨cv,qv,rfl,hc,hq⟩:=hy;obtain⟨bt,ot,ct,rfl⟩:=dM ht λe=>by rw[e]at ha;simp at ha
 obtain⟨p,hp⟩:=cF t a;obtain⟨q,hq2⟩:=cF t b;obtain⟨x1,hx1⟩:∃x,y.chairs[a]?= some x:=⟨_,yz Yd⟩
 obtain⟨x2,hx2⟩:∃x,y.chairs[b]?= some x:=⟨_,yz Yd⟩
 have hcl:=hc.len;have htl:=ht.len;have hs1:=hyo.size _ (GE hx1);have hs2:=hyo.size _ (GE hx2);have hft:=hyo.fit;have hpb:=hb _ (GE hp);have hqb:=hb _ (GE hq2);obtain⟨⟨pa0,pa1⟩,⟨pb0,pb1⟩,pc0,pc1⟩:=id hpb;obtain⟨⟨qa0,qa1⟩,⟨qb0,qb1⟩,qc0,qc1⟩:=id hqb;refine Zx 83 func258 C λh0=>aA<|Zac C λq1 E1 hE1 I=>Zf C<|bX<|pY (dI.mk [bt]) 2 [false,true,false,false,true,true,true,true,true,true,true,false] [.fork [0,1,2,3,4,5,6,7] 8 (.fin [9]) 9 (.fin [8]),.fin [10,11]] aV (λ_ _ _ h=>eA (P:=prog) (fn:=f258) _ _ _ h) Yg<|uG<|bS [(false,0),(true,1),(false,2),(false,3),(true,4),(true,5),(true,6),(true,7)] C<|Za C<|Za C<|jI C U241 fX C ht C Yd hp C zy λhO hP rB O=>?_;obtain rfl:hO=[qI _,qI _,qI _]:=hP;refine cQ C vB C O Yf fX (dI.out Yf) C zy<|Za C<|Za C<|jI C U241 fX C ht C Yd hq2 C zy λhR hS hcl42 hX=>?_;obtain rfl:hR=[qI _,qI _,qI _]:=hS;refine cQ C vB C hX Yf fX (dI.out Yf) C zy<|Zap (eB true true C C ?_ ?_)
 ·refine Zag C xS C λq2=>Zap<|aY [(true,9)] C<|Zag C xS C λq3=>Zap<|pC [(true,10),(false,11)] C<|lO O Yf λhap=>oE C C C C fX (.tail ζ) Yf C Ym (zt (dI.in_ Y_)) zy<|oE C C C C fX ζ Yf C Ym (Or.inr (dI.in_ Xz)) zy<|Zap<|qW<|Za2 ?_;refine Za6<|bK [] 5 14 4036<|Zj C iQ C<|Zh 0 C qM C I C<|Za C<|Zy C U47 tN C hc C hx1 λb1 o1 R U hY V=>?_;obtain rfl:R=[qI _,qI _,qI _,qI _]:=U;refine Zj C T6 C<|Zh 0 C aH C V C<|Zj C iQ C<|Zh 0 C qM C I C<|Za C<|Zy C U47 tN C hc C hx2 λb2 o2 Y Z rA hB=>?_;obtain rfl:Y=[qI _,qI _,qI _,qI _]:=Z;refine Zj C T6 C<|Zh 0 C aH C hB C<|Zax C<|Zf C<|aJ<|Za C<|Za C<|Za0 C<|Za C ?_;refine' bU 4 (s:=36) (p:=40) C (λhE=>?_) (λhE=>?_) ?_;rotate_left
  ·refine bN C vB C zi ml n4 C ⟨_,C,C⟩<|Ze C (λD1 hD1=>xD p _ hpb)<|qf ?_;exact aQ 3
  ·refine Wb ?_;exact aQ 3
  refine Za C ?_;refine' bU 4 (s:=41) (p:=45) C (λhF=>?_) (λhF=>?_) ?_;rotate_left
  ·refine bN C vB C zu ml n4 C ⟨_,C,C⟩<|Ze C (λD2 hD2=>xD q _ hqb)<|qf ?_;exact aQ 3
  ·refine Wb ?_;exact aQ 3
  refine Za C ?_;refine' bU 5 (s:=46) (p:=51) C (λhH=>?_) (λhH=>?_) ?_;rotate_left
  ·refine Zb C<|Zk C P9 C<|mt ?_;exact aQ 4
  ·refine vw ?_;exact aQ 4
  refine Za C ?_;refine' bU 6 (s:=52) (p:=58) C (λhI=>?_) (λhI=>?_) ?_;rotate_left
  ·refine Zb C<|gu C C Ye C ⟨_,C,C⟩<|Zk C P9 C<|mt ?_;exact aQ 5
  ·refine Zg C<|vw ?_;exact aQ 5
  refine Za C ?_;refine' bU 7 (s:=59) (p:=66) C (λhJ=>?_) (λhJ=>?_) ?_;rotate_left
  ·refine Wq ?_;exact aQ 6
  ·refine Wo ?_;exact aQ 6
  refine Za C ?_;refine' bU 7 (s:=67) (p:=74) C (λhK=>?_) (λhK=>?_) ?_;rotate_left
  ·refine Wq ?_;exact aQ 6
  ·refine Wo ?_;exact aQ 6
  refine Za C ?_;refine' bU 7 (s:=75) (p:=82) C (λhN=>?_) (λhN=>?_) ?_;rotate_left
  ·refine Wq ?_;exact aQ 6
  ·refine Wo ?_;exact aQ 6
  refine Wd ?_;exact aD C λD hD=>Xy
 ·refine Zag C xS C λq2=>Zap<|aY [(true,8)] C<|Zag C xS C λq3=>Zap<|pC [(true,10),(false,11)] C<|lO O Yf λhap=>oE C C C C fX ζ Yf C Ym (zt (dI.in_ Xz)) zy<|oE C C C C fX (.tail ζ) Yf C Ym (Or.inr (dI.in_ Y_)) zy<|Zap<|qW<|Za2 ?_;refine Za6<|bK [] 5 14 4036<|Zj C iQ C<|Zh 0 C qM C I C<|Za C<|Zy C U47 tN C hc C hx1 λb1 o1 R U hY V=>?_;obtain rfl:R=[qI _,qI _,qI _,qI _]:=U;refine Zj C T6 C<|Zh 0 C aH C V C<|Zj C iQ C<|Zh 0 C qM C I C<|Za C<|Zy C U47 tN C hc C hx2 λb2 o2 Y Z rA hB=>?_;obtain rfl:Y=[qI _,qI _,qI _,qI _]:=Z;refine Zj C T6 C<|Zh 0 C aH C hB C<|Zax C<|Zf C<|aJ<|Za C<|Za C<|Za0 C<|Za C ?_;refine' bU 4 (s:=36) (p:=40) C (λhE=>?_) (λhE=>?_) ?_;rotate_left
  ·refine bN C vB C zu ml n4 C ⟨_,C,C⟩<|Ze C (λD1 hD1=>xD p _ hpb)<|qf ?_;exact aQ 3
  ·refine Wb ?_;exact aQ 3
  refine Za C ?_;refine' bU 4 (s:=41) (p:=45) C (λhF=>?_) (λhF=>?_) ?_;rotate_left
  ·refine bN C vB C zi ml n4 C ⟨_,C,C⟩<|Ze C (λD2 hD2=>xD q _ hqb)<|qf ?_;exact aQ 3
  ·refine Wb ?_;exact aQ 3
  refine Za C ?_;refine' bU 5 (s:=46) (p:=51) C (λhH=>?_) (λhH=>?_) ?_;rotate_left
  ·refine Zb C<|Zk C P9 C<|mt ?_;exact aQ 4
  ·refine vw ?_;exact aQ 4
  refine Za C ?_;refine' bU 6 (s:=52) (p:=58) C (λhI=>?_) (λhI=>?_) ?_;rotate_left
  ·refine Zb C<|gu C C Ye C ⟨_,C,C⟩<|Zk C P9 C<|mt ?_;exact aQ 5
  ·refine Zg C<|vw ?_;exact aQ 5
  refine Za C ?_;refine' bU 7 (s:=59) (p:=66) C (λhJ=>?_) (λhJ=>?_) ?_;rotate_left
  ·refine Wr ?_;exact aQ 6
  ·refine Wo ?_;exact aQ 6
  refine Za C ?_;refine' bU 7 (s:=67) (p:=74) C (λhK=>?_) (λhK=>?_) ?_;rotate_left
  ·refine Wr ?_;exact aQ 6
  ·refine Wo ?_;exact aQ 6
  refine Za C ?_;refine' bU 7 (s:=75) (p:=82) C (λhN=>?_) (λhN=>?_) ?_;rotate_left
  ·refine Wr ?_;exact aQ 6
  ·refine Wo ?_;exact aQ 6
  refine Wd ?_;exact aD C λD hD=>Xy
theorem YG(yv tv lv:Γ)(y:aS)(t:List Pt)(l:List (Int×Int))(D:aC)(hy:gZ D yv y)(ht:Sl D RP 3 tv t)(hl:Sl D R2 2 lv l)(hyo:aSX y)(hlen:t.length=y.chairs.length)(hb:∀p∈t,xP p)(hp:∀p∈l,∃x z:Nat,p=((x:Int),(z:Int))∧x<t.length∧z<t.length)(hO:l.length≤1000):Fn prog 197 #[yv,tv,lv] D (λ_ v=>v=qI (gR y t l:Int)):=by
 have R:=hy;have hP:=hyo.len;obtain⟨cv,qv,rfl,hc,hq⟩:=hy;have hll:=hl.len;refine Zx 33 func197 C λh0=>aA<|Zac C λq1 E1 hR U=>Zf C<|aJ<|Za C<|Zd C (λD1 V=>Bc _ t _ (ht.up RP.up (V _ Yf)) hb)<|Zf C<|bD<|Zf C<|aE<|Za4 ?_;refine Zo Nat (λk=>l.length-k) (λk=>k≤l.length) (λk=>[(8,qI (k:Int)),(7,qI (gR y t (l.take k):Int))]) [(6,_),(3,_),(1,_),(2,_)] (λk=>[E1,D]) 0 ⟨Ya,(by simp[gR];rfl),zy⟩ ?_
 rintro k h1;refine bL<|Za C<|Za C<|Zaj C U245 C hl C<|Zal C<|aE<|Zae C (λhc1=>?_) λhc1=>?_
 ·have hk:k<l.length:=Yd
  obtain⟨p,I⟩:=cF l k;obtain⟨x,z,rfl,Y,Z⟩:=hp p (GE I);have hml:=NQ y t (l.take k);have htl:(l.take k).length≤k:=ul _ _;refine aP<|Za6<|Za4<|Za6<|bK [] 4 13 4094<|Zv C jU C U jB<|Za C<|Za C<|Za C<|Zy C U245 FY C hl C I λb1 o1 hB hE hK hF=>?_;obtain rfl:hB=[qI _,qI _]:=hE;refine Zj C Hr C<|Zh 0 C aH C hF C<|Za C<|Za C<|Zy C U245 FY C hl C I λb2 o2 hH hI hN hJ=>?_;obtain rfl:hH=[qI _,qI _]:=hI;refine Zj C Ej C<|Zh 1 C aH C hJ C<|Zd C (λD2 O=>SZ _ _ y t x z _ (R.up (O _ Yf)) (ht.up RP.up (O _ Yf)) hyo hlen hb Y Z)<|aE<|Zai C (λhc2=>?_) λhc2=>?_
  ·refine og ?_;exact Zl 25 (k+1) ⟨Ya,(by rw[Ni I hc2];rfl),zy⟩ C zp
  ·refine xz ?_;exact Zl 22 (k+1) ⟨Ya,(by rw[If I hc2];rfl),zy⟩ C zp
 ·obtain rfl:k=l.length:=Yd
  rw[ym];refine Wj ?_;exact aD C λD hD=>C
theorem ZQ(yv:Γ)(y:aS)(n:Int)(D:aC)(hy:gZ D yv y)(h5:y.claims.length≤40):Fn prog 133 #[yv,qI n] D (λ_ v=>v=qI (iZ (nD y.claims n) y.claims.length:Int)):=by
 obtain⟨cv,qv,rfl,hc,hq⟩:=hy;refine Zx 34 func133 C λh0=>aA<|Zac C λq1 E1 hH O=>Zf C<|aJ<|Zf C<|bD<|Zf C<|aE<|Za4<|Zo Nat (λi=>y.claims.length-i) (λi=>i≤y.claims.length) (λi=>[(6,qI (i:Int)),(5,qI (iZ (nD y.claims n) i:Int))]) [(4,_),(2,_),(1,_)] (λi=>[E1,D]) 0 ⟨Ya,Ya,zy⟩ ?_;rintro i h1;refine bL<|Za C<|Zj C lY C<|Zh 2 C yX C O C<|Zaj C U48 C hq C<|Zal C<|aE<|Zae C (λhc1=>?_) λhc1=>?_
 ·have hi:i<y.claims.length:=Yd
  obtain⟨r,I⟩:=cF y.claims i;have hbl:=AP (nD y.claims n) i;have hI:2^i≤2^40:=wu Yd Yd;refine aP<|Za6<|Za4<|Za6<|bK [] 5 14 8190<|Za C<|Zj C lY C<|Zh 2 C yX C O C<|Za C<|Zy C U48 mG C hq C I λb1 o1 R U hE V=>?_;obtain rfl:R=[qI _,qI _]:=U;refine Zj C DO C<|Zh 0 C aH C V C<|Zj C lY C<|Zh 2 C yX C O C<|Za C<|Zy C U48 mG C hq C I λb2 o2 Y Z hF hB=>?_;obtain rfl:Y=[qI _,qI _]:=Z;refine Zj C CP C<|Zh 1 C aH C hB C<|Zd C (λD1 hJ=>aHL _ _ _ _)<|aE<|Zai C (λhc2=>?_) λhc2=>?_
  ·refine aM<|Za C<|Za C<|mJ C U3 U336 C Ye C zy<|p7 C C C Yd C zy<|OC C C C Yd Yd C zy<|Zf C<|Zap<|Za7<|Za2<|aM<|Za C ?_;refine Zaf C<|sg ?_;exact Zl 30 (i+1) ⟨Ya,(by rw[iZ,zo (by rw[PF I];exact hc2)];rfl),zy⟩ C zp
  ·refine xz ?_;exact Zl 24 (i+1) ⟨Ya,(by rw[iZ,zv (by rw[PF I,hc2];simp)];rfl),zy⟩ C zp
 ·obtain rfl:i=y.claims.length:=Yd
  refine Wj ?_;exact aD C λD hD=>C
theorem aHZ(yv:Γ)(y:aS)(D:aC)(hy:gZ D yv y)(h5:y.claims.length≤40):Fn prog 134 #[yv] D (λ_ v=>v=qI (((2^y.claims.length:Nat):Int)-1)):=by
 obtain⟨cv,qv,rfl,hc,hq⟩:=hy;have O:2^y.claims.length≤2^40:=wu Yd Yd;have R:1≤2^y.claims.length:=Nat.one_le_two_pow;have hpi:(1:Int)≤((2^y.claims.length:Nat):Int):=Yd
 have hpj:((2^y.claims.length:Nat):Int)≤1099511627776:=Yd
 refine Zx 9 func134 C (λh0=>aA<|Zac C λV E1 U I=>Zf C<|aJ<|Zj C lY C<|Zh 2 C yX C I C<|Zaj C U48 C hq C<|mJ C U3 U336 C Ye C zy<|p7 C C C Yd C zy<|xO C C C (by simp only[vE];generalize ((2^y.claims.length:Nat):Int)=z at hpi hpj ⊢;omega) C zy<|Zf C ?_);refine aG ?_;exact aD C λD hD=>C
def lm:Rd (List (Int×Int)):=λD l cs=>∃v,cs=[v]∧Sl D R2 2 v l
theorem lm.up:lm.Up:=λhl _ _ ⟨v,hc,hs⟩=>⟨v,hc,hs.up R2.up hl⟩
inductive LP(D:aC):List Γ→List (List (Int×Int))→Prop
 |nil:LP D [] []
 |cons {v l vs ls} (h:Sl D R2 2 v l) (r:LP D vs ls):LP D (v::vs) (l::ls)
theorem LP.up{D D':aC}{vs:List Γ}{ls:List (List (Int×Int))}(h:LP D vs ls)(hl:Le D D'):LP D' vs ls:=by
 induction h with
 |nil=>exact .nil
 |cons h _ ih=>exact .cons (h.up R2.up hl) ih
theorem LP.len{D:aC}{vs:List Γ}{ls:List (List (Int×Int))}(h:LP D vs ls):vs.length=ls.length:=by
 induction h with
 |nil=>rfl
 |cons _ _ ih=>rw[zh,zh,ih]
theorem LP.snoc{D:aC}{vs:List Γ}{ls:List (List (Int×Int))}{v:Γ}{l:List (Int×Int)}(h:LP D vs ls)(hv:Sl D R2 2 v l):LP D (vs++[v]) (ls++[l]):=by
 induction h with
 |nil=>exact .cons hv .nil
 |cons h _ ih=>exact .cons h ih
theorem LP.get{D:aC}{vs:List Γ}{ls:List (List (Int×Int))}(h:LP D vs ls):∀{i:Nat} {l:List (Int×Int)},ls[i]?= some l→∃v,vs[i]?= some v∧Sl D R2 2 v l:=by
  induction h with
  |nil=>intro i l hi;simp at hi
  | @cons v I vs ls h _ ih=>
    intro i l hi;cases i with
    | zero => obtain rfl : I = l := by simpa using hi
              exact⟨v,C,h⟩
    |succ i=>exact ih wy
theorem _root_.Go.Fs.lB.plists{D:aC}{v:Γ}{n:Nat}{vs:List Γ}{ls:List (List (Int×Int))}(hF:lB D v n vs)(h:LP D vs ls)(hn:vs.length=n)(hb:n≤9223372036854775807):Sl D lm 1 v ls:=
 hF.sl (by rw[←h.len];exact hn) hb λi l hi=>by
  obtain⟨u,hu,hs⟩:=h.get hi;refine⟨[u],⟨u,C,hs⟩,C,?_⟩;have hlt:=(yx.1 hu).1;rw[xp,xc hlt];rw[yz hlt]at hu;rw[yi hu];rfl
theorem BO{w f:Nat}(h:((w >>> f:Nat):Int)%2=1):w.testBit f=true:=by
 rw[nO]at h;cases e:w.testBit f with
 |true=>rfl
 |false=>rw[e]at h;simp at h
theorem O7{w f:Nat}(h:¬((w >>> f:Nat):Int)%2=1):w.testBit f=false:=by
 rw[nO]at h;cases e:w.testBit f with
 |false=>rfl
 |true=>rw[e]at h;simp at h
theorem Wan{k:Nat}(h:k≤6):8^k≤262144:=by
 have:8^k≤8^6:=wu Yd h;omega
theorem Wbj{k:Nat}(h:k≤7):8^k≤2097152:=by
 have:8^k≤8^7:=wu Yd h;omega
theorem KQ{α β:Type}{f:α→List β}{c:Nat}:∀{l:List α},(∀x∈l,(f x).length≤c)→(l.flatMap f).length≤l.length*c
 | [],_=>by simp
 |x::l,h=>by
  rw[xy,zf,zh,xb];have:=h x zj;have:=KQ (l:=l) λy hy=>h y (GT _ hy)
  omega
theorem o7{n:Nat}(hn:n≤7):∀k w,(prs n k w).length≤8^k
 |0,w=>by simp[prs]
 |k+1,w=>by
  have ih:=o7 hn k;unfold prs;split
  ·have:=ih w;rw[Nat.pow_succ];omega
  ·rw[zf];have h1:=ih w;have h2:=KQ (f:=λb=>(prs n k (w|||2^b)).map λl=>(n-(k+1),b)::l) (c:=8^k) (l:=(List.range n).filter λb=>decide (n-(k+1)<b)&& !w.testBit b) λb _=>by rw[yh];exact ih _
   have h3:=xm (λb=>decide (n-(k+1)<b)&& !w.testBit b) (List.range n);rw[vz]at h3;have h4:((List.range n).filter λb=>decide (n-(k+1)<b)&& !w.testBit b).length*8^k≤7*8^k:=so _ Yd;rw[Nat.pow_succ];omega
theorem u9{l:List (Nat×Nat)}(h:(qT l).Nodup):(l.map λp=>p.1).Nodup:=by
 induction l with
 |nil=>exact wz
 |cons p l ih=>
  unfold qT at h;rw[xy,za]at h;rw[yl,xg];refine⟨λhm=>?_,ih h.2.1⟩;obtain⟨q,hq,e⟩:=n5.1 hm;exact h.2.2 p.1 Yf q.1 (vr.2 ⟨q,hq,Yf⟩) e.symm
theorem U2{n k w:Nat}{l:List (Nat×Nat)}(hn:n≤7)(hk:k≤n)(hl:l∈prs n k w):(pI l).length≤7:=by
 have ok:=j6 k w hk l hl;have h2:=oT (l:=l.map λp=>p.1) (m:=List.range n) (u9 ok.nd) λx hx=>by
  obtain⟨p,hp,rfl⟩:=n5.1 hx;obtain⟨_,h2,h3,_⟩:=ok.at_ p hp;exact yj.2 Yd
 rw[yh,vz]at h2;simp only[pI,yh];omega
def zT(n k f w b:Nat):List (List (Int×Int)):=(prs n k w++((List.range b).filter λb=>decide (f<b)&& !w.testBit b).flatMap λb=>(prs n k (w|||2^b)).map λl=>(f,b)::l).map pI
theorem YS{n k f w:Nat}:zT n k f w (f+1)=(prs n k w).map pI:=by
 unfold zT;rw[List.filter_eq_nil_iff.2 λb hb=>by have:=yj.1 hb;simp;omega]
 simp
theorem By{n k f w b:Nat}(h:w.testBit b=true):zT n k f w (b+1)=zT n k f w b:=by
 unfold zT;rw[yb,xu,xl];simp[h]
theorem Hm{n k f w b:Nat}(hb:f<b)(h:w.testBit b=false):zT n k f w (b+1)=zT n k f w b++(prs n k (w|||2^b)).map (λl=>pI ((f,b)::l)):=by
 unfold zT;rw[yb,xu,xl];simp[h,hb]
theorem Ho{n k f w b:Nat}(hn:n≤7)(hb:b≤n):(zT n k f w b).length≤8*8^k:=by
 unfold zT;rw[yh,zf];have h1:=o7 hn k w;have h2:=KQ (f:=λb=>(prs n k (w|||2^b)).map λl=>(f,b)::l) (c:=8^k) (l:=(List.range b).filter λb=>decide (f<b)&& !w.testBit b) λb _=>by rw[yh];exact o7 hn k _
 have h3:=xm (λb=>decide (f<b)&& !w.testBit b) (List.range b);rw[vz]at h3;have h4:((List.range b).filter λb=>decide (f<b)&& !w.testBit b).length*8^k≤7*8^k:=so _ Yd;omega
theorem aGL{n k f w:Nat}(hf:f+(k+1)=n)(h:w.testBit f=true):(prs n (k+1) w).map pI=(prs n k w).map pI:=by
 rw[prs,show n-(k+1)=f by omega,zo h]
theorem Bb{n k f w:Nat}(hf:f+(k+1)=n)(h:w.testBit f=false):(prs n (k+1) w).map pI=zT n k f w n:=by
 rw[prs,show n-(k+1)=f by omega,zv u_];rfl
theorem Gu{y:aS}{t:List Pt}{ls:List (List (Int×Int))}{i:Nat}{l:List (Int×Int)}(h:ls[i]?= some l):((((ls.take (i+1)).map (gR y t)).foldl max 0:Nat):Int)=max ((((ls.take i).map (gR y t)).foldl max 0:Nat):Int) (gR y t l:Int):=by
 rw[zg,h,yd,ze,xk];show((max _ _:Nat):Int)=_;omega
theorem UB{y:aS}(Y:y.chairs.length≤7):∀(kk f:Nat),f+kk=y.chairs.length→∀(w:Nat),w<128→∀(yv:Γ) (D:aC),gZ D yv y→NC prog 129 #[yv,qI (f:Int),qI (w:Int)] D (λD' v ν=>∃vs,bM 245 1 v vs.length vs ν∧LP D' vs ((prs y.chairs.length kk w).map pI)):=by
 intro kk;induction kk using Nat.strongRecOn with
 |_ kk ih=>
 intro f hf w hw yv D hy;have hF:=hy;obtain⟨cv,qv,rfl,hc,hq⟩:=hy;have hcl:=hc.len;refine sE 72 func129 C C C C λh0=>aA<|Zac C λq1 E1 hE1 O=>Zf C<|bD<|Za C<|Zj C iQ C<|Zh 0 C qM C O C<|Zaj C U47 C hc C<|kE C C C C zy<|aE<|Zae C (λhc1=>?_) λhc1=>?_
 ·obtain rfl:kk=0:=Yd
  refine aA<|Z4 C U237 V0 SL C C C C (.cons C C .nil) C zy λb3 hacc=>Wi ?_;exact aD C λD' hD=>⟨[qN],hacc,.cons Sl.nil .nil⟩
 ·obtain⟨k,rfl⟩:∃k,kk=k+1:=⟨kk-1,Yd⟩
  have hf7:f<7:=Yd
  refine aP<|aA<|Zv C jU C O jB<|Za C<|Zaf C<|Za C<|gQ C C C (λD5 hP=>ih k Yd (f+1) Yd w hw _ D5 (hF.up (hP _ Yf))) C zy λv1 D6 ν1 hD6 hR=>?_;obtain⟨hH,ha1,R⟩:=hR;refine Zf C<|bD<|Za C<|Za C<|mJ C U3 U336 C Ye C zy<|yS C C C Yd C zy<|uR C C C (re _) Yd Ye C zy<|Zas C<|aE<|Zae C (λhc2=>?_) λhc2=>?_
  ·have hbf:w.testBit f=true:=BO hc2;refine aA<|Za C<|Zf C<|aG<|Za3<|B8 ν1 Yf ?_;have ha1x:=ha1;exact aD C λD' hD=>⟨hH,ha1x,by rw[aGL hf hbf];exact R.up (hD _ Yf)⟩
  ·have hbf:w.testBit f=false:=O7 hc2;refine aP<|bL<|Za C<|Zaf C<|Zf C<|aE<|Za4<|fE (γ:=Nat×Γ×List Γ×aF×aC) (λg=>y.chairs.length-g.1) (λg=>f+1≤g.1∧g.1≤y.chairs.length∧bM 245 1 g.2.1 g.2.2.1.length g.2.2.1 g.2.2.2.1∧LP g.2.2.2.2 g.2.2.1 ((zT y.chairs.length k f w g.1))) (λg=>[(8,qI (g.1:Int)),(7,g.2.1)]) [(6,_),(3,_),(1,_),(2,_)] (λg=>g.2.2.2.1++[]) (λg=>[g.2.2.2.2,E1,D]) (f+1,v1,hH,ν1,D6) ⟨Yf,Yl,ha1,by simp only;rw[YS];exact R⟩ ⟨Ya,Ya,zy⟩ cE (Yf) ((λD0 h=>by simp only[zm,n4,yk]at h;rcases h with h|h|h;exact⟨D6,Yf,h▸Le.refl _⟩;exact⟨E1,Yf,h▸Le.refl _⟩;exact⟨D,Yf,h▸Le.refl _⟩)) ?_
   rintro⟨b,v,vs,ν,Dn⟩ ⟨h0,h1,ha,hla⟩;simp only at h0 h1 ha hla;have hpl:=Ho (n:=y.chairs.length) (k:=k) (f:=f) (w:=w) (b:=b) Y h1;have hpw:=Wan (show k≤6 by omega);have hvl:=hla.len;refine bL<|Za C<|Zj C iQ C<|Zh 0 C qM C O C<|Zaj C U47 C hc C<|Zal C<|aE<|Zae C (λhc3=>?_) λhc3=>?_
   ·have hbn:b<y.chairs.length:=by simp only at hc3;omega
    have hS:b<7:=Yd
    have hpb:=X7 hS;refine aP<|Za6<|Za4<|bL<|Za C<|Za C<|mJ C U3 U336 C Ye C zy<|yS C C C tz C zy<|uR C C C (re _) Yd Ye C zy<|Zas C<|aE<|Zae C (λhc4=>?_) λhc4=>?_
    ·have hbw:w.testBit b=true:=BO hc4;refine Za9<|Za5<|Zba<|l_ ?_;exact aK 16 (b+1,v,vs,ν,Dn) ⟨Yl,Yl,ha,by simp only;rw[By hbw];exact hla⟩ Yl ⟨Ya,Ya,zy⟩ C C zp Yp
    ·have hbw:w.testBit b=false:=O7 hc4;have hql:=o7 Y k (w|||2^b);refine aP<|aA<|Zv C jU C O jB<|Za C<|Zaf C<|Za C<|Za C<|mJ C U3 U336 C Ye C zy<|p7 C C C tz C zy<|OC C C C tz tz C zy<|gQ C C C (λD7 hX=>ih k Yd (f+1) Yd (w|||2^b) (HO hw hpb) _ D7 (hF.up (hX _ Yf))) C zy λv2 D8 ν2 hD8 hY=>?_;obtain⟨vs2,rA,U⟩:=hY;refine Zf C<|bX<|zN (A:=[]) (B:=ν++[]) rA C λD9 hI rB=>?_;have hsl:=rB.plists (U.up (hI _ Yf)) C (by have:=U.len;rw[yh]at this;omega)
     have hll:=hsl.len;refine aM<|Zf C<|aE<|Za4<|fE (γ:=Nat×Γ×List Γ×aF×aC) (λg=>(prs y.chairs.length k (w|||2^b)).length-g.1) (λg=>g.1≤(prs y.chairs.length k (w|||2^b)).length∧bM 245 1 g.2.1 g.2.2.1.length g.2.2.1 g.2.2.2.1∧LP g.2.2.2.2 g.2.2.1 ((zT y.chairs.length k f w b)++((prs y.chairs.length k (w|||2^b)).take g.1).map λl=>pI ((f,b)::l))) (λg=>[(10,qI (g.1:Int)),(7,g.2.1)]) [(9,_),(52,_),(51,_),(50,_),(49,_),(48,_),(47,_),(46,_),(45,_),(44,_),(43,_),(42,_),(41,_),(40,_),(39,_),(38,_),(35,_),(34,_),(33,_),(32,_),(31,_),(8,_),(6,_),(3,_),(1,_),(2,_)] (λg=>g.2.2.2.1++[]) (λg=>[g.2.2.2.2,D9,E1,D]) (0,v,vs,ν,D9) ⟨Yf,ha,by simpa using hla.up (hI Dn Yf)⟩ ⟨Ya,Ya,zy⟩ cE (Yf) ((λD0 h=>by simp only[zm,n4,yk]at h;rcases h with h|h|h|h;exact⟨D9,Yf,h▸Le.refl _⟩;exact⟨D9,Yf,h▸Le.refl _⟩;exact⟨E1,Yf,h▸Le.refl _⟩;exact⟨D,Yf,h▸Le.refl _⟩)) ?_
     rintro⟨i,v,vs,ν,Dn⟩ ⟨h2,ha,hla⟩;simp only at h2 ha hla;have hvl:=hla.len;rw[zf,yh,wq]at hvl;refine bL<|Za C<|Za C<|Zaj C U237 C hsl C<|Zal C<|aE<|Zae C (λZ=>?_) λZ=>?_
     ·have hi:i<(prs y.chairs.length k (w|||2^b)).length:=by simp only[yh]at Z;omega
      obtain⟨l,hB⟩:=cF (prs y.chairs.length k (w|||2^b)) i;have hl1:((prs y.chairs.length k (w|||2^b)).map pI)[i]?= some (pI l):=by rw[xt,hB];rfl
      have V:(pI l).length≤7:=U2 Y Yd (GE hB);refine aP<|Za6<|Za4<|aM<|Za C<|Za C<|Za C<|Zw [qI (f:Int),qI (b:Int)] C aDF RR C<|Z4 C U245 FY RR C C C C (.cons C C .nil) C zy λb3 hacc=>Za C<|Za C<|Zy C U237 V0 C hsl C hl1 λb1 o1 cs1 hr1 hcl1 hA1=>?_;obtain⟨w1,rfl,hw1⟩:=hr1;refine Zh 0 C UE C hA1 C<|bB ([]++[(_,_)]++(ν++[])) C<|aT (A:=[]) (ν:=[(_,_)]) (B:=ν++[]) C U245 C C FY RR C aBW C C C hacc (kX.of (cells:=λp:Int×Int=>[qI p.1,qI p.2]) (λ_ _ _ h=>h) (λ_=>C) hw1) Yf (K0 _) C (PZ _) (by have:=V;omega) (zq C) C zy λv8 ν8 hJ=>?_
      have ha8':bM 337 2 v8 (pI ((f,b)::l)).length (vn (pI ((f,b)::l))) ν8:=by simpa [vn,pI,Nat.add_comm]using hJ
      refine ZB (A:=[]) (B:=ν++[]) ha8' C λD10 hD10 hK=>?_;have hN:=hK.prs C (by simp[pI];have:=V;simp[pI]at this;omega)
      refine Zu C U237 V0 SL C (.cons hJ.cells1 C .nil) (λb901 D901 I hE=>aT (A:=[]) (B:=[]) C U237 C C V0 SL C Yar C C C ha (kX.lit hE) Yf C Yf (by simpa using hN.cell1) (by have:=hla.len;omega) (zq C) C zy λv7 ν7 ha7=>?_);have hO:=(hla.up (I Dn Yf)).snoc (hN.up R2.up (I D10 Yf));refine Wp ?_;exact aK 22 (i+1,v7,vs++[v8],ν7,D901) ⟨Yl,by simpa using ha7,by simp only;rw[zg,hB,yd,ze,←yy];exact hO⟩ Yl ⟨Ya,Ya,zy⟩ C C zp λD0 h=>by simp only[zm,n4,yk]at h;rcases h with h|h|h|h;exact⟨D901,Yf,h▸Le.refl _⟩;exact⟨D9,Yf,h▸Le.refl _⟩;exact⟨E1,Yf,h▸Le.refl _⟩;exact⟨D,Yf,h▸Le.refl _⟩
     ·obtain rfl:i=(prs y.chairs.length k (w|||2^b)).length:=by simp only[yh]at Z;omega
      rw[ym]at hla;refine oe ?_;exact aK 31 (b+1,v,vs,ν,Dn) ⟨Yl,Yl,ha,by simp only;rw[Hm Yd hbw];exact hla⟩ Yl ⟨Ya,Ya,zy⟩ C C zp Yp
   ·obtain rfl:b=y.chairs.length:=by simp only at hc3;omega
    refine Za9<|Za5<|Za5<|Zba<|Za2<|aA<|Za C<|Zf C<|aG<|B8 ν Yf ?_;have hax:=ha;exact aD C λD' hD=>⟨vs,hax,by rw[Bb hf hbf];exact hla.up (hD _ Yf)⟩
theorem EO{y:aS}(I:y.chairs.length≤7)(yv:Γ)(D:aC)(hy:gZ D yv y):Fn prog 129 #[yv,qI 0,qI 0] D (λD' v=>Sl D' lm 1 v ((prs y.chairs.length y.chairs.length 0).map pI)):=
 (UB I y.chairs.length 0 Yd 0 Yd yv D hy).fn (e:=245) (sz:=1) λD' v ν ⟨vs,ha,hla⟩=>⟨vs.length,vs,ha,λD'' hl hF=>hF.plists (hla.up hl) C (by have:=hla.len;have:=o7 I y.chairs.length 0;have:=Wbj I;simp at *;omega)⟩
theorem aEE(yv tv sv:Γ)(y:aS)(t:List Pt)(ls:List (List (Int×Int)))(D:aC)(hy:gZ D yv y)(ht:Sl D RP 3 tv t)(hs:Sl D lm 1 sv ls)(hyo:aSX y)(hlen:t.length=y.chairs.length)(hb:∀p∈t,xP p)(hp:∀l∈ls,(∀p∈l,∃x z:Nat,p=((x:Int),(z:Int))∧x<t.length∧z<t.length)∧l.length≤1000):Fn prog 131 #[yv,tv,sv] D (λ_ v=>v=qI ((ls.map (gR y t)).foldl max 0:Nat)):=by
 have R:=hy;obtain⟨cv,qv,rfl,hc,hq⟩:=hy;have hsl:=hs.len;refine Zx 25 func131 C λh0=>aA<|Zac C λq1 E1 hE U=>Zf C<|aJ<|Zf C<|bD<|Zf C<|aE<|Za4<|Zo Nat (λi=>ls.length-i) (λi=>i≤ls.length) (λi=>[(8,qI (i:Int)),(7,qI (((ls.take i).map (gR y t)).foldl max 0:Nat))]) [(6,_),(3,_),(1,_),(2,_)] (λi=>[E1,D]) 0 ⟨Ya,Ya,zy⟩ ?_;rintro i h1;refine bL<|Za C<|Za C<|Zaj C U237 C hs C<|Zal C<|aE<|Zae C (λhc1=>?_) λhc1=>?_
 ·have hi:i<ls.length:=Yd
  obtain⟨l,I⟩:=cF ls i;refine aP<|Za6<|Za4<|bK [] 4 10 254<|Za C<|Zv C jU C U jB<|Za C<|Za C<|Za C<|Zy C U237 V0 C hs C I λb1 o1 hF V hB Y=>?_;obtain⟨w1,rfl,Z⟩:=V;refine Zh 0 C UE C Y C<|Zd C (λD1 O=>YG _ _ _ y t l _ (R.up (O _ Yf)) (ht.up RP.up (O _ Yf)) (Z.up R2.up (O _ Yf)) hyo hlen hb (hp l (GE I)).1 (hp l (GE I)).2)<|mL C C C C zy<|Wp ?_;exact Zl 19 (i+1) ⟨Ya,(by rw[Gu I];rfl),zy⟩ C zp
 ·obtain rfl:i=ls.length:=Yd
  rw[ym];refine Wj ?_;exact aD C λD hD=>C
end L7
open Go.Proofs
namespace L7
open C7
def qu(l:List Pt):List Γ:=l.flatMap λp=>[qI p.a,qI p.b,qI p.c]
theorem aGZ(l:List Pt)(p:Pt):qu (l++[p])=qu l++[qI p.a,qI p.b,qI p.c]:=by simp[qu]
theorem Xbd{α:Type}{f:α→List Γ}{k:Nat}(hf:∀x,(f x).length=k)(l:List α):(l.flatMap f).length=l.length*k:=by
 induction l with
 |nil=>simp
 |cons c l ih=>rw[xy,zf,ih,hf,zh,xb];omega
theorem KC{α:Type}{f:α→List Γ}{k:Nat}(hf:∀x,(f x).length=k){l:List α}{i:Nat}{c:α}(hi:l[i]?= some c):((l.flatMap f).drop (i*k)).take k=f c:=by
  induction l generalizing i with
  |nil=>simp at hi
  |cons d l ih=>
    rw[xy];cases i with
    | zero => obtain rfl : d = c := by simpa using hi
              rw[ug,sk,vg (by rw[hf];omega),ww (by rw[hf];omega)]
    |succ i=>
      rw[rd,wl (by rw[hf,xb];omega),ya];have:(i+1)*k-(f d).length=i*k:=by rw[hf,xb];omega
      rw[this];exact ih wy
theorem Ao(l:List Pt)(n:Nat)(h:l.length=n):(qu l).length=n*3:=by rw[qu,Xbd (k:=3) λ_=>C,h]
theorem _root_.Go.Fs.lB.pts{D:aC}{v:Γ}{n:Nat}{l:List Pt}(hF:lB D v n (qu l))(hn:l.length=n)(hb:n≤9223372036854775807):Sl D RP 3 v l:=
 hF.sl hn hb λ_i _t hi=>⟨_,C,C,KC (k:=3) (λ_=>C) hi⟩
theorem NE(y:aS)(t:List Pt)(a b:Nat):kH y t a b=kH y t b a:=by
 unfold kH;cases t[a]? <;>cases t[b]? <;>cases y.chairs[a]? <;>cases y.chairs[b]? <;>try rfl
 rename_i p q x z;simp only;rw[Hn,Nu,show decide ((b:Int)≠a)=decide ((a:Int)≠b)from oz.2 ⟨λh e=>h e.symm,λh e=>h e.symm⟩]
theorem TY{y:aS}{t:List Pt}{a b:Nat}(h:kH y t a b=true):a<t.length∧b<t.length∧mW t a=true∧mW t b=true:=by
 unfold kH at h;split at h
 ·rename_i p q x z hp hq _ _;simp only[Z9,zl]at h;refine⟨(yx.1 hp).1,(yx.1 hq).1,?_,?_⟩
  ·unfold mW;rw[hp];exact h.2.1.1
  ·unfold mW;rw[hq];exact h.2.1.2
 ·simp at h
theorem SQ{y:aS}{t:List Pt}(I:t.length≤7):fB (dQ y t).fits=kH y t:=by
 funext a b;unfold fB dQ;simp only[wi,xt];by_cases ha:a<7
 ·rw[rf ha,xo,va,mP];cases e:kH y t a b with
  |false=>simp
  |true=>simp[(TY e).2.1]
 ·rw[tq xw];cases e:kH y t a b with
  |false=>simp
  |true=>have:=(TY e).1;omega
theorem Ma{y:aS}{t:List Pt}{a b:Nat}(h:kH y t a b=true):(dQ y t).broken.testBit a=true∧(dQ y t).broken.testBit b=true:=by
 obtain⟨h1,h2,h3,h4⟩:=TY h;simp only[dQ,mP];simp[h1,h2,h3,h4]
theorem Pg{y:aS}{t:List Pt}(hl:t.length=y.chairs.length)(I:t.length≤7):ML (kH y t) (dQ y t).broken.testBit (EA (dQ y t).fits y.chairs.length (dQ y t).broken):=by
 have:=dj (F:=(dQ y t).fits) (n:=y.chairs.length) (λa b=>by rw[SQ I];exact NE y t a b) _ (dQ y t).broken (zk _) (wI hl I).bits
 rwa [SQ I]at this
theorem AD{α:Type}(f:α→Nat)(w:Nat):∀(l:List α) (m:Nat),(l.map λx=>w+f x).foldl max (w+m)=w+(l.map f).foldl max m
 | [],m=>rfl
 |x::l,m=>by
  rw[yl,yl,yp,yp,show max (w+m) (w+f x)=w+max m (f x) by omega];exact AD f w l _
theorem MC{α:Type}(f:α→Nat)(w:Nat){l:List α}(h:l≠[]):(l.map λx=>w+f x).foldl max 0=w+(l.map f).foldl max 0:=by
 cases l with
 |nil=>exact absurd C h
 |cons x l=>
  rw[yl,yl,yp,yp,show max 0 (w+f x)=w+max 0 (f x) by omega];exact AD f w l _
theorem DN(y:aS)(t:List Pt)(l:List (Nat×Nat)):gR y t (pI l)=whole t+np (kH y t) l:=by
 unfold gR np pI;rw[List.filter_map,yh];rfl
theorem Qn(n k w:Nat)(h:k≤n):prs n k w≠[]:=λe=>by
 obtain⟨l,hl,_⟩:=FR k w h [] ⟨Yf,by simp[qT]⟩;rw[e]at hl;simp at hl
theorem aEH{y:aS}{t:List Pt}(hl:t.length=y.chairs.length)(I:t.length≤7):(((prs y.chairs.length y.chairs.length 0).map pI).map (gR y t)).foldl max 0=B6 y t:=by
 rw[uf,show(gR y t∘pI)=λl=>whole t+np (kH y t) l from funext λl=>DN y t l,MC _ _ (Qn _ _ _ (zk _)),
  Cq (NE y t) (λa b h=>Ma h) (wI hl I).bits (Pg hl I)]
 rfl
theorem Pw{n m:Nat}(hn:n≤7)(hm:m=n):∀l∈(prs n n 0).map pI,(∀p∈l,∃x z:Nat,p=((x:Int),(z:Int))∧x<m∧z<m)∧l.length≤1000:=by
 intro l hl;obtain⟨l',hl',rfl⟩:=n5.1 hl;have ok:=j6 n 0 (zk _) l' hl';refine⟨λp hp=>?_,by have:=U2 hn (zk _) hl';omega⟩
 obtain⟨q,hq,rfl⟩:=n5.1 hp;obtain⟨_,h2,h3,_⟩:=ok.at_ q hq;exact⟨q.1,q.2,C,Yd,Yd⟩
theorem Gs{p:Nat→Bool}{n:Nat}:iZ p n=2^n-1 ↔∀i,i<n→p i=true:=by
 constructor
 ·intro h i hi;have:=zn (λx=>Nat.testBit x i) h;simp only[mP,Nat.testBit_two_pow_sub_one]at this;simpa [hi]using this
 ·intro h;apply n_;intro i;rw[mP,Nat.testBit_two_pow_sub_one];by_cases hi:i<n
  ·simp[hi,h i hi]
  ·simp[hi]
theorem LL(cl:List (Int×Int))(n:Int):decide ((iZ (nD cl n) cl.length:Int)=((2^cl.length:Nat):Int)-1)=jJ cl [] n:=by
 have hp:1≤2^cl.length:=Nat.one_le_two_pow;rw[vv,LE,show((iZ (nD cl n) cl.length:Int)=((2^cl.length:Nat):Int)-1 ↔ iZ (nD cl n) cl.length=2^cl.length-1) by omega,Gs];unfold jJ;rw[yu];have key:∀i,i<cl.length→nD cl n i=rW cl [] n i:=λi hi=>by
  unfold nD rW;rw[yz hi];rfl
 exact⟨λh i hi=>by rw[←key i (yj.1 hi)];exact h i (yj.1 hi),λh i hi=>by rw[key i hi];exact h i (yj.2 hi)⟩
theorem Qo(s x z:Nat):(((s&&&(2^x|||2^z):Nat):Int)≠0) ↔ (((s >>> x|||s >>> z:Nat):Int)%2=1):=by
 constructor
 ·intro h;cases e:decide ((((s >>> x)|||(s >>> z):Nat):Int)%2=1)with
  |true=>exact yn e
  |false=>
   obtain⟨h1,h2⟩:=XC e;refine absurd ?_ h;have:s&&&(2^x|||2^z)=0:=n_ λi=>by
    rw[Nat.testBit_and,tm,rg,rg,qj];by_cases hx:x=i
    ·subst hx;rw[h1];rfl
    ·by_cases hz:z=i
     ·subst hz;rw[h2];rfl
     ·simp[hx,hz]
   rw[this];rfl
 ·intro h e;have e0:s&&&(2^x|||2^z)=0:=Yd
  have b:∀i,i=x∨i=z→s.testBit i=false:=λi hi=>by
   have:=zn (λn=>Nat.testBit n i) e0;simp only[Nat.testBit_and,tm,rg,qj]at this;rcases hi with rfl|rfl<;>simpa using this
  have key:((s >>> x)|||(s >>> z)).testBit 0=false:=by
   rw[tm,nc,nc,tl,tl,b x (zq C),b z (zt C)];rfl
  rw[Nat.testBit_zero,yt]at key;omega
theorem Wat{n s x z:Nat}(hn:n≤7)(hs:s<128)(h2:(!gF (x:Int) 0 ((n:Int)-1)|| !gF (z:Int) ((x:Int)+1) ((n:Int)-1))=false)(h3:¬((s&&&(2^x|||2^z):Nat):Int)≠0):pn n (some s) ((x:Int),(z:Int))=some (s|||(2^x|||2^z))∧s|||(2^x|||2^z)<128:=by
 rw[Qo]at h3;obtain⟨x',z',I,O,_,_,h4,h5⟩:=Sf (n:=n) (a:=(x:Int)) (b:=(z:Int)) hn hs (by rw[h2,Bool.false_or,yt,xr,xr];exact h3)
 obtain rfl:x=x':=Yd
 obtain rfl:z=z':=Yd
 exact⟨h4,h5⟩
theorem Re{n:Nat}(I:n≤7):∀(M:List (Nat×Nat)) (s:Nat),s<128→(∀p∈M,p.1<p.2∧p.2<n∧s.testBit p.1=false∧s.testBit p.2=false)→(qT M).Nodup→((pI M).foldl (pn n) (some s)).isSome=true
 | [],_,_,_,_=>rfl
 |(a,b)::M,s,hs,h,hnd=>by
  obtain⟨h1,h2,h3,h4⟩:=h (a,b) zj;simp only at h1 h2 h3 h4;have hin:(!gF (a:Int) 0 ((n:Int)-1)|| !gF (b:Int) ((a:Int)+1) ((n:Int)-1))=false:=by
   rw[xn,ry,ry,bH,bH];omega
  have hz:¬((s&&&(2^a|||2^b):Nat):Int)≠0:=by
   rw[Qo];intro e;have:((s >>> a)|||(s >>> b)).testBit 0=false:=by
    rw[tm,nc,nc,tl,tl,h3,h4];rfl
   rw[Nat.testBit_zero,yt]at this;omega
  obtain⟨g1,g2⟩:=Wat I hs hin hz;unfold qT at hnd;rw[xy,za]at hnd;obtain⟨_,R,O⟩:=hnd;show((pI M).foldl (pn n) (pn n (some s) ((a:Int),(b:Int)))).isSome=true;rw[g1];refine Re I M _ g2 (λp hp=>?_) R;obtain⟨U,k2,V,Y⟩:=h p (GT _ hp);have out:∀x,x=p.1∨x=p.2→a≠x∧b≠x:=λx hx=>by
   have hm:x∈List.flatMap (λp:Nat×Nat=>[p.1,p.2]) M:=lQ.2 ⟨p,hp,hx⟩;exact⟨O a Yf x hm,O b Yf x hm⟩
  refine⟨U,k2,?_,?_⟩
  ·rw[tm,tm,rg,rg,V];simp[out p.1 (zq C)]
  ·rw[tm,tm,rg,rg,Y];simp[out p.2 (zt C)]
theorem XS{y:aS}{t:List Pt}(I:t.length≤7)(l:List (Int×Int)):iC (dQ y t) l=gR y t l:=by
 unfold iC gR;rw[SQ I];rfl
def MI(st:List Int×Nat)(j:Nat):List Int×Nat:=if st.1[j]?= some 2 then(st.1.set j ((st.2:Int)%2),st.2 / 2)else st
def B5(l:List Int)(m k:Nat):List Int×Nat:=(List.range k).foldl MI (l,m)
theorem tF(l:List Int)(m k:Nat):B5 l m (k+1)=MI (B5 l m k) k:=by unfold B5;rw[yb,xk];rfl
theorem D_{l:List Int}{m k:Nat}(h:(B5 l m k).1[k]?= some 2):B5 l m (k+1)=((B5 l m k).1.set k (((B5 l m k).2:Int)%2),(B5 l m k).2 / 2):=by rw[tF,MI,zo h]
theorem aEQ{l:List Int}{m k:Nat}(h:(B5 l m k).1[k]?≠some 2):B5 l m (k+1)=B5 l m k:=by rw[tF,MI,zv h]
theorem Xk(l:List Int)(m:Nat):∀k,(B5 l m k).1.length=l.length
 |0=>rfl
 |k+1=>by rw[tF,MI];split<;>simp[Xk l m k]
theorem Te(l:List Int)(m:Nat):∀k,(B5 l m k).2≤m
 |0=>zk _
 |k+1=>by
  have:=Te l m k;rw[tF,MI];split
  ·simp only;omega
  ·exact this
def p1(x:Int)(m:Nat):Int×Nat:=if x=2 then((m:Int)%2,m / 2)else(x,m)
def p3(p:Pt)(m:Nat):Pt×Nat:=(⟨(p1 p.a m).1,(p1 p.b (p1 p.a m).2).1,(p1 p.c (p1 p.b (p1 p.a m).2).2).1⟩,(p1 p.c (p1 p.b (p1 p.a m).2).2).2)
theorem Xbe(p:Pt)(m:Nat):B5 p.l m 3=((p3 p m).1.l,(p3 p m).2):=by
 rw[tF,tF,tF];show MI (MI (MI (p.l,m) 0) 1) 2=_;unfold MI p3 p1 Pt.l;by_cases ha:p.a=2<;>by_cases hb:p.b=2<;>by_cases hc:p.c=2<;>simp[ha,hb,hc]
theorem cy(x:Int)(m:Nat):(p1 x m).2≤m:=by unfold p1;split<;>(simp only;omega)
theorem Wbh(p:Pt)(m:Nat):(p3 p m).2≤m:=xj (cy _ _) (xj (cy _ _) (cy _ _))
def lz(st:List Pt×Nat)(c:Ch):List Pt×Nat:=(st.1++[(p3 c.parts st.2).1],(p3 c.parts st.2).2)
def vQ(l:List Ch)(n:Nat):List Pt×Nat:=l.foldl lz ([],n)
theorem PK{l:List Ch}{n i:Nat}{x:Ch}(h:l[i]?= some x):vQ (l.take (i+1)) n=((vQ (l.take i) n).1++[(p3 x.parts (vQ (l.take i) n).2).1],(p3 x.parts (vQ (l.take i) n).2).2):=by
 unfold vQ;rw[zg,h,yd,xk];rfl
theorem YX:∀(l:List Ch) (st:List Pt×Nat),(l.foldl lz st).1.length=st.1.length+l.length
 | [],st=>by simp
 |c::l,st=>by rw[yp,YX l];simp[lz];omega
theorem HY(l:List Ch)(n:Nat):(vQ l n).1.length=l.length:=by unfold vQ;rw[YX];simp
theorem Tl:∀(l:List Ch) (st:List Pt×Nat),(l.foldl lz st).2≤st.2
 | [],st=>zk _
 |c::l,st=>by rw[yp];exact xj (Tl l _) (Wbh _ _)
theorem aDJ(l:List Ch)(n:Nat):(vQ l n).2≤n:=Tl l _
theorem Rl(yv:Γ)(y:aS)(n:Nat)(D:aC)(hy:gZ D yv y)(hK:y.chairs.length≤1000)(hn:n≤1000000):Fn prog 132 #[yv,qI (n:Int)] D (λD' v=>Sl D' RP 3 v (vQ y.chairs n).1):=by
 obtain⟨cv,qv,rfl,hc,hq⟩:=hy;have hcl:=hc.len;refine Zx 41 func132 C (λh0=>aA<|Zac C λq1 E1 hN O=>Zf C<|aJ<|Zf C<|bD<|Zf C<|aE<|Za4<|Zc (Nat×Γ×aF×Nat) (λg=>y.chairs.length-g.1) (λg=>g.1≤y.chairs.length∧bM 265 3 g.2.1 g.1 (qu (vQ (y.chairs.take g.1) n).1) g.2.2.1∧g.2.2.2=(vQ (y.chairs.take g.1) n).2) (λg=>[(1,qI (g.2.2.2:Int)),(5,g.2.1),(6,qI (g.1:Int))]) [(4,_),(2,_)] (λg=>g.2.2.1++[]) (λg=>[E1,D]) (0,qN,[],n) ⟨Yf,by simpa [qu,vQ]using bM.nil,C⟩ ⟨Ya,Ya,Ya,zy⟩ zp ?_);rintro⟨i,v,ν,m⟩ ⟨h1,ha,hm⟩;simp only at h1 ha hm;refine bL<|Za C<|Zj C iQ C<|Zh 0 C qM C O C<|Zaj C U47 C hc C<|Zal C<|aE<|Zae C (λhc1=>?_) λhc1=>?_
 ·have hi:i<y.chairs.length:=Yd
  obtain⟨x,hx⟩:=cF y.chairs i;have hmn:=aDJ (y.chairs.take i) n;rw[←hm]at hmn;refine aP<|Za6<|Za4<|aA<|Zj C iQ C<|Zh 0 C qM C O C<|Za C<|Zy C U47 tN C hc C hx λb1 o1 U V hI Y=>?_;obtain rfl:U=[qI _,qI _,qI _,qI _]:=V;refine Zj C DV C<|Zaq 1 C vB fX C Y C<|Zag C xS C λq2=>Zaa C fX ζ<|bD<|Zf C<|aE<|Za4<|fE (γ:=Nat) (λk=>3-k) (λk=>k≤3) (λk=>[(1,qI ((B5 x.parts.l m k).2:Int)),(8,qI (k:Int))]) [(7,_),(21,_),(20,_),(19,_),(18,_),(17,_),(16,_),(13,_),(12,_),(11,_),(10,_),(9,_),(5,_),(6,_),(4,_),(2,_)] (λk=>(q2,qC (ints (B5 x.parts.l m k).1) 265)::(ν++[])) (λk=>[E1,D]) 0 Yd ⟨Ya,Ya,zy⟩ cE zp (aN) ?_;rintro k h2;refine bL<|Za C<|Zal C<|aE<|Zae C (λhc2=>?_) λhc2=>?_
  ·have hk:k<3:=Yd
   have hkl:=Xk x.parts.l m k;have hkm:=Te x.parts.l m k;have hO:x.parts.l.length=3:=rfl;obtain⟨w,hw⟩:∃w,(B5 x.parts.l m k).1[k]?= some w:=⟨_,yz Yd⟩
   refine aP<|Za6<|Za4<|aA<|Za C<|cD C U265 aI C C Yd Yd C zy<|bG C aH C zu (dA hw) n4 C zy<|Zas C<|aE<|Zae C (λhc3=>?_) λhc3=>?_
   ·have Z:w=2:=hc3;refine aA<|Za C<|Za C<|uR C C C Yd Yd Ye C zy<|cD C U265 aI C C Yd Yd C zy<|BH C aI C C ζ (by rw[xr,hkl];exact hk) zy<|aE<|aM<|Za C<|HX C C C Yd Yd Ye C zy<|sg ?_;refine Wa ?_;have R:=D_ (l:=x.parts.l) (m:=m) (k:=k) (Z▸hw);rw[show(B5 x.parts.l m k).1.set (k:Int).toNat (((B5 x.parts.l m k).2:Int)%2)=(B5 x.parts.l m (k+1)).1 by rw[R];rfl]
    exact Zl 18 (k+1) ⟨(by rw[R];rfl),Ya,zy⟩ C zp
   ·refine xz ?_;have R:=aEQ (l:=x.parts.l) (m:=m) (k:=k) λe=>hc3 (yi (hw.symm.trans e));rw[←R];exact Zl 11 (k+1) ⟨C,Ya,zy⟩ C zp
  ·obtain rfl:k=3:=Yd
   rw[Xbe];refine Za9<|Za5<|Za5<|Zba<|Za2<|aM<|Za C<|bN C vB C zu ml n4 C zy<|Zu C U241 fX xS C (.cons C C .nil) λhJ D901 hB I=>aT (A:=[(_,_)]) (B:=[]) C U241 C C fX xS C aDU C C C ha (kX.lit I) Yf C (Ao _ _ (by simp only[HY,wq];omega)) (by simp[cell1,ints,Pt.l]) Yd (zq C) C zy λv7 ν7 hE=>?_
   have hH:bM 265 3 v7 (i+1) (qu (vQ (y.chairs.take (i+1)) n).1) ν7:=by rw[PK hx,aGZ,←hm];simpa [ints,Pt.l]using hE
   refine Wp ?_;exact aK 26 (i+1,v7,ν7,(p3 x.parts m).2) ⟨Yl,hH,by rw[PK hx,←hm]⟩ Yl ⟨Ya,Ya,Ya,zy⟩ C C (List.Sublist.cons _ zp) λD h=>⟨D,zb _ (h),Le.refl D⟩
 ·obtain rfl:i=y.chairs.length:=Yd
  rw[ym]at ha;refine Za9<|Za5<|Za5<|Zba<|Za2<|aA<|Za C<|Zf C<|aG<|dE (A:=[]) (B:=[]) ha C λD2 hP hF=>?_;exact aD C λD' hD=>(hF.pts (HY _ _) Yd).up RP.up (hD _ Yf)
theorem aDM(yv:Γ)(y:aS)(D:aC)(hy:gZ D yv y)(U:y.chairs.length≤1000)(hu:cZ y.chairs≤8):Fn prog 130 #[yv] D (λ_ v=>v=qI ((2^cZ y.chairs:Nat):Int)):=by
 have I:=hy;obtain⟨cv,qv,rfl,hc,hq⟩:=hy;refine Zx 7 func130 C λh0=>aA<|Zac C λY E1 V O=>Zf C<|aJ<|Zv C jU C O jB<|Zd C (λZ R=>KP _ y _ (I.up (R _ Yf)) U)<|mJ C U3 U336 C Ye C zy<|p7 C C C Yd C zy<|Wd ?_;exact aD C λD hD=>C
theorem SE{x:Int}(h:0≤x∧x≤2)(m:Nat):zJ x (p1 x m).1=true:=by
 unfold p1 zJ;rw[zl,bH,yg,LE,LE];split
 ·rename_i e;exact⟨Yl,zq e⟩
 ·rename_i e;exact⟨Yl,zt C⟩
theorem Xbh{p:Pt}(h:∀n∈p.l,0≤n∧n≤2)(m:Nat):Z3 p (p3 p m).1=true:=by
 have ha:=h p.a (by simp[Pt.l]);have hb:=h p.b (by simp[Pt.l]);have hc:=h p.c (by simp[Pt.l]);simp only[Z3,Pt.l,p3,s3,List.zip_nil_left,uh,List.all_nil,Bool.and_true,zl];exact⟨SE ha _,SE hb _,SE hc _⟩
def sU:List Ch→Nat→List Pt
 | [],_=>[]
 |c::l,n=>(p3 c.parts n).1::sU l (p3 c.parts n).2
theorem Qr:∀(l:List Ch) (st:List Pt×Nat),(l.foldl lz st).1=st.1++sU l st.2
 | [],st=>by simp[sU]
 |c::l,st=>by rw[yp,Qr l];simp[lz,sU]
theorem Rn(l:List Ch)(n:Nat):(vQ l n).1=sU l n:=by unfold vQ;rw[Qr];rfl
theorem Uu:∀(l:List Ch) (n:Nat),(∀c∈l,∀n∈c.parts.l,0≤n∧n≤2)→((l.zip (sU l n)).all λx=>Z3 x.1.parts x.2)=true
 | [],n,_=>rfl
 |c::l,n,h=>by
  rw[sU,s3,uh,zl];exact⟨Xbh (h c zj) n,Uu l _ λc hc=>h c (GT _ hc)⟩
theorem tB{y:aS}(h:aSX y)(n:Nat):eM y (vQ y.chairs n).1=true:=by
 unfold eM;rw[zl,LE];exact⟨HY _ _,by rw[Rn];exact Uu _ _ h.part⟩
def Z6(y:aS)(n:Nat):Int:=(B6 y (vQ y.chairs n).1:Nat)
def pK(y:aS):List Int:=(List.range (2^cZ y.chairs)).map (Z6 y)
def l6(y:aS)(ms:List Int)(k:Nat):List Int:=((List.range k).filter λn=>jJ y.claims [] (ms.getD n 0)).map λn:Nat=>(n:Int)
theorem VR(y:aS)(ms:List Int)(k:Nat):(l6 y ms k).length≤k:=by
 have:=xm (λn=>jJ y.claims [] (ms.getD n 0)) (List.range k);unfold l6;rw[yh];simpa using this
theorem Ct{y:aS}{ms:List Int}{k:Nat}{x:Int}(hx:ms[k]?= some x)(h:jJ y.claims [] x=true):l6 y ms (k+1)=l6 y ms k++[(k:Int)]:=by
 unfold l6;rw[yb,xu,ze];simp[wi,hx,h]
theorem aBL{y:aS}{ms:List Int}{k:Nat}{x:Int}(hx:ms[k]?= some x)(h:jJ y.claims [] x=false):l6 y ms (k+1)=l6 y ms k:=by
 unfold l6;rw[yb,xu,ze];simp[wi,hx,h]
def Q6(ms ns:List Int):Int×Int:=ns.foldl (λr n=>(min r.1 (ms.getD n.toNat 0),max r.2 (ms.getD n.toNat 0))) (99, -1)
theorem Ew{ms ns:List Int}{k j:Nat}{w:Int}(hx:ns[k]?= some (j:Int))(hz:ms[j]?= some w):Q6 ms (ns.take (k+1))=(min (Q6 ms (ns.take k)).1 w,max (Q6 ms (ns.take k)).2 w):=by
 unfold Q6;rw[zg,hx,yd,xk];simp[hz]
theorem LF(yv:Γ)(y:aS)(D:aC)(hy:gZ D yv y)(hf:aW y=0):Fn prog 61 #[yv] D (λD' v=>Sl D' RI 1 v (pK y)):=by
 have O:=hy;obtain⟨cv,qv,rfl,hc,hq⟩:=hy;have hyo:=VZ hf;have R:=hyo.len;have Y:=hyo.unk;have hcap:2^cZ y.chairs≤2^8:=wu Yd Y;unfold pK;refine Zx 24 func61 C λh0=>aA<|Zac C λq1 E1 hP U=>Zf C<|aJ<|Zv C jU C U jB<|Zz C (λD1 Z=>EO R _ _ (O.up (Z _ Yf))) λv1 D1 Z hI=>?_;have hps:=hI;refine Zf C<|aJ<|Zf C<|bD<|Zf C<|aE<|Za4<|Zc (Nat×Γ×aF) (λg=>2^cZ y.chairs-g.1) (λg=>g.1≤2^cZ y.chairs∧bM 3 1 g.2.1 (((List.range g.1).map (Z6 y))).length (ints (((List.range g.1).map (Z6 y)))) g.2.2) (λg=>[(4,g.2.1),(5,qI (g.1:Int))]) [(3,_),(2,_),(1,_)] (λg=>g.2.2++[]) (λg=>[D1,E1,D]) (0,qN,[]) ⟨Yf,bM.nil⟩ ⟨Ya,Ya,zy⟩ zp ?_;rintro⟨k,v,ν⟩ ⟨h1,ha⟩;simp only at h1 ha;refine bL<|Za C<|Zv C jU C U jB<|Zd C (λD2 hB=>aDM _ y _ (O.up (hB _ Yf)) Yd Y)<|Zal C<|aE<|Zae C (λhc1=>?_) λhc1=>?_
 ·have hk:k<2^cZ y.chairs:=by simp only at hc1;omega
  have hit:=tB hyo k;obtain⟨hlen,hbt⟩:=H3 hit;refine aP<|Za6<|Za4<|fS [] 3 [0,1,2,3,5,4,6,7,8,9] [false,true,true,true,true,true,true,true,false,false] [(false,0),(true,1),(true,2),(true,3),(true,5),(true,4),(true,6),(true,7),(false,8),(false,9)] aV (λ_ _ _ h=>eA (P:=prog) (fn:=f61) _ _ _ h) Yg C<|Za C<|Zv C jU C U jB<|Zv C jU C U jB<|Za C<|Za C<|Zz C (λD3 hE=>Rl _ y k _ (O.up (hE _ Yf)) Yd Yd) λv3 D3 hE hJ=>?_;have hz:=hJ;refine Zd C (λD4 V=>aEE _ _ _ y _ _ _ (O.up (V _ Yf)) (hz.up RP.up (V _ Yf)) (hps.up lm.up (V _ Yf)) hyo hlen hbt (Pw R hlen))<|Zu C U35 aI cN C (.cons C C .nil) λhO D901 hK I=>?_;have hN:=Sl.ofInts (l:=[_]) (n:=1) (cap:=1) I C Yd Yd;refine aT (A:=[]) (B:=[]) C U35 C C aI cN C jV C C C ha (kX.lit I) Yf C Yf Ym (by have:=hcap;first|omega|(simp only[yh,vz];omega)) (Or.inl rfl) rfl zy λv7 ν7 hH=>?_
  have R:bM 3 1 v7 (((List.range (k+1)).map (Z6 y))).length (ints (((List.range (k+1)).map (Z6 y)))) ν7:=by rw[yb,ze];rw[aEH hlen Yd]at hH;simpa [ints,Z6]using hH
  refine Wp ?_;exact aK 19 (k+1,v7,ν7) ⟨Yl,R⟩ Yl ⟨Ya,Ya,zy⟩ C C zp λD h=>⟨D,zb _ (zb _ (h)),Le.refl D⟩
 ·obtain rfl:k=2^cZ y.chairs:=by simp only at hc1;omega
  simp only[yh,vz]at ha;refine Za9<|Za5<|Za5<|Zba<|Za2<|aA<|Za C<|Zf C<|aG<|dE (A:=[]) (B:=[]) ha C λD2 hB hF=>?_;exact aD C λD' hD=>(hF.ints Yf (by have:=hcap;omega)).up RI.up (hD _ Yf)
theorem aGH(yv mv:Γ)(y:aS)(ms:List Int)(D:aC)(hy:gZ D yv y)(hm:Sl D RI 1 mv ms)(hf:aW y=0)(hcap:ms.length≤100000):Fn prog 62 #[yv,mv] D (λD' v=>Sl D' RI 1 v (l6 y ms ms.length)):=by
 have O:=hy;obtain⟨cv,qv,rfl,hc,hq⟩:=hy;have hyo:=VZ hf;have hH:=hyo.cls;refine Zx 27 func62 C λh0=>aA<|Zac C λq1 E1 hJ R=>Zf C<|aJ<|Zf C<|bD<|Zf C<|aE<|Za4<|Zc (Nat×Γ×aF) (λg=>ms.length-g.1) (λg=>g.1≤ms.length∧bM 3 1 g.2.1 (l6 y ms g.1).length (ints (l6 y ms g.1)) g.2.2) (λg=>[(5,g.2.1),(6,qI (g.1:Int))]) [(4,_),(2,_),(1,_)] (λg=>g.2.2++[]) (λg=>[E1,D]) (0,qN,[]) ⟨Yf,bM.nil⟩ ⟨Ya,Ya,zy⟩ zp ?_;rintro⟨k,v,ν⟩ ⟨h1,ha⟩;simp only at h1 ha;refine bL<|Za C<|Za C<|Zaj C U35 C hm C<|Zal C<|aE<|Zae C (λhc1=>?_) λhc1=>?_
 ·have hk:k<ms.length:=by simp only at hc1;omega
  obtain⟨x,hx⟩:=cF ms k;have hnk:=VR y ms k;refine aP<|Za6<|Za4<|Za6<|fS [] 4 [0,1,2,3,4,6,5,7,8] [false,true,true,true,true,true,true,false,false] [(false,0),(true,1),(true,2),(true,3),(true,4),(true,6),(true,5),(false,7),(false,8)] aV (λ_ _ _ h=>eA (P:=prog) (fn:=f62) _ _ _ h) Yg C<|Zv C jU C R jB<|Za C<|Za C<|gH C hm C hx λb1 o1=>Zv C jU C R jB<|Zd C (λD1 V=>ZQ _ y x _ (O.up (V _ Yf)) Yd)<|Zd C (λD2 U=>aHZ _ y _ (O.up (U _ Yf)) Yd) ?_;refine Zas C<|aE<|Zae C (λhc2=>?_) λhc2=>?_
  ·have hr:jJ y.claims [] x=true:=by rw[←LL];exact oo hc2
   refine aM<|Za C<|Za C<|Zu C U35 aI cN C (.cons C C .nil) λhI D901 Y I=>?_;have Z:=Sl.ofInts (l:=[_]) (n:=1) (cap:=1) I C Yd Yd;refine aT (A:=[]) (B:=[]) C U35 C C aI cN C jV C C C ha (kX.lit I) Yf C Yf Ym (by have:=hcap;first|omega|(simp only[yh,vz];omega)) (Or.inl rfl) rfl zy λv7 ν7 hB=>?_
   have hE:bM 3 1 v7 (l6 y ms (k+1)).length (ints (l6 y ms (k+1))) ν7:=by rw[Ct hx hr];simpa [ints]using hB
   refine Wp ?_;exact aK 23 (k+1,v7,ν7) ⟨Yl,hE⟩ Yl ⟨Ya,Ya,zy⟩ C C zp λD h=>⟨D,zb _ (h),Le.refl D⟩
  ·have hr:jJ y.claims [] x=false:=by rw[←LL];exact decide_eq_false hc2
   refine xz ?_;exact aK 18 (k+1,v,ν) ⟨Yl,by simp only;rw[aBL hx hr];exact ha⟩ Yl ⟨Ya,Ya,zy⟩ C C zp (aN)
 ·obtain rfl:k=ms.length:=by simp only at hc1;omega
  have hnk:=VR y ms ms.length;refine Za9<|Za5<|Za5<|Zba<|Za2<|aA<|Za C<|Zf C<|aG<|dE (A:=[]) (B:=[]) ha C λD2 U hF=>?_;exact aD C λD' hD=>(hF.ints C (by have:=hcap;omega)).up RI.up (hD _ Yf)
theorem aFG(av nv:Γ)(ms ns:List Int)(D:aC)(hm:Sl D RI 1 av ms)(hn:Sl D RI 1 nv ns)(hns:∀x∈ns,∃k:Nat,x=(k:Int)∧k<ms.length):Fn prog 63 #[av,nv] D (λ_ v=>v=nA (Q6 ms ns)):=by
 have hml:=hm.len;have hnl:=hn.len;refine Zx 32 func63 C λh0=>aA<|Zag C vN C λO=>aJ<|Zw [qI 99,qI (-1)] C UT vN C<|Zag C vN C λR=>Zaa C mG ζ<|bD<|Zf C<|aE<|Za4<|fE (γ:=Nat) (λk=>ns.length-k) (λk=>k≤ns.length) (λk=>[(6,qI (k:Int))]) [(5,_),(4,_),(0,_),(1,_)] (λk=>[(R,qC [qI (Q6 ms (ns.take k)).1,qI (Q6 ms (ns.take k)).2] 146),(O,qC [qI 0,qI 0] 146)]) (λk=>[D]) 0 Yd ⟨Ya,zy⟩ cE zp (aN) ?_;rintro k h1;refine bL<|Za C<|Za C<|Zaj C U35 C hn C<|Zal C<|aE<|Zae C (λhc1=>?_) λhc1=>?_
 ·have hk:k<ns.length:=Yd
  obtain⟨x,hx⟩:=cF ns k;obtain⟨j,rfl,hj⟩:=hns x (GE hx);obtain⟨w,hz⟩:=cF ms j;refine aP<|Za6<|Za4<|aA<|Za C<|Za C<|Za C<|gH C hn C hx λU V=>gH C hm C hz λb2 Y=>Zf C<|aE<|aM ?_;refine Zj C DO C<|Zq C aH C zu C<|Za C<|zL C C C C zy<|Zj C CP C<|Zq C aH C zu C<|Za C<|mL C C C C zy<|Zw [qI (min (Q6 ms (ns.take k)).1 w),qI (max (Q6 ms (ns.take k)).2 w)] C UT vN C<|Zaa C mG ζ<|Zap<|Za7 ?_;refine l_ ?_;have I:=Ew hx hz;rw[show min (Q6 ms (ns.take k)).1 w=(Q6 ms (ns.take (k+1))).1 by rw[I],show max (Q6 ms (ns.take k)).2 w=(Q6 ms (ns.take (k+1))).2 by rw[I]];exact Zl 25 (k+1) ⟨Ya,zy⟩ C zp
 ·obtain rfl:k=ns.length:=Yd
  rw[ym];refine Za9<|Za5<|Za5<|Zba<|Za2<|aA<|Zah C Vh C zu mG<|Zaa C mG (.tail ζ)<|aG ?_;exact Zp [_] C ⟨⟨_,_,_,C,zi,Or.inr ⟨Vh,(by first|exact mG|(simp only[wd,aL, *];exact mG)),C⟩⟩,zy⟩ λD hD=>C
def BU(y:aS):List Int:=l6 y (pK y) (pK y).length
def UF(y:aS):Int:=if aW y≠0 then aW y else if BU y=[]then 11 else 0
theorem ZF{y:aS}(h:aW y=0):(pK y).length≤256:=by
 have:2^cZ y.chairs≤2^8:=wu Yd (VZ h).unk;unfold pK;rw[yh,vz];omega
theorem A1{y:aS}(h:UF y=0):aW y=0∧BU y≠[]:=by
 unfold UF at h;split at h
 ·omega
 ·rename_i h1;split at h
  ·omega
  ·rename_i h2;exact⟨Yd,h2⟩
theorem BP{y:aS}{n:Nat}(h:n<(pK y).length):(pK y).getD n 0=Z6 y n:=by
 unfold pK at h ⊢
 rw[yh,vz]at h;rw[wi,xt,rf h];rfl
theorem LS{y:aS}{x:Int}:x∈BU y ↔∃n:Nat,n<2^cZ y.chairs∧jJ y.claims [] (Z6 y n)=true∧x=(n:Int):=by
 have hl:(pK y).length=2^cZ y.chairs:=by unfold pK;rw[yh,vz]
 unfold BU l6;rw[n5];constructor
 ·rintro⟨n,hn,rfl⟩;rw[xf,yj]at hn;rw[BP hn.1]at hn;exact⟨n,Yd,hn.2,C⟩
 ·rintro⟨n,hn,hr,rfl⟩;refine⟨n,?_,C⟩;rw[xf,yj,BP Yd];exact⟨Yd,hr⟩
theorem bLX{y:aS}:∀x∈BU y,∃k:Nat,x=(k:Int)∧k<(pK y).length:=λx hx=>by
 obtain⟨n,hn,_,rfl⟩:=LS.1 hx;exact⟨n,C,by unfold pK;rw[yh,vz];exact hn⟩
theorem dt{x t:Int}(h:zJ x t=true){m B:Nat}(hm:m<B):∃n,p1 x n=(t,m)∧n<(if x=2 then 2 else 1)*B:=by
 unfold zJ at h;rw[zl,bH,yg,LE,LE]at h;unfold p1;by_cases hx:x=2
 ·obtain⟨b,rfl⟩:=lg h.1.1;refine⟨2*m+b,?_,by rw[zo hx];omega⟩
  rw[zo hx,ux];exact⟨Yd,Yd⟩
 ·refine⟨m,?_,by rw[zv hx];omega⟩;rw[zv hx,ux];exact⟨by rcases h.2 with h|h;exact absurd h hx;exact h.symm,C⟩
theorem aFM(p:Pt):2^nw p=(if p.a=2 then 2 else 1)*((if p.b=2 then 2 else 1)*(if p.c=2 then 2 else 1)):=by
 unfold nw Pt.l;by_cases ha:p.a=2<;>by_cases hb:p.b=2<;>by_cases hc:p.c=2<;>simp[ha,hb,hc]
theorem Wbx{p t:Pt}(h:Z3 p t=true){m B:Nat}(hm:m<B):∃n,p3 p n=(t,m)∧n<2^nw p*B:=by
 simp only[Z3,Pt.l,s3,List.zip_nil_left,uh,List.all_nil,Bool.and_true,zl]at h;obtain⟨c,I,h1⟩:=dt h.2.2 hm;obtain⟨b,O,h2⟩:=dt h.2.1 h1;obtain⟨a,R,h3⟩:=dt h.1 h2;refine⟨a,?_,?_⟩
 ·unfold p3;rw[R,O,I]
 ·rw[aFM,Nat.mul_assoc,Nat.mul_assoc];exact h3
theorem NL:∀(l:List Ch) (t:List Pt),t.length=l.length→((l.zip t).all λx=>Z3 x.1.parts x.2)=true→∃n,n<2^cZ l∧sU l n=t
 | [],[],_,_=>⟨0,by simp[cZ],C⟩
 | [],_::_,h,_=>by simp at h
 |_::_,[],h,_=>by simp at h
 |c::l,p::t,h,ha=>by
  rw[s3,uh,zl]at ha;obtain⟨m,hm,e⟩:=NL l t xd ha.2;obtain⟨n,I,hn⟩:=Wbx ha.1 hm;refine⟨n,?_,?_⟩
  ·have:cZ (c::l)=nw c.parts+cZ l:=by simp[cZ]
   rw[this,Nat.pow_add];exact hn
  ·rw[sU,I,e]
theorem JD{y:aS}{t:List Pt}(h:eM y t=true):∃n,n<2^cZ y.chairs∧(vQ y.chairs n).1=t:=by
 unfold eM at h;rw[zl,LE]at h;obtain⟨n,hn,e⟩:=NL _ _ h.1 h.2;exact⟨n,hn,by rw[Rn];exact e⟩
theorem gn:∀(l:List Int) (a:Int),(l.foldl min a=a∨l.foldl min a∈l)∧l.foldl min a≤a∧∀x∈l,l.foldl min a≤x
 | [],a=>⟨zq C,Int.le_refl _,Yf⟩
 |x::l,a=>by
  rw[yp];obtain⟨h1,h2,h3⟩:=gn l (min a x);refine⟨?_,Yd,λz hz=>?_⟩
  ·rcases h1 with h1|h1
   ·rw[h1];rcases qh a x with h|h
    ·exact zq (Int.min_eq_left h)
    ·exact zt (by rw[ow h];exact zj)
   ·exact zt (GT _ h1)
  ·rcases zm.1 hz with rfl|hz
   ·omega
   ·exact h3 z hz
theorem kc:∀(l:List Int) (a:Int),(l.foldl max a=a∨l.foldl max a∈l)∧a≤l.foldl max a∧∀x∈l,x≤l.foldl max a
 | [],a=>⟨zq C,Int.le_refl _,Yf⟩
 |x::l,a=>by
  rw[yp];obtain⟨h1,h2,h3⟩:=kc l (max a x);refine⟨?_,Yd,λz hz=>?_⟩
  ·rcases h1 with h1|h1
   ·rw[h1];rcases qh a x with h|h
    ·exact zt (by rw[Int.max_eq_right h];exact zj)
    ·exact zq (Int.max_eq_left h)
   ·exact zt (GT _ h1)
  ·rcases zm.1 hz with rfl|hz
   ·omega
   ·exact h3 z hz
theorem Tv{l l':List Int}{a a':Int}(hm:∀x,x∈l ↔ x∈l')(hne:l≠[])(ha:∀x∈l,x≤a)(ha':∀x∈l',x≤a'):l.foldl min a=l'.foldl min a':=by
 obtain⟨h1,h2,h3⟩:=gn l a;obtain⟨g1,g2,g3⟩:=gn l' a';obtain⟨z,hz⟩:=List.exists_mem_of_ne_nil l hne;have I:l.foldl min a∈l:=by
  rcases h1 with h1|h1
  ·have:=h3 z hz;have:=ha z hz;rw[show l.foldl min a=z by omega];exact hz
  ·exact h1
 have k2:l'.foldl min a'∈l':=by
  rcases g1 with g1|g1
  ·have:=g3 z ((hm z).1 hz);have:=ha' z ((hm z).1 hz);rw[show l'.foldl min a'=z by omega];exact(hm z).1 hz
  ·exact g1
 have:=h3 _ ((hm _).2 k2);have:=g3 _ ((hm _).1 I);omega
theorem aAT{l l':List Int}{a a':Int}(hm:∀x,x∈l ↔ x∈l')(hne:l≠[])(ha:∀x∈l,a≤x)(ha':∀x∈l',a'≤x):l.foldl max a=l'.foldl max a':=by
 obtain⟨h1,h2,h3⟩:=kc l a;obtain⟨g1,g2,g3⟩:=kc l' a';obtain⟨z,hz⟩:=List.exists_mem_of_ne_nil l hne;have I:l.foldl max a∈l:=by
  rcases h1 with h1|h1
  ·have:=h3 z hz;have:=ha z hz;rw[show l.foldl max a=z by omega];exact hz
  ·exact h1
 have k2:l'.foldl max a'∈l':=by
  rcases g1 with g1|g1
  ·have:=g3 z ((hm z).1 hz);have:=ha' z ((hm z).1 hz);rw[show l'.foldl max a'=z by omega];exact(hm z).1 hz
  ·exact g1
 have:=h3 _ ((hm _).2 k2);have:=g3 _ ((hm _).1 I);omega
theorem RV:∀(l:List Int) (r:Int×Int),l.foldl (λr n=>(min r.1 n,max r.2 n)) r=(l.foldl min r.1,l.foldl max r.2)
 | [],_=>rfl
 |x::l,r=>by rw[yp,RV l];rfl
def zE(y:aS):List Int:=(BU y).map λn=>(pK y).getD n.toNat 0
theorem DT{y:aS}(h:aSX y)(x:Int):x∈zE y ↔ x∈(bT y []).map λp=>(p.2:Int):=by
 unfold zE;rw[n5,n5];constructor
 ·rintro⟨n,hn,rfl⟩;obtain⟨k,hk,hr,rfl⟩:=LS.1 hn;refine⟨_,nW.2 ⟨(vQ y.chairs k).1,tB h k,hr,C⟩,?_⟩;rw[xr,BP (by unfold pK;rw[yh,vz];exact hk)];rfl
 ·rintro⟨p,hp,rfl⟩;obtain⟨t,ht,hr,rfl⟩:=nW.1 hp;obtain⟨n,hn,rfl⟩:=JD ht;refine⟨(n:Int),LS.2 ⟨n,hn,hr,C⟩,?_⟩;rw[xr,BP (by unfold pK;rw[yh,vz];exact hn)];rfl
theorem aBJ{y:aS}{t:List Pt}(h:aSX y)(ht:eM y t=true):B6 y t≤14:=by
 obtain⟨hl,_⟩:=H3 ht;have hn:=h.len;obtain⟨M,hM,e⟩:=(Pg hl Yd).ex;have h2:=oT (l:=M.map λp=>p.1) (m:=List.range y.chairs.length) (u9 hM.nd) λx hx=>by
  obtain⟨p,hp,rfl⟩:=n5.1 hx;exact yj.2 ((wI hl Yd).bits _ (hM.fit p hp).1)
 rw[yh,vz]at h2;have h3:=(wI hl Yd).whole;unfold B6 wM;omega
theorem E7{y:aS}(h:aSX y):∀x∈zE y,0≤x∧x≤14:=λx hx=>by
 obtain⟨p,hp,rfl⟩:=n5.1 ((DT h x).1 hx);obtain⟨t,ht,_,rfl⟩:=nW.1 hp;have:=aBJ h ht;simp only;omega
theorem VA{y:aS}(h:aSX y):BU y=[] ↔ bT y []=[]:=by
 have key:=DT h;constructor
 ·intro e;rw[li];intro p hp;have:=(key p.2).2 (n5.2 ⟨p,hp,C⟩);unfold zE at this;rw[e]at this;simp at this
 ·intro e;rw[li];intro n hn;have:=(key _).1 (n5.2 ⟨n,hn,C⟩);rw[e]at this;simp at this
theorem aRR{y:aS}(h:UF y=0):dS y=(Q6 (pK y) (BU y),0):=by
 obtain⟨hf,hne⟩:=A1 h;have hyo:=VZ hf;have hm:=DT hyo;have hin:=E7 hyo;have R:Q6 (pK y) (BU y)=((zE y).foldl min 99,(zE y).foldl max (-1)):=by
  unfold Q6 zE;rw[←RV _ (99, -1),List.foldl_map]
 unfold dS;rw[zv Yd,R];cases e:(bT y []).map λp=>(p.2:Int)with
 |nil=>exact absurd ((VA hyo).2 (List.map_eq_nil_iff.1 e)) hne
 |cons m l=>
  rw[e]at hm;have O:zE y≠[]:=λU=>by
   have:=(hm m).2 zj;rw[U]at this;simp at this
  have I:∀x∈m::l,0≤x∧x≤14:=λx hx=>hin x ((hm x).2 hx)
  have V:(zE y).foldl min 99=(m::l).foldl min 99:=Tv hm O (λx hx=>by have:=hin x hx;omega) (λx hx=>by have:=I x hx;omega);have a2:(zE y).foldl max (-1)=(m::l).foldl max (-1):=aAT hm O (λx hx=>by have:=hin x hx;omega) λx hx=>by have:=I x hx;omega
  have Y:=I m zj;simp only;rw[V,a2,RV,yp,yp,yp,yp,show min (99:Int) m=min m m by omega,show max (-1:Int) m=max m m by omega]
def HU(y:aS)(ms:List Int)(c:Nat):Bool:=ms.any λm=>decide (iZ (nD y.claims m) y.claims.length&&&c=c)
theorem Bh{y:aS}{ms:List Int}{c k:Nat}{x:Int}(h:ms[k]?= some x):HU y (ms.take (k+1)) c=(HU y (ms.take k) c||decide (iZ (nD y.claims x) y.claims.length&&&c=c)):=by
 unfold HU;rw[zg,h,yd,ui];simp
theorem UY{y:aS}{ms:List Int}{c k:Nat}{x:Int}(h:ms[k]?= some x)(e:iZ (nD y.claims x) y.claims.length&&&c=c):HU y ms c=true:=by
 unfold HU;rw[rx];exact⟨x,GE h,oo e⟩
theorem Qc{m k:Nat}(h:m.testBit k=true):fJ m (k+1)=fJ m k++[(k:Int)]:=by
 unfold fJ;rw[yb,xu,ze];simp[h]
theorem d1{m k:Nat}(h:m.testBit k=false):fJ m (k+1)=fJ m k:=by
 unfold fJ;rw[yb,xu,ze];simp[h]
theorem RK(m k:Nat):(fJ m k).length≤k:=by
 have:=xm (λi=>m.testBit i) (List.range k);unfold fJ;rw[yh];simpa using this
def tW:List Int→List Int→Bool
 | [],b=>decide (0<b.length)
 |_::_,[]=>false
 |x::a,z::b=>if x=z then tW a b else decide (x<z)
theorem Xi{a b:List Int}{k:Nat}{x z:Int}(hx:a[k]?= some x)(hz:b[k]?= some z)(h:x=z):tW (a.drop k) (b.drop k)=tW (a.drop (k+1)) (b.drop (k+1)):=by
 obtain⟨h1,rfl⟩:=yx.1 hx;obtain⟨h2,rfl⟩:=yx.1 hz;rw[xc h1,xc h2,tW,zo h]
theorem Xe{a b:List Int}{k:Nat}{x z:Int}(hx:a[k]?= some x)(hz:b[k]?= some z)(h:x≠z):tW (a.drop k) (b.drop k)=decide (x<z):=by
 obtain⟨h1,rfl⟩:=yx.1 hx;obtain⟨h2,rfl⟩:=yx.1 hz;rw[xc h1,xc h2,tW,zv h]
theorem Ut{a b:List Int}{k:Nat}(h:¬k<a.length∨¬k<b.length)(h1:k≤a.length)(h2:k≤b.length):tW (a.drop k) (b.drop k)=decide ((a.length:Int)<(b.length:Int)):=by
 by_cases ha:k<a.length
 ·have hb:b.length=k:=Yd
  rw[xc ha,wl (by omega:b.length≤k),tW,decide_eq_false Yd]
 ·rw[wl (by omega:a.length≤k),tW,vq];exact oz.2 Yd
def qL(a b:List Int):Bool:=decide ((a.length:Int)<(b.length:Int))||(decide ((a.length:Int)=(b.length:Int))&&tW a b)
theorem bOG(yv mv:Γ)(y:aS)(ms:List Int)(c:Nat)(D:aC)(hy:gZ D yv y)(hm:Sl D RI 1 mv ms)(h5:y.claims.length≤5)(U:c<64):Fn prog 148 #[yv,mv,qI (c:Int)] D (λ_ v=>v=.bool (HU y ms c)):=by
 have I:=hy;obtain⟨cv,qv,rfl,hc,hq⟩:=hy;have hml:=hm.len;refine Zx 24 func148 C λh0=>aA<|Zac C λZ E1 V O=>Zf C<|bD<|Zf C<|aE<|Za4<|cW (γ:=Nat) (λk=>ms.length-k) (λk=>k≤ms.length∧HU y (ms.take k) c=false) (λk=>[(7,qI (k:Int))]) [(6,_),(3,_),(1,_),(2,_)] (λk=>[E1,D]) 0 ⟨Yd,C⟩ ⟨Ya,zy⟩ cE (aN) ?_;rintro k ⟨h1,h2⟩;refine bL<|Za C<|Za C<|Zaj C U35 C hm C<|Zal C<|aE<|Zae C (λhc1=>?_) λhc1=>?_
 ·have hk:k<ms.length:=Yd
  obtain⟨x,hx⟩:=cF ms k;have hbl:=AP (nD y.claims x) y.claims.length;have Y:2^y.claims.length≤2^5:=wu Yd h5;refine aP<|Za6<|Za4<|Za6<|fS [] 5 [0,1,2,3,4,6,8,5,7,9] [false,true,true,true,true,true,true,true,true,false] [(false,0),(true,1),(true,2),(true,3),(true,4),(true,6),(true,8),(true,5),(true,7),(false,9)] aV (λ_ _ _ h=>eA (P:=prog) (fn:=f148) _ _ _ h) Yg C<|Zv C jU C O jB<|Za C<|Za C<|gH C hm C hx λb1 o1=>Za C<|Za C<|Zd C (λD1 R=>ZQ _ y x _ (I.up (R _ Yf)) Yd) ?_;refine Qj C C C Yd Yd C zy<|Zas C<|aE<|Zae C (λhc2=>?_) λhc2=>?_
  ·refine aA<|Wg ?_;exact aD C λD hD=>by show Value.bool _=_;rw[UY hx Yd]
  ·refine xz ?_;exact aK 18 (k+1) ⟨Yd,by rw[Bh hx,h2,decide_eq_false Yd];rfl⟩ Yd ⟨Ya,zy⟩ C C zp (aN)
 ·obtain rfl:k=ms.length:=Yd
  rw[ym]at h2;refine Wk ?_;exact aD C λD hD=>by show Value.bool _=_;rw[h2]
theorem WD{b c:Nat}:b&&&c=c ↔∀j,c.testBit j=true→b.testBit j=true:=by
 constructor
 ·intro h j hj;rw[←h,Nat.testBit_and,zl]at hj;exact hj.1
 ·intro h;apply n_;intro j;rw[Nat.testBit_and];cases e:c.testBit j with
  |false=>simp
  |true=>rw[h j e];rfl
theorem aCW{y:aS}(h:aW y=0){c:Nat}:HU y (pK y) c=true ↔∃t,eM y t=true∧∀j,c.testBit j=true→j<y.claims.length∧nD y.claims (B6 y t:Nat) j=true:=by
 have hyo:=VZ h;unfold HU;rw[rx];constructor
 ·rintro⟨m,hm,he⟩;unfold pK at hm;obtain⟨n,_,rfl⟩:=n5.1 hm;refine⟨_,tB hyo n,λj hj=>?_⟩;have:=WD.1 (yn he) j hj;rw[mP,zl,LE]at this;exact this
 ·rintro⟨t,ht,hr⟩;obtain⟨n,hn,rfl⟩:=JD ht;refine⟨Z6 y n,n5.2 ⟨n,yj.2 hn,C⟩,oo (WD.2 λj hj=>?_)⟩;rw[mP,zl,LE];exact hr j hj
theorem PR{cl:List (Int×Int)}{out:List Int}{n:Int}:jJ cl out n=true ↔∀j,j<cl.length→(∃x∈out,(j:Int)=x)∨nD cl n j=true:=by
 unfold jJ;rw[yu];have key:∀j,j<cl.length→(rW cl out n j=true ↔ (∃x∈out,(j:Int)=x)∨nD cl n j=true):=λj hj=>by
  unfold rW nD;rw[yz hj,yg,rx];simp
 exact⟨λh j hj=>(key j hj).1 (h j (yj.2 hj)),λh j hj=>(key j (yj.1 hj)).2 (h j (yj.1 hj))⟩
def VD(n:Nat):Nat→Nat→List (List Int)
 |0,_=>[[]]
 |m+1,f=>(List.range' f (n-m-f)).flatMap λi=>(VD n m (i+1)).map λl=>(i:Int)::l
def pos(y:aS)(l:List Int):Bool:=decide (0<((bT y l).length:Int))
theorem NM:∀{a b c:List Int},tW a b=true→tW b c=true→tW a c=true
 | [],b,c,h1,h2=>by
  cases b with
  |nil=>simp[tW]at h1
  |cons z b=>
   cases c with
   |nil=>simp[tW]at h2
   |cons w c=>simp[tW]
 |x::a,b,c,h1,h2=>by
  cases b with
  |nil=>simp[tW]at h1
  |cons z b=>
   cases c with
   |nil=>simp[tW]at h2
   |cons w c=>
    rw[tW]at h1 h2 ⊢
    split at h1<;>split at h2
    ·rename_i I O;rw[zo (I.trans O)];exact NM h1 h2
    ·rename_i I O;have:=yn h2;rw[zv Yd,LE];omega
    ·rename_i I O;have:=yn h1;rw[zv Yd,LE];omega
    ·rename_i I O;have:=yn h1;have:=yn h2;rw[zv Yd,LE];omega
theorem XV{a b c:List Int}(h1:qL a b=true)(h2:qL b c=true):qL a c=true:=by
 simp only[qL,yg,zl,LE]at *;rcases h1 with h1|h1<;>rcases h2 with h2|h2
 ·left;omega
 ·left;omega
 ·left;omega
 ·right;exact⟨Yd,NM h1.2 h2.2⟩
theorem XB{m j:Nat}:(∃x∈aLM m,(j:Int)=x) ↔ j<7∧m.testBit j=true:=by
 unfold aLM fJ;constructor
 ·rintro⟨x,hx,e⟩;obtain⟨i,hi,rfl⟩:=n5.1 hx;obtain rfl:j=i:=Yd
  rw[xf,yj]at hi;exact hi
 ·rintro⟨h1,h2⟩;exact⟨(j:Int),n5.2 ⟨j,xf.2 ⟨yj.2 h1,h2⟩,C⟩,C⟩
theorem bJJ{y:aS}(h:aW y=0){b:Nat}:pos y (aLM b)=HU y (pK y) (nE (2^y.claims.length-1) b):=by
 have h5:=(VZ h).cls;unfold pos;have bit:∀j,(nE (2^y.claims.length-1) b).testBit j=(decide (j<y.claims.length)&& !b.testBit j):=λj=>by rw[L0,Nat.testBit_two_pow_sub_one]
 rw[vv,LE,Ly,aCW h];constructor
 ·rintro⟨t,h1,h2⟩;refine⟨t,h1,λj hj=>?_⟩;rw[bit,zl,LE,vt]at hj;refine⟨hj.1,?_⟩;rcases PR.1 h2 j hj.1 with h3|h3
  ·rw[(XB.1 h3).2]at hj;simp at hj
  ·exact h3
 ·rintro⟨t,h1,h2⟩;refine⟨t,h1,PR.2 λj hj=>?_⟩;cases e:b.testBit j with
  |true=>exact zq (XB.2 ⟨Yd,e⟩)
  |false=>exact zt (h2 j (by rw[bit,e];simp[hj])).2
end L7
namespace L12
open C12 Go.Lib
theorem NV{step:Int}{p:Option Int}{n:Int}{l:List Int}:L2.oH step p (n::l)=(C2.iF step p n&&L2.oH step (some n) l):=by rw[L2.oH]
theorem J9{step:Int}:∀{rs:List (Int×Int)} {p:Option Int} {l:List Int},l∈C2.iX step rs p ↔ L2.aPM rs l∧L2.oH step p l=true
 | [],p,l=>by
  cases l with
  |nil=>simp[C2.iX,L2.aPM,L2.oH]
  |cons x l=>simp[C2.iX,L2.aPM]
 |r::rs,p,l=>by
  simp only[C2.iX,vr,yj];constructor
  ·rintro⟨m,hm,h⟩;split at h
   ·rename_i hn;obtain⟨u,hu,rfl⟩:=n5.1 h;obtain⟨h1,h2⟩:=J9.1 hu;refine⟨⟨by unfold C2.fZ at hm;omega,h1⟩,?_⟩
    rw[NV,hn,h2];rfl
   ·cases h
  ·cases l with
   |nil=>rintro⟨h,_⟩;exact h.elim
   |cons x l=>
    rintro⟨⟨h1,h2⟩,h3⟩;rw[NV,zl]at h3;have e:r.1+(((x-r.1).toNat:Nat):Int)=x:=Yd
    refine⟨(x-r.1).toNat,by unfold C2.fZ;omega,?_⟩;rw[e,zo h3.1];exact n5.2 ⟨l,J9.2 ⟨h2,h3.2⟩,C⟩
theorem Rg:∀{rs:List (Int×Int)} {l:List Int},L2.aPM rs l→∃n,n<L2.qY rs∧L2.sU rs n=l
 | [],[],_=>⟨0,Nat.zero_lt_one,C⟩
 |r::rs,x::l,h=>by
  obtain⟨n,hn,rfl⟩:=Rg h.2;have h1:=h.1;have hm:(x-r.1).toNat<L2.N5 r:=by unfold L2.N5;omega
  have I:((x-r.1).toNat+L2.N5 r*n)%L2.N5 r=(x-r.1).toNat:=by rw[Nat.add_mul_mod_self_left,Nat.mod_eq_of_lt hm]
  have O:((x-r.1).toNat+L2.N5 r*n) / L2.N5 r=n:=by rw[Nat.add_mul_div_left _ _ Yd,Nat.div_eq_of_lt hm,wo]
  refine⟨(x-r.1).toNat+L2.N5 r*n,?_,?_⟩
  ·have:L2.N5 r*(n+1)≤L2.N5 r*L2.qY rs:=Nat.mul_le_mul_left _ hn;rw[L2.qY];rw[Nat.mul_add,xp]at this;omega
  ·rw[L2.sU,I,O];congr 1;omega
section
variable{s:aO}(hk:mI s)(h:jY s)
include hk h
theorem jY.t3:L2.T3 s.table:=⟨hk.ht,h.hts,h.step,hk.mks,λm hm=>by have:=h.mark m hm;omega⟩
theorem CL{l:List Int}:l∈L2.pJ s.table ↔ l∈C2.fM s.table:=by
 constructor
 ·intro hl;exact J9.2 (L2.CF (h.t3 hk) hl)
 ·intro hl;obtain⟨h1,h2⟩:=J9.1 hl;obtain⟨n,hn,rfl⟩:=Rg h1;exact xf.2 ⟨n5.2 ⟨n,yj.2 hn,C⟩,h2⟩
theorem sX{l:List Int}:l∈L2.nI s.table ↔ l∈C2.bI s.table:=by
 unfold L2.nI;rw[xf,CL hk h];exact⟨λ⟨a,b⟩=>Oh a b,λa=>⟨MM a,Ef a⟩⟩
end
theorem BT{α:Type}{a b:List α}(h:∀x,x∈a ↔ x∈b):a=[] ↔ b=[]:=by
 rw[li,li];exact forall_congr' λx=>not_congr (h x)
def yW(l:C3.bQ):Prop:=(1≤l.kind∧l.kind≤2)∧(0≤l.chair∧l.chair≤2)∧ -1≤l.token∧l.token≤2
theorem KG{l:C3.bQ}(h:yW l):(L3.zC 3 l 2).length=(C3.cJ 3 l).length∧((C3.cJ 3 l).length=1∨(C3.cJ 3 l).length=3):=by
 obtain⟨k,c,t⟩:=l;obtain⟨h1,h2,h3⟩:=h;simp only at h1 h2 h3;have I:k=1∨k=2:=Yd
 have O:c=0∨c=1∨c=2:=Yd
 have R:t= -1∨t=0∨t=1∨t=2:=Yd
 rcases I with rfl|rfl<;>rcases O with rfl|rfl|rfl<;>rcases R with rfl|rfl|rfl|rfl<;>decide
theorem MX:∀(ls:List C3.bQ) (a b:Int),(∀l∈ls,yW l)→0≤a→(a=b∧a≤4096∨a=4097∧4097≤b∧b≤5000)→
  (4096<ls.foldl (λm l=>min (m*((C3.cJ 3 l).length:Int)) 4097) a ↔ 4096<ls.foldl (λ(m:Int) l=>min 5000 (m*((L3.zC 3 l 2).length:Int))) b)
 | [],a,b,_,_,h=>by simp only[List.foldl_nil];omega
 |l::ls,a,b,hl,h0,h=>by
  obtain⟨O,I⟩:=KG (hl l zj);rw[yp,yp,O];refine MX ls _ _ (λx hx=>hl x (GT _ hx)) ?_ ?_
  ·rcases I with e|e<;>rw[e]<;>omega
  ·rcases I with e|e<;>rw[e]<;>omega
theorem LN{ls:List C3.bQ}(h:∀l∈ls,yW l):4096<C3.uQ 3 ls ↔ 4096<L3.kR 3 ls:=MX ls 1 1 h Yu Yd
theorem YB{y:C7.aS}(h:C7.aW y=0):L7.HU y (L7.pK y) (2^y.claims.length-1)=decide (L7.bT y []≠[]):=by
 have h1:=L7.bJJ h (b:=0);have I:L7.aLM 0=[]:=Yu
 have O:nE (2^y.claims.length-1) 0=2^y.claims.length-1:=by
  apply n_;intro j;rw[L0];simp
 rw[I,O]at h1;rw[←h1,L7.pos];cases L7.bT y []<;>simp
abbrev tx:nn:=⟨52,261,139,263,184,267,146⟩
section
variable{α:Type}{x y:α}{a b c:List α}
theorem go:x::a=[x]++a++[]:=Yf
theorem gq:x::(a++b)=[x]++a++b:=rfl
theorem ke:x::(a++b)=([x]++a)++b++[]:=Yf
theorem Ow:x::(a++(b++c))=([x]++a)++b++c:=Yf
theorem Ot:x::(a++(b++c))=([x]++a++b)++c++[]:=Yf
theorem Wai:x::((a++b)++c)=(x::a)++(b++c):=Yf
theorem Waf:x::(a++(b++[y]))=([x]++(a++b))++y::[]:=Yf
theorem Wae:([x]++(a++b))++c++[]=x::(a++(b++c)):=Yf
theorem Oo:([x]++a)++b++[]=x::(a++b):=Yf
theorem Wag:[x]++a++[]=x::a:=Yf
end
section
variable{P:Program}{X:Cx}{γb:Type}[Membership Nat γb]{H:γb}{G:Array Oper}{K:Act→Δ→Prop}{Q:Exit→Act→Δ→Prop}
variable{T:bZ}{W:List aC}{os:List (Bool×Nat)}{fl:Bool}{ix d:Nat}{x y:Operand}{pos:String}{aft:Array Edge}{g:Option (Nat×Bool)}
theorem UD{α:Type}{f:α→List Γ}{n:Nat}(A B:aF)(hf:sw f n){t e tr:Θ}{xs:List α}{b i o cap c2:Nat}{junk:List Γ}{ats:Array Θ}
  (ho:G[ix]?= some ⟨some d,.call {callee:=.builtin .append,args:=#[x,y],argTypes:=ats},tr,pos,aft,g⟩) (ht:P.underlying t=some (.slice e)) (hat:ats[0]?= some t) (I:ats[1]?= some t) (hs:TS P e n)
  (hx:ev T x=some (qS b i cap)) (hy:ev T y=some (.slice (some ⟨b,o,none⟩) (xs.length-(i+1)) c2)) (hi:i<xs.length) (hcap:xs.length≤cap) (hO:i+1<cap→o=(i+1)*n) (hl1:(xs.flatMap f).length=xs.length*n) (O:(xs.flatMap f++junk).length=cap*n)
  (hfl:fl=false∨b∈H) (hg:dF G T g) (kk:∀v' ν',bM e n v' (xs.eraseIdx i).length ((xs.eraseIdx i).flatMap f) ν'→WL P X H G K Q os ((d,v')::T) (A++ν'++B) W) (hN:Nat.blt d X.N=true:=by rfl):WL P X H G K Q ((fl,ix)::os) T (A++(b,qC (xs.flatMap f++junk) e)::B) W:=by
 refine wZ (A:=A) (B:=B) (sz:=n) (xs:=(xs.drop (i+1)).flatMap f) ho ht hat I hs hx hy (p6 hf.1 hi hcap hO O) (G8 hf.1) Yd kj (dP hf.2 _) hfl hN hg ?_;rw[show i+(xs.length-(i+1))=xs.length-1 by omega,A4 hf.1 hi];refine Zad (A++[(b,_)]++B) (by simp only[yy,rh];rfl) (kk _ _ ?_)
 rw[jr hi];exact zt ⟨b,cap,_,C,Yd,C,by rw[dO hf.1,jr hi],V3 hf.1 hi hl1 O hcap⟩
end
def L9(w:Λ)(ns:List Int)(act:eS):Prop:=lV.find? (λx=>x.1==w.data.toList)=some (w.data.toList,ns.length,act)
theorem kI{w:Λ}{ns:List Int}{act act2:eS}{I:List UInt8}{k2:Nat}(h:L9 w ns act)(h2:lV.find? (λx=>x.1==w.data.toList)=some (I,k2,act2)):ns.length=k2∧act=act2:=by
 have h3:=yi (h.symm.trans h2);simp only[ux]at h3;exact h3.2
def cA(y_:List Λ)(w:Λ)(act:eS)(s:aO)(ns:List Int)(e:Int)(s':aO):Prop:=(e= -1∧s'=s∧w∉y_)∨(e=0∧act s ns=.ok s')∨(0<e∧act s ns=.error e)
theorem cA.err{y_:List Λ}{w:Λ}{act:eS}{s s':aO}{ns:List Int}{e:Int}(h:act s ns=.error e)(he:0<e:=by decide):cA y_ w act s ns e s':=zt (zt ⟨he,h⟩)
theorem cA.ok{y_:List Λ}{w:Λ}{act:eS}{s s':aO}{ns:List Int}(h:act s ns=.ok s'):cA y_ w act s ns 0 s':=zt (zq ⟨C,h⟩)
theorem Kn(sv:Γ)(s:aO)(D:aC)(hs:iE D sv s)(hsm:Y0 s):NC prog 77 #[sv] D (λD' v ν=>∃(cs:List Γ) (ν' νz:aF),v=.agg cs.toArray∧ν=ν'++νz∧cs.length=17∧(∀u∈cs,cell1 u=true)∧∀q,qX tx D' q s ((q,qC cs 52)::ν')):=by
 obtain⟨pv,cv,hv,lv,mv,bl,bc,yc,yq,rfl,hL⟩:=hs;unfold dY;refine sE 52 func77 C C C C λh0=>?_;refine aA ?_;refine JK C (e:=52) C C C zy λq1=>?_;refine Zag C R5 C λq2=>?_;refine bX ?_;refine fS [] 2 [0,1,2,4,5,6,3,8,9,7,10,11,12,13] [false,false,false,true,true,true,true,false,false,true,false,false,false,false] [(false,0),(false,1),(false,2),(true,4),(true,5),(true,6),(true,3),(false,8),(false,9),(true,7),(false,10),(false,11),(false,12),(false,13)] aV (λ_ _ _ h=>eA (P:=prog) (fn:=f77) _ _ _ h) Yg C ?_;refine Zj C pN C ?_;refine Zj C jG C ?_;refine Zq C bW C zi C ?_;refine Zj C pN C ?_;refine Zj C kL C ?_;refine Zq C zF C zi C ?_;refine aT (A:=[]) (ν:=[]) (B:=_) C U35 C C aI cN C jV C C C bM.nil (kX.of (cells:=cI) (λ_ _ _ h=>h) (λ_=>C) hL.pl) Yf (dO (n:=1) (λ_=>C) s.row.places) C (dP p4 s.row.places) (by have:=hsm.pl;omega) pq C zy λI ν1 hx1=>?_
 have U:bM 3 1 I s.row.places.length (s.row.places.flatMap cI) ν1:=by simpa using hx1
 refine bB (ν1++_) pp ?_;refine Zj C pN C ?_;refine Zj C jG C ?_;refine aT (A:=[]) (ν:=[]) (B:=_) C U36 C C tP G3 C RN C C C bM.nil (kX.of (cells:=cC) (λ_ _ _ h=>h) (λ_=>C) hL.ct) Yf (dO (n:=3) (λ_=>C) s.row.counts) C (dP s9 s.row.counts) (by have:=hsm.ct;omega) pq C zy λO ν2 hx2=>?_
 have V:bM 261 3 O s.row.counts.length (s.row.counts.flatMap cC) ν2:=by simpa using hx2
 refine bB (ν2++_) pp ?_;refine Zad ((ν2++ν1)++(q2,_)::(q1,_)::[]) ((yy _ _ _).symm) ?_;refine Zt (dY s I cv hv lv mv bl bc yc yq) C U.cells1 eZ (.app (.tail .head)) C U.cell1 ?_;refine Zj C pN C ?_;refine Zj C kL C ?_;refine Zt (dY s I O hv lv mv bl bc yc yq) C V.cells1 KF (.app (.tail .head)) C V.cell1 ?_;refine bX ?_;refine fS [] 2 [0,1,2,4,5,6,8,9,10,3,12,13,7,11,14,15,16,17,18,19,20] [false,false,false,true,true,true,true,true,true,true,false,false,true,true,false,false,false,false,false,false,false] [(false,0),(false,1),(false,2),(true,4),(true,5),(true,6),(true,8),(true,9),(true,10),(true,3),(false,12),(false,13),(true,7),(true,11),(false,14),(false,15),(false,16),(false,17),(false,18),(false,19),(false,20)] aV (λ_ _ _ h=>eA (P:=prog) (fn:=f77) _ _ _ h) Yg C ?_;refine Zj C kM C ?_;refine Zj C oM C ?_;refine Zq C yU C (LT _ zi) C ?_;refine Zj C kM C ?_;refine Zj C sD C ?_;refine Zq C bW C (LT _ zi) C ?_;refine Zj C kM C ?_;refine Zj C oK C ?_;refine Zq C T4 C (LT _ zi) C ?_;refine aT (A:=[]) (ν:=[]) (B:=_) C U39 C C fD lC C aAP C C C bM.nil (kX.of (cells:=cP) (λ_ _ _ h=>h) (λ_=>C) hL.ht) Yf (dO (n:=2) (λ_=>C) s.table.heights) C (dP B1 s.table.heights) (by have:=hsm.ht;omega) pq C zy λR ν3 hJ=>?_
 have Y:bM 139 2 R s.table.heights.length (s.table.heights.flatMap cP) ν3:=by simpa using hJ
 refine bB (ν3++_) pp ?_;refine Zj C kM C ?_;refine Zj C oM C ?_;refine aT (A:=[]) (ν:=[]) (B:=_) C U35 C C aI cN C jV C C C bM.nil (kX.of (cells:=cI) (λ_ _ _ h=>h) (λ_=>C) hL.lev) Yf (dO (n:=1) (λ_=>C) s.table.levels) C (dP p4 s.table.levels) (by have:=hsm.lev;omega) pq C zy λZ ν4 hK=>?_
 have hB:bM 3 1 Z s.table.levels.length (s.table.levels.flatMap cI) ν4:=by simpa using hK
 refine bB (ν4++_) pp ?_;refine aT (A:=[]) (ν:=[]) (B:=_) C U40 C C yF GO C Uj C C C bM.nil (kX.of (cells:=cM) (λ_ _ _ h=>h) (λ_=>C) hL.mks) Yf (dO (n:=4) (λ_=>C) s.table.marks) C (dP AA s.table.marks) (by have:=hsm.mks;omega) pq C zy λw5 ν5 hN=>?_
 have hE:bM 263 4 w5 s.table.marks.length (s.table.marks.flatMap cM) ν5:=by simpa using hN
 refine bB (ν5++_) pp ?_;refine Zad ((ν5++(ν4++(ν3++(ν2++ν1))))++(q2,_)::(q1,_)::[]) (Oq _ _ _ _ _) ?_;refine Zt (dY s I O R lv mv bl bc yc yq) C Y.cells1 Rf (.app (.tail .head)) C Y.cell1 ?_;refine Zj C kM C ?_;refine Zj C sD C ?_;refine Zt (dY s I O R Z mv bl bc yc yq) C hB.cells1 eZ (.app (.tail .head)) C hB.cell1 ?_;refine Zj C kM C ?_;refine Zj C oK C ?_;refine Zt (dY s I O R Z w5 bl bc yc yq) C hE.cells1 UH (.app (.tail .head)) C hE.cell1 ?_;refine aJ ?_;refine Zj C sF C ?_;refine Zj C eK C ?_;refine Zq C kG C (LT _ zi) C ?_;refine aT (A:=[]) (ν:=[]) (B:=_) C U43 C C dR lL C V8 C C C bM.nil (kX.of (cells:=cL) (λ_ _ _ h=>h) (λ_=>C) hL.ln) Yf (dO (n:=3) (λ_=>C) s.book.lines) C (dP BL s.book.lines) (by have:=hsm.ln;omega) pq C zy λw6 ν6 hO=>?_
 have hF:bM 184 3 w6 s.book.lines.length (s.book.lines.flatMap cL) ν6:=by simpa using hO
 refine bB (ν6++_) pp ?_;refine Zj C sF C ?_;refine Zj C eK C ?_;refine Zad ((ν6++(ν5++(ν4++(ν3++(ν2++ν1)))))++(q2,_)::(q1,_)::[]) ((yy _ _ _).symm) ?_;refine Zt (dY s I O R Z w5 w6 bc yc yq) C hF.cells1 wJ (.app (.tail .head)) C hF.cell1 ?_;refine bX ?_;refine fS [] 2 [0,1,2,4,5,6,3,8,9,7,10,11,12,13] [false,false,false,true,true,true,true,false,false,true,false,false,false,false] [(false,0),(false,1),(false,2),(true,4),(true,5),(true,6),(true,3),(false,8),(false,9),(true,7),(false,10),(false,11),(false,12),(false,13)] aV (λ_ _ _ h=>eA (P:=prog) (fn:=f77) _ _ _ h) Yg C ?_;refine Zj C lZ C ?_;refine Zj C iQ C ?_;refine Zq C qM C (LT _ zi) C ?_;refine Zj C lZ C ?_;refine Zj C lY C ?_;refine Zq C yX C (LT _ zi) C ?_;refine aT (A:=[]) (ν:=[]) (B:=_) C U47 C C tN FQ C Ve C C C bM.nil (kX.of (cells:=cH) (λ_ _ _ h=>h) (λ_=>C) hL.ch) Yf (dO (n:=4) (λ_=>C) s.yard.chairs) C (dP JO s.yard.chairs) (by have:=hsm.ch;omega) pq C zy λw7 ν7 hP=>?_
 have hH:bM 267 4 w7 s.yard.chairs.length (s.yard.chairs.flatMap cH) ν7:=by simpa using hP
 refine bB (ν7++_) pp ?_;refine Zj C lZ C ?_;refine Zj C iQ C ?_;refine aT (A:=[]) (ν:=[]) (B:=_) C U48 C C mG vN C Vg C C C bM.nil (kX.of (cells:=cP) (λ_ _ _ h=>h) (λ_=>C) hL.cl) Yf (dO (n:=2) (λ_=>C) s.yard.claims) C (dP B1 s.yard.claims) (by have:=hsm.cl;omega) pq C zy λw8 ν8 hR=>?_
 have hI:bM 146 2 w8 s.yard.claims.length (s.yard.claims.flatMap cP) ν8:=by simpa using hR
 refine bB (ν8++_) pp ?_;refine Zad ((ν8++(ν7++(ν6++(ν5++(ν4++(ν3++(ν2++ν1)))))))++(q2,_)::(q1,_)::[]) (Ox _ _ _ _) ?_;refine Zt (dY s I O R Z w5 w6 bc w7 yq) C hH.cells1 ei (.app (.tail .head)) C hH.cell1 ?_;refine Zj C lZ C ?_;refine Zj C lY C ?_;refine Zt (dY s I O R Z w5 w6 bc w7 w8) C hI.cells1 UL (.app (.tail .head)) C hI.cell1 ?_;refine bX ?_;have hcc:∀u∈dY s I O R Z w5 w6 bc w7 w8,cell1 u=true:=by
  simp[dY,cell1];exact⟨U.cell1 _ Yf,V.cell1 _ Yf,Y.cell1 _ Yf,hB.cell1 _ Yf,hE.cell1 _ Yf,hF.cell1 _ Yf,pS hL.cn,hH.cell1 _ Yf,hI.cell1 _ Yf⟩
 refine aM ?_;refine Zah C nF C (LT _ zi) hG ?_;refine Zab C hG (.app ζ) hcc ?_;refine aG ?_;exact Zp [_] C ⟨⟨_,_,_,C,(LT _ zu),zt ⟨nF,hG,C⟩⟩,zy⟩ λD hD=>⟨dY s I O R Z w5 w6 bc w7 w8,_,_,C,C,C,hcc,λq=>⟨I,O,R,Z,w5,w6,bc,w7,w8,ν1,ν2,ν3,ν4,ν5,ν6,ν7,ν8,C,U,V,Y,hB,hE,hF,hL.cn.up wQ.up (hD _ Yf),hH,hI⟩⟩
theorem j0(a b n:Int)(D:aC):Fn prog 146 #[qI a,qI b,qI n] D (λ_ v=>v=.bool (decide (a≤b)&&decide (b≤n))):=by
 refine Zx 15 func146 C λh0=>lf ?_;refine' bU 4 (s:=10) (p:=14) C (λI=>?_) (λI=>?_) ?_;rotate_left
 ·refine r_ ?_;exact aQ 3
 ·refine Wb ?_;exact aQ 3
 refine Wd ?_;exact aD C λD hD=>C
def vS:List Λ:=[⟨#[112,108,97,99,101]⟩,⟨#[115,101,101,110]⟩,⟨#[99,111,117,110,116]⟩,⟨#[98,97,99,107]⟩,⟨#[117,110,99,111,117,110,116]⟩,⟨#[119,114,111,110,103]⟩,⟨#[111,102,102]⟩]
theorem Lx(wb:Nat)(s:aO)(pv cv hv lv mv bl bc yc yq nv:Γ)(w:Λ)(ns:List Int)(act:eS)(ν1 ν2:aF)(D:aC)(hn:Sl D RI 1 nv ns)(hact:L9 w ns act)(hr:∀x∈ns,0≤x∧x≤999)(hk:mI s)(_hg:jY s)(h1:bM 3 1 pv s.row.places.length (s.row.places.flatMap cI) ν1)(h2:bM 261 3 cv s.row.counts.length (s.row.counts.flatMap cC) ν2):lA prog 78 [qP wb,.string w,nv] D ((wb,qC (dY s pv cv hv lv mv bl bc yc yq) 52)::(ν1++ν2)) (λ_ v ν'=>∃(e:Int) (r:C1.dG),v=qI e∧cA vS w act s ns e (nC s r)∧∃pv' cv' ν1' ν2',ν'=(wb,qC (dY (nC s r) pv' cv' hv lv mv bl bc yc yq) 52)::(ν1'++ν2')∧bM 3 1 pv' r.places.length (r.places.flatMap cI) ν1'∧bM 261 3 cv' r.counts.length (r.counts.flatMap cC) ν2') (λ_=>False):=by
 have k1:=hk.pl;have k2:=hk.ct;refine eR 149 func78 C C C C λh0 hwl hwn=>aA<|Zf C<|bD<|Za C<|aE<|Za4<|aA<|Zay C<|Zf C<|aE<|Zai C (λhc1=>?_) λhc1=>?_
 ·obtain rfl:=yn hc1;obtain⟨hl,rfl⟩:=kI (k2:=0) (act2:=J4) hact C;obtain rfl:ns=[]:=sc hl;refine bL<|Za C<|Zao C<|Zj C jG C<|Zq C bW C zu C<|cG C U35 C h1 C C zy<|Zas C<|aE<|Zai C (λhc2=>?_) (λhc2=>?_)
  ·have hR:=hc2;simp only[LE]at hR;refine Wh ?_;exact bJ C λD' hD=>⟨3,s.row,C,cA.err iw,pv,cv,ν1,ν2,C,h1,h2⟩
  ·have hR:=hc2;simp only[yt]at hR;refine aP<|aM<|Za C<|Za C<|Zao C<|Zj C jG C<|Zq C bW C zu C<|Zu C U35 aI cN C (.cons C C .nil) λb901 D901 hD901 I=>?_;have hS901:=Sl.ofInts (l:=[_]) (n:=1) (cap:=1) I C Yd Yd;refine Zad ([(wb,_)]++ν1++ν2) gq<|zK [(wb,_)] ν2 rp 2 C U35 C C aI cN C jV C C C h1 I Yd Ys zy λO νx hx=>Zad ((wb,_)::(νx++ν2)) gq.symm<|Zao C<|Zj C jG C<|Zt (dY s O cv hv lv mv bl bc yc yq) C hx.cells1 eZ .head C hx.cell1<|Zap<|Wz ?_;exact bJ C λD' hD=>⟨0,{s.row with places:=s.row.places++[2]},C,cA.ok iw,O,cv,νx,ν2,C,hx,h2⟩
 ·refine aA<|Zay C<|Zf C<|aE<|Zai C (λhc3=>?_) (λhc3=>?_)
  ·obtain rfl:=yn hc3;obtain⟨hl,rfl⟩:=kI (k2:=2) (act2:=n8) hact C;obtain⟨a,b,rfl⟩:=AE hl;obtain⟨bt,ot,ct,rfl⟩:=dM hn Yf;have hbt:=eX hn;have R:=hr a Yf;have hb9:=hr b Yf;refine Za6<|Za6<|aZ [] 5 9 248<|Za C<|aX C hn<|Za C<|Zao C<|Zj C jG C<|Zq C bW C zu C<|cG C U35 C h1 C C zy<|mw ?_;refine Zai C (λhc4=>?_) (λhc4=>?_)
   ·have hS:=hc4;simp only[LE]at hS;refine Wh ?_;exact bJ C λD' hD=>⟨7,s.row,C,cA.err md,pv,cv,ν1,ν2,C,h1,h2⟩
   ·have hS:=hc4;simp only[yt]at hS;refine aP<|bL<|Za C<|aX C hn<|Zat C<|aE<|Zai C (λhX=>?_) (λhX=>?_)
    ·have hY:=hX;simp only[LE]at hY;refine Wh ?_;exact bJ C λD' hD=>⟨2,s.row,C,cA.err md,pv,cv,ν1,ν2,C,h1,h2⟩
    ·have hY:=hX;simp only[yt]at hY;refine aP ?_;obtain⟨bx,cap,junk,rfl,hcap,rfl,hl1,rA⟩:=h1.some Yd;refine aZ [] 3 12 1008<|Za C<|Zao C<|Zj C jG C<|Zq C bW C zu C<|Za C<|aX C hn<|Za C<|aX C hn<|eV C U35 aI C C Yd Yd C zy<|fy ?_;refine Wz ?_;exact bJ C λD' hD=>⟨0,{s.row with places:=s.row.places.set a.toNat b},C,cA.ok md,_,cv,[(bx,_)],ν2,C,tK rp sj hcap hl1 rA,h2⟩
  ·refine bL<|Zay C<|Zf C<|aE<|Zai C (λhP=>?_) (λhP=>?_)
   ·obtain rfl:=yn hP;obtain⟨hl,rfl⟩:=kI (k2:=2) (act2:=qK false) hact C;obtain⟨a,b,rfl⟩:=AE hl;obtain⟨bt,ot,ct,rfl⟩:=dM hn Yf;have hbt:=eX hn;have R:=hr a Yf;have hb9:=hr b Yf;refine aP<|jK C hP<|Za6<|Za6<|aZ [] 7 15 248<|Za C<|aX C hn<|Za C<|Zao C<|Zj C jG C<|Zq C bW C zu C<|cG C U35 C h1 C C zy ?_;refine uv ?_;refine' dU 5 (s:=63) (p:=68) C (λhg1=>?_) (λhg1=>?_) ?_;rotate_left
    ·refine Zb C<|jI C U35 aI C hn C Yd C C ⟨_,C,C⟩ λcs6 hr6 hcl6 hA6=>?_;obtain rfl:cs6=[qI _]:=hr6;refine Zi 0 C aH C hA6 C<|Wy ?_;exact aQ 4
    ·refine Wf ?_;exact aQ 4
    refine aE<|Zai C (λrB=>?_) λrB=>?_
    ·have hz7:=rB;simp only[yg,LE]at hz7;refine Wh ?_;exact bJ C λD' hD=>⟨2,s.row,C,cA.err td,pv,cv,ν1,ν2,C,h1,h2⟩
    ·have hz7:=rB;simp only[xn,yt]at hz7;refine aP<|bL<|Za C<|Zao C<|Zj C kL C<|Zq C zF C zu C<|cG C U36 C h2 C C zy<|Zas C<|aE<|Zai C (λhc8=>?_) (λhc8=>?_)
     ·have hz8:=hc8;simp only[LE]at hz8;refine Wh ?_;exact bJ C λD' hD=>⟨3,s.row,C,cA.err td,pv,cv,ν1,ν2,C,h1,h2⟩
     ·have hz8:=hc8;simp only[yt]at hz8;refine aP<|fK hbt Yf λhap=>rM λhnd=>?_;have hnu:=fR hap hnd;have hwbo:wb∉dI.mk [bt,wb]:=dI.out Yf;have hbto:bt∉dI.mk [bt,wb]:=dI.out Yf;refine ax ?_;rw[show decide ((⟨#[99,111,117,110,116]⟩:Λ)=⟨#[98,97,99,107]⟩)=false by decide];refine Za C<|aX C hn<|Za C<|aX C hn<|Zw [.bool false,qI a,qI b] C Su G3 C<|Zu C U36 tP G3 C (.cons C C .nil) λb902 D902 hD902 hA902=>Zad (([(wb,_)]++ν1)++ν2++[]) ke<|zK ([(wb,_)]++ν1) [] gg (⟨false,a,b⟩:C1.zM) C U36 C C tP G3 C RN C C C h2 hA902 Yd Ys zy λO νx hx=>b_ ?_;refine Zap<|Wz ?_;exact bJ C λD' hD=>⟨0,{s.row with counts:=s.row.counts++[(⟨false,a,b⟩:C1.zM)]},C,cA.ok td,pv,O,ν1,νx,C,h1,hx⟩
   ·refine aM<|Zay C<|Zf C<|aE<|Zai C (λhc9=>?_) (λhc9=>?_)
    ·obtain rfl:=yn hc9;obtain⟨hl,rfl⟩:=kI (k2:=2) (act2:=qK true) hact C;obtain⟨a,b,rfl⟩:=AE hl;obtain⟨bt,ot,ct,rfl⟩:=dM hn Yf;have hbt:=eX hn;have R:=hr a Yf;have hb9:=hr b Yf;refine Za6<|Za6<|aZ [] 7 15 248<|Za C<|aX C hn<|Za C<|Zao C<|Zj C jG C<|Zq C bW C zu C<|cG C U35 C h1 C C zy<|uv ?_;refine' dU 5 (s:=63) (p:=68) C (λhg2=>?_) (λhg2=>?_) ?_;rotate_left
     ·refine Zb C<|jI C U35 aI C hn C Yd C C ⟨_,C,C⟩ λcs10 hr10 hcl10 hA10=>?_;obtain rfl:cs10=[qI _]:=hr10;refine Zi 0 C aH C hA10 C<|Wy ?_;exact aQ 4
     ·refine Wf ?_;exact aQ 4
     refine aE<|Zai C (λU=>?_) λU=>?_
     ·have V:=U;simp only[yg,LE]at V;refine Wh ?_;exact bJ C λD' hD=>⟨2,s.row,C,cA.err td,pv,cv,ν1,ν2,C,h1,h2⟩
     ·have V:=U;simp only[xn,yt]at V;refine aP<|bL<|Za C<|Zao C<|Zj C kL C<|Zq C zF C zu C<|cG C U36 C h2 C C zy<|Zas C<|aE<|Zai C (λY=>?_) (λY=>?_)
      ·have Z:=Y;simp only[LE]at Z;refine Wh ?_;exact bJ C λD' hD=>⟨3,s.row,C,cA.err td,pv,cv,ν1,ν2,C,h1,h2⟩
      ·have Z:=Y;simp only[yt]at Z;refine aP<|fK hbt Yf λhap=>rM λhnd=>?_;have hnu:=fR hap hnd;have hwbo:wb∉dI.mk [bt,wb]:=dI.out Yf;have hbto:bt∉dI.mk [bt,wb]:=dI.out Yf;refine ax ?_;rw[show decide ((⟨#[98,97,99,107]⟩:Λ)=⟨#[98,97,99,107]⟩)=true by decide];refine Za C<|aX C hn<|Za C<|aX C hn<|Zw [.bool true,qI a,qI b] C Su G3 C<|Zu C U36 tP G3 C (.cons C C .nil) λb903 D903 hD903 hA903=>Zad (([(wb,_)]++ν1)++ν2++[]) ke<|zK ([(wb,_)]++ν1) [] gg (⟨true,a,b⟩:C1.zM) C U36 C C tP G3 C RN C C C h2 hA903 Yd Ys zy λO νx hx=>b_ ?_;refine Zap<|Wz ?_;exact bJ C λD' hD=>⟨0,{s.row with counts:=s.row.counts++[(⟨true,a,b⟩:C1.zM)]},C,cA.ok td,pv,O,ν1,νx,C,h1,hx⟩
    ·refine aA<|Zay C<|Zf C<|aE<|Zai C (λhB=>?_) (λhB=>?_)
     ·obtain rfl:=yn hB;obtain⟨hl,rfl⟩:=kI (k2:=1) (act2:=rS) hact C;obtain⟨a,rfl⟩:=A9 hl;obtain⟨bt,ot,ct,rfl⟩:=dM hn Yf;have hbt:=eX hn;have R:=hr a Yf;refine Za6<|Za6<|aZ [] 5 9 248<|Za C<|aX C hn<|Za C<|Zao C<|Zj C kL C<|Zq C zF C zu C<|cG C U36 C h2 C C zy<|mw ?_;refine Zai C (λhE=>?_) (λhE=>?_)
      ·have hF:=hE;simp only[LE]at hF;refine Wh ?_;exact bJ C λD' hD=>⟨7,s.row,C,cA.err fe,pv,cv,ν1,ν2,C,h1,h2⟩
      ·have hF:=hE;simp only[yt]at hF;refine aP ?_;obtain⟨i,rfl⟩:∃i:Nat,a=(i:Int):=⟨a.toNat,Yd⟩
       have hi:i<s.row.counts.length:=Yd
       obtain⟨bx,cap,junk,rfl,hcap,rfl,hl1,rA⟩:=h2.some Yd;refine fK hbt Yf λhap=>rM λhnd=>?_;have hnu:=fR hap hnd;have hwbo:wb∉dI.mk [bt,wb]:=dI.out Yf;have hbto:bt∉dI.mk [bt,wb]:=dI.out Yf;have hbx:bx∈dI.mk [bt,wb]:=dI.in_ (hnu (bx,_) (LT _ zj));refine aZ (dI.mk [bt,wb]) 2 22 524286<|Za C<|Za C<|Zao C<|Zj C kL C<|bG C zF C zu C Yo C zy<|Za C<|aX C hn<|EI (i:=i) C U36 tP C C Yd C zy<|Za C<|Zao C<|Zj C kL C ?_;refine bG C zF C zu C Yo C zy<|Za C<|aX C hn<|Zaf C<|EJ (j:=i+1) C U36 tP C C Yd C zy λo ho=>bB (([(wb,_)]++ν1)++(bx,_)::[]) C<|UD ([(wb,_)]++ν1) [] gg C U36 C C tP C C hi hcap ho hl1 rA ib zy λO νx hx=>Zad ((wb,_)::(ν1++νx)) Oo<|Zao C<|Zj C kL C<|Zt (dY s pv O hv lv mv bl bc yc yq) C hx.cells1 KF .head C hx.cell1<|Zap ?_;refine Wz ?_;exact bJ C λD' hD=>⟨0,{s.row with counts:=s.row.counts.eraseIdx i},C,cA.ok (by unfold rS;simp only[];rw[zv Yd,xr]),pv,O,ν1,νx,C,h1,hx⟩
     ·refine aA<|Zay C<|Zf C<|aE<|Zai C (λhH=>?_) (λhH=>?_)
      ·obtain rfl:=yn hH;obtain⟨hl,rfl⟩:=kI (k2:=1) (act2:=K3) hact C;obtain⟨a,rfl⟩:=A9 hl;obtain⟨bt,ot,ct,rfl⟩:=dM hn Yf;have hbt:=eX hn;have R:=hr a Yf;refine bL<|Za C<|aX C hn<|Zat C<|aE<|Zai C (λhI=>?_) (λhI=>?_)
       ·have hJ:=hI;simp only[LE]at hJ;refine Wh ?_;exact bJ C λD' hD=>⟨2,s.row,C,cA.err iu,pv,cv,ν1,ν2,C,h1,h2⟩
       ·have hJ:=hI;simp only[yt]at hJ;refine aP<|aM<|Za C<|Za C<|aX C hn<|Zao C<|Zj C Xt C<|dD (ws:=[pv,cv,qI a,qI s.row.off,qI s.table.last,hv,qI s.table.step,lv,mv,qI s.book.chairs,qI s.book.coin,qI s.book.box,bl,bc,yc,qI s.yard.fit,yq]) C C C C aI .head Yf C Ym zy<|Zap<|Za7<|Za2<|aA ?_;refine Wd ?_;exact bJ C λD' hD=>⟨0,{s.row with wrong:=a},C,cA.ok iu,pv,cv,ν1,ν2,C,h1,h2⟩
      ·refine aA<|Zay C<|Zf C<|aE<|Zai C (λhK=>?_) (λhK=>?_)
       ·obtain rfl:=yn hK;obtain⟨hl,rfl⟩:=kI (k2:=1) (act2:=UP) hact C;obtain⟨a,rfl⟩:=A9 hl;obtain⟨bt,ot,ct,rfl⟩:=dM hn Yf;have hbt:=eX hn;have R:=hr a Yf;refine bL<|Za C<|aX C hn<|Zat C<|aE<|Zai C (λhN=>?_) (λhN=>?_)
        ·have hO:=hN;simp only[LE]at hO;refine Wh ?_;exact bJ C λD' hD=>⟨2,s.row,C,cA.err it,pv,cv,ν1,ν2,C,h1,h2⟩
        ·have hO:=hN;simp only[yt]at hO;refine aP<|aM<|Za C<|Za C<|aX C hn<|Zao C<|Zj C WU C<|dD (ws:=[pv,cv,qI s.row.wrong,qI a,qI s.table.last,hv,qI s.table.step,lv,mv,qI s.book.chairs,qI s.book.coin,qI s.book.box,bl,bc,yc,qI s.yard.fit,yq]) C C C C aI .head Yf C Ym zy<|Zap<|Za7<|Za2<|aA ?_;refine Wd ?_;exact bJ C λD' hD=>⟨0,{s.row with off:=a},C,cA.ok it,pv,cv,ν1,ν2,C,h1,h2⟩
       ·refine Wm ?_;exact bJ C λD' hD=>⟨-1,s.row,C,zq ⟨C,C,(by simp only[vS,zm,n4,yk,wn];exact⟨ye hc1,ye hc3,ye hP,ye hc9,ye hB,ye hH,ye hK⟩)⟩,pv,cv,ν1,ν2,C,h1,h2⟩
def w0:List Λ:=[⟨#[116,105,100,101]⟩,⟨#[115,116,101,112]⟩,⟨#[108,101,118,101,108]⟩,⟨#[114,97,105,115,101]⟩,⟨#[109,97,114,107]⟩,⟨#[117,110,109,97,114,107]⟩]
theorem Dp(wb:Nat)(s:aO)(pv cv hv lv mv bl bc yc yq nv:Γ)(w:Λ)(ns:List Int)(act:eS)(ν3 ν4 ν5:aF)(D:aC)(hn:Sl D RI 1 nv ns)(hact:L9 w ns act)(hr:∀x∈ns,0≤x∧x≤999)(hk:mI s)(hg:jY s)(h3:bM 139 2 hv s.table.heights.length (s.table.heights.flatMap cP) ν3)(h4:bM 3 1 lv s.table.levels.length (s.table.levels.flatMap cI) ν4)(h5:bM 263 4 mv s.table.marks.length (s.table.marks.flatMap cM) ν5):lA prog 79 [.pointer (some ⟨wb,4,none⟩),.string w,nv] D ((wb,qC (dY s pv cv hv lv mv bl bc yc yq) 52)::(ν3++(ν4++ν5))) (λ_ v ν'=>∃(e:Int) (r:C2.bA),v=qI e∧cA w0 w act s ns e (iR s r)∧∃hv' lv' mv' ν3' ν4' ν5',ν'=(wb,qC (dY (iR s r) pv cv hv' lv' mv' bl bc yc yq) 52)::(ν3'++(ν4'++ν5'))∧bM 139 2 hv' r.heights.length (r.heights.flatMap cP) ν3'∧bM 3 1 lv' r.levels.length (r.levels.flatMap cI) ν4'∧bM 263 4 mv' r.marks.length (r.marks.flatMap cM) ν5') (λ_=>False):=by
 have kht:=hk.ht;have kla:=hg.last;have k4:=hk.lev;have k5:=hk.mks;refine eR 211 func79 C C C C λh0 hwl hwn=>aA<|Zf C<|bD<|Za C<|aE<|Za4<|aA<|Zay C<|Zf C<|aE<|Zai C (λhc1=>?_) λhc1=>?_
 ·obtain rfl:=yn hc1;obtain⟨hl,rfl⟩:=kI (k2:=3) (act2:=BQ) hact C;obtain⟨a,b,c,rfl⟩:=gk hl;obtain⟨bt,ot,ct,rfl⟩:=dM hn Yf;have hbt:=eX hn;have I:=hr a Yf;have hb9:=hr b Yf;have O:=hr c Yf;refine Za6<|Za6<|aZ [] 4 8 120<|Za C<|aX C hn<|Za C<|Zao C<|Zj C AQ C<|Zq C aH C zu C<|Zat C<|aE<|Zai C (λhc2=>?_) (λhc2=>?_)
  ·have hS:=hc2;simp only[LE]at hS;refine Wh ?_;exact bJ C λD' hD=>⟨7,s.table,C,cA.err me,hv,lv,mv,ν3,ν4,ν5,C,h3,h4,h5⟩
  ·have hS:=hc2;simp only[yt]at hS;refine aP<|Za6<|Za6<|aZ [] 5 18 28728<|Za C<|aX C hn<|Za C<|aX C hn<|Zd C (λD1 hD1=>j0 _ _ _ _)<|si ?_;refine' dU 9 (s:=26) (p:=35) C (λhg1=>?_) (λhg1=>?_) ?_;rotate_left
   ·refine Zb C<|jI C U35 aI C hn C Yd C C ⟨_,C,C⟩ λcs4 hr4 hcl4 hA4=>?_;obtain rfl:cs4=[qI _]:=hr4;refine Zi 0 C aH C hA4 C<|Zb C<|jI C U35 aI C hn C Yd C C ⟨_,C,C⟩ λcs5 hr5 hcl5 hA5=>?_;obtain rfl:cs5=[qI _]:=hr5;refine Zi 0 C aH C hA5 C<|xO C C C Ye C ⟨_,C,C⟩<|Wy ?_;exact aQ 8
   ·refine oh ?_;exact aQ 8
   refine aE<|Zai C (λhc3=>?_) λhc3=>?_
   ·have hX:=hc3;simp only[yg,pf,vt,LE,yt]at hX;refine Wh ?_;exact bJ C λD' hD=>⟨2,s.table,C,cA.err me,hv,lv,mv,ν3,ν4,ν5,C,h3,h4,h5⟩
   ·have hX:=hc3;simp only[xn,zl,ry,LE,yt]at hX;refine aP ?_;obtain⟨bx,cap,junk,rfl,hcap,rfl,hl1,R⟩:=h3.some Yd;refine aZ [] 3 16 16368<|Za C<|Zao C<|Zj C oM C<|Zq C yU C zu C<|Za C<|aX C hn<|Za C<|aX C hn<|Za C<|aX C hn<|Zw [qI b,qI c] C yK lC C ?_;refine eV C U39 fD C C Yd Yd C zy<|DL nk (b,c) C C C C fD (.tail .head) Yd zy<|Zap<|Wz ?_;exact bJ C λD' hD=>⟨0,{s.table with heights:=s.table.heights.set a.toNat (b,c)},C,cA.ok me,_,lv,mv,[(bx,_)],ν4,ν5,C,tK nk sj hcap hl1 R,h4,h5⟩
 ·refine aA<|Zay C<|Zf C<|aE<|Zai C (λhc4=>?_) (λhc4=>?_)
  ·obtain rfl:=yn hc4;obtain⟨hl,rfl⟩:=kI (k2:=1) (act2:=BN) hact C;obtain⟨a,rfl⟩:=A9 hl;obtain⟨bt,ot,ct,rfl⟩:=dM hn Yf;have hbt:=eX hn;have I:=hr a Yf;refine bL<|Za C<|aX C hn<|Zat C<|aE<|Zai C (λhY=>?_) (λhY=>?_)
   ·have rA:=hY;simp only[LE]at rA;refine Wh ?_;exact bJ C λD' hD=>⟨2,s.table,C,cA.err ir,hv,lv,mv,ν3,ν4,ν5,C,h3,h4,h5⟩
   ·have rA:=hY;simp only[yt]at rA;refine aP<|aM<|Za C<|Za C<|aX C hn<|Zao C<|Zj C HI C<|dD (ws:=[pv,cv,qI s.row.wrong,qI s.row.off,qI s.table.last,hv,qI a,lv,mv,qI s.book.chairs,qI s.book.coin,qI s.book.box,bl,bc,yc,qI s.yard.fit,yq]) C C C C aI .head Yf C Ym zy<|Zap<|Za7<|Za2<|aA ?_;refine Wd ?_;exact bJ C λD' hD=>⟨0,{s.table with step:=a},C,cA.ok ir,hv,lv,mv,ν3,ν4,ν5,C,h3,h4,h5⟩
  ·refine aA<|Zay C<|Zf C<|aE<|Zai C (λrB=>?_) (λrB=>?_)
   ·obtain rfl:=yn rB;obtain⟨hl,rfl⟩:=kI (k2:=1) (act2:=G0) hact C;obtain⟨a,rfl⟩:=A9 hl;obtain⟨bt,ot,ct,rfl⟩:=dM hn Yf;have hbt:=eX hn;have I:=hr a Yf;refine bL<|Za C<|aX C hn<|Zat C<|aE<|Zai C (λhc7=>?_) (λhc7=>?_)
    ·have hz7:=hc7;simp only[LE]at hz7;refine Wh ?_;exact bJ C λD' hD=>⟨2,s.table,C,cA.err mg,hv,lv,mv,ν3,ν4,ν5,C,h3,h4,h5⟩
    ·have hz7:=hc7;simp only[yt]at hz7;refine aP<|bL<|Za C<|Zao C<|Zj C sD C<|Zq C bW C zu C<|cG C U35 C h4 C C zy<|Zas C<|aE<|Zai C (λhc8=>?_) (λhc8=>?_)
     ·have hz8:=hc8;simp only[LE]at hz8;refine Wh ?_;exact bJ C λD' hD=>⟨3,s.table,C,cA.err mg,hv,lv,mv,ν3,ν4,ν5,C,h3,h4,h5⟩
     ·have hz8:=hc8;simp only[yt]at hz8;refine aP<|fK hbt Yf λhap=>rM λhnd=>?_;have hnu:=fR hap hnd;have hwbo:wb∉dI.mk [bt,wb]:=dI.out Yf;have hbto:bt∉dI.mk [bt,wb]:=dI.out Yf;refine aZ (dI.mk [bt,wb]) 2 13 1022<|Za C<|Za C<|Zao C<|Zj C sD C<|bG C bW C zu C Yo C zy<|Za C<|aX C hn<|Zu C U35 aI cN C (.cons C C .nil) λb901 D901 hD901 U=>?_;have hS901:=Sl.ofInts (l:=[_]) (n:=1) (cap:=1) U C Yd Yd;refine Zad (([(wb,_)]++ν3)++ν4++ν5) Ow<|zK ([(wb,_)]++ν3) ν5 rp a C U35 C C aI cN C jV C C C h4 U Yd Ys zy λv1 νx hx=>Zad ((wb,_)::(ν3++(νx++ν5))) Ow.symm<|Zao C<|Zj C sD C<|Zt (dY s pv cv hv v1 mv bl bc yc yq) C hx.cells1 eZ .head C hx.cell1<|Zap<|Wz ?_;exact bJ C λD' hD=>⟨0,{s.table with levels:=s.table.levels++[a]},C,cA.ok mg,hv,v1,mv,ν3,νx,ν5,C,h3,hx,h5⟩
   ·refine aA<|Zay C<|Zf C<|aE<|Zai C (λO=>?_) (λO=>?_)
    ·obtain rfl:=yn O;obtain⟨hl,rfl⟩:=kI (k2:=2) (act2:=K9) hact C;obtain⟨a,b,rfl⟩:=AE hl;obtain⟨bt,ot,ct,rfl⟩:=dM hn Yf;have hbt:=eX hn;have I:=hr a Yf;have hb9:=hr b Yf;refine Za6<|Za6<|aZ [] 5 9 248<|Za C<|aX C hn<|Za C<|Zao C<|Zj C sD C<|Zq C bW C zu C<|cG C U35 C h4 C C zy<|mw ?_;refine Zai C (λV=>?_) (λV=>?_)
     ·have Y:=V;simp only[LE]at Y;refine Wh ?_;exact bJ C λD' hD=>⟨7,s.table,C,cA.err mh,hv,lv,mv,ν3,ν4,ν5,C,h3,h4,h5⟩
     ·have Y:=V;simp only[yt]at Y;refine aP<|bL<|Za C<|aX C hn<|Zat C<|aE<|Zai C (λZ=>?_) (λZ=>?_)
      ·have hB:=Z;simp only[LE]at hB;refine Wh ?_;exact bJ C λD' hD=>⟨2,s.table,C,cA.err mh,hv,lv,mv,ν3,ν4,ν5,C,h3,h4,h5⟩
      ·have hB:=Z;simp only[yt]at hB;refine aP ?_;obtain⟨bx,cap,junk,rfl,hcap,rfl,hl1,R⟩:=h4.some Yd;refine aZ [] 3 12 1008<|Za C<|Zao C<|Zj C sD C<|Zq C bW C zu C<|Za C<|aX C hn<|Za C<|aX C hn<|eV C U35 aI C C Yd Yd C zy<|DL rp b C C C C aI (.tail (.app .head)) Yd zy<|Zap ?_;refine Wz ?_;exact bJ C λD' hD=>⟨0,{s.table with levels:=s.table.levels.set a.toNat b},C,cA.ok mh,hv,_,mv,ν3,[(bx,_)],ν5,C,h3,tK rp sj hcap hl1 R,h5⟩
    ·refine aA<|Zay C<|Zf C<|aE<|Zai C (λhE=>?_) (λhE=>?_)
     ·obtain rfl:=yn hE;obtain⟨hl,rfl⟩:=kI (k2:=4) (act2:=N1) hact C;obtain⟨a,b,c,d,rfl⟩:=gr hl;obtain⟨bt,ot,ct,rfl⟩:=dM hn Yf;have hbt:=eX hn;have I:=hr a Yf;have hb9:=hr b Yf;have O:=hr c Yf;have hd9:=hr d Yf;refine Za6<|Za6<|aZ [] 6 18 61560<|Za C<|aX C hn<|Za C<|Zao C<|Zj C AQ C<|Zq C aH C zu C<|uv ?_;refine' dU 9 (s:=123) (p:=132) C (λhg2=>?_) (λhg2=>?_) ?_;rotate_left
      ·refine Zb C<|jI C U35 aI C hn C Yd C C ⟨_,C,C⟩ λcs18 hr18 hcl18 hA18=>?_;obtain rfl:cs18=[qI _]:=hr18;refine Zi 0 C aH C hA18 C<|Zb C<|wK C C C ⟨_,C,C⟩<|Zk C AQ C<|Zr C aH C zu C<|Wy ?_;exact aQ 8
      ·refine oh ?_;exact aQ 8
      refine aE<|Zai C (λhF=>?_) λhF=>?_
      ·have hH:=hF;simp only[yg,LE]at hH;refine Wh ?_;exact bJ C λD' hD=>⟨7,s.table,C,cA.err px,hv,lv,mv,ν3,ν4,ν5,C,h3,h4,h5⟩
      ·have hH:=hF;simp only[xn,yt]at hH;refine aP<|Za6<|Za6<|aZ [] 5 17 14392<|Za C<|aX C hn<|Za C<|aX C hn<|uv ?_;refine' dU 9 (s:=140) (p:=149) C (λhg3=>?_) (λhg3=>?_) ?_;rotate_left
       ·refine Zb C<|jI C U35 aI C hn C Yd C C ⟨_,C,C⟩ λcs21 hr21 hcl21 hA21=>?_;obtain rfl:cs21=[qI _]:=hr21;refine Zi 0 C aH C hA21 C<|Zb C<|jI C U35 aI C hn C Yd C C ⟨_,C,C⟩ λcs22 hr22 hcl22 hA22=>?_;obtain rfl:cs22=[qI _]:=hr22;refine Zi 0 C aH C hA22 C<|Ze C (λD2 hD2=>j0 _ _ _ _)<|vp ?_;exact aQ 8
       ·refine oh ?_;exact aQ 8
       refine aE<|Zai C (λhI=>?_) λhI=>?_
       ·have hJ:=hI;simp only[yg,pf,vt,LE,yt]at hJ;refine Wh ?_;exact bJ C λD' hD=>⟨2,s.table,C,cA.err (by unfold N1;simp only[];rw[zv Yd];split<;>first|rfl|rw[zo Yd]),hv,lv,mv,ν3,ν4,ν5,C,h3,h4,h5⟩
       ·have hJ:=hI;simp only[xn,zl,ry,LE,yt]at hJ;refine aP<|bL<|Za C<|Zao C<|Zj C oK C<|Zq C T4 C zu C<|cG C U40 C h5 C C zy<|Zas C<|aE<|Zai C (λhK=>?_) (λhK=>?_)
        ·have hN:=hK;simp only[LE]at hN;refine Wh ?_;exact bJ C λD' hD=>⟨3,s.table,C,cA.err px,hv,lv,mv,ν3,ν4,ν5,C,h3,h4,h5⟩
        ·have hN:=hK;simp only[yt]at hN;refine aP<|fK hbt Yf λhap=>rM λhnd=>?_;have hnu:=fR hap hnd;have hwbo:wb∉dI.mk [bt,wb]:=dI.out Yf;have hbto:bt∉dI.mk [bt,wb]:=dI.out Yf;refine aZ (dI.mk [bt,wb]) 2 24 2097150<|Za C<|Za C<|Zao C<|Zj C oK C<|bG C T4 C zu C Yo C zy<|Za C<|aX C hn<|n1 ?_;refine Za C<|aX C hn<|Zw [qI c,qI d] C yK lC C<|Zw [qI a,qI b,qI c,qI d] C Xdf GO C<|Zu C U40 yF GO C (.cons C C .nil) λb902 D902 hD902 hA902=>Zad (([(wb,_)]++ν3++ν4)++ν5++[]) Ot<|zK ([(wb,_)]++ν3++ν4) [] bz (⟨a,b,c,d⟩:C2.Mk) C U40 C C yF GO C Uj C C C h5 hA902 Yd Ys zy λv1 νx hx=>Zad ((wb,_)::(ν3++(ν4++νx))) Ot.symm<|ao ?_;refine Wz ?_;exact bJ C λD' hD=>⟨0,{s.table with marks:=s.table.marks++[(⟨a,b,c,d⟩:C2.Mk)]},C,cA.ok px,hv,lv,v1,ν3,ν4,νx,C,h3,h4,hx⟩
     ·refine aA<|Zay C<|Zf C<|aE<|Zai C (λhO=>?_) (λhO=>?_)
      ·obtain rfl:=yn hO;obtain⟨hl,rfl⟩:=kI (k2:=1) (act2:=vT) hact C;obtain⟨a,rfl⟩:=A9 hl;obtain⟨bt,ot,ct,rfl⟩:=dM hn Yf;have hbt:=eX hn;have I:=hr a Yf;refine Za6<|Za6<|aZ [] 5 9 248<|Za C<|aX C hn<|Za C<|Zao C<|Zj C oK C<|Zq C T4 C zu C<|cG C U40 C h5 C C zy<|mw ?_;refine Zai C (λhP=>?_) (λhP=>?_)
       ·have hR:=hP;simp only[LE]at hR;refine Wh ?_;exact bJ C λD' hD=>⟨7,s.table,C,cA.err fd,hv,lv,mv,ν3,ν4,ν5,C,h3,h4,h5⟩
       ·have hR:=hP;simp only[yt]at hR;refine aP ?_;obtain⟨i,rfl⟩:∃i:Nat,a=(i:Int):=⟨a.toNat,Yd⟩
        have hi:i<s.table.marks.length:=Yd
        obtain⟨bx,cap,junk,rfl,hcap,rfl,hl1,R⟩:=h5.some Yd;refine fK hbt Yf λhap=>rM λhnd=>?_;have hnu:=fR hap hnd;have hwbo:wb∉dI.mk [bt,wb]:=dI.out Yf;have hbto:bt∉dI.mk [bt,wb]:=dI.out Yf;have hbx:bx∈dI.mk [bt,wb]:=dI.in_ (hnu (bx,_) (LT _ (LT _ zj)));refine aZ (dI.mk [bt,wb]) 2 22 524286<|Za C<|Za C<|Zao C<|Zj C oK C<|bG C T4 C zu C Yo C zy<|Za C<|aX C hn<|EI (i:=i) C U40 yF C C Yd C zy<|Za C<|Zao C<|Zj C oK C ?_;refine bG C T4 C zu C Yo C zy<|Za C<|aX C hn<|Zaf C<|EJ (j:=i+1) C U40 yF C C Yd C zy λo ho=>Zad (([(wb,_)]++(ν3++ν4))++(bx,_)::[]) Waf<|UD ([(wb,_)]++(ν3++ν4)) [] bz C U40 C C yF C C hi hcap ho hl1 R ib zy λv1 νx hx=>Zad ((wb,_)::(ν3++(ν4++νx))) Wae<|ao ?_;refine Wz ?_;exact bJ C λD' hD=>⟨0,{s.table with marks:=s.table.marks.eraseIdx i},C,cA.ok (by unfold vT;simp only[];rw[zv Yd,xr]),hv,lv,v1,ν3,ν4,νx,C,h3,h4,hx⟩
      ·refine Wm ?_;exact bJ C λD' hD=>⟨-1,s.table,C,zq ⟨C,C,(by simp only[w0,zm,n4,yk,wn];exact⟨ye hc1,ye hc4,ye rB,ye O,ye hE,ye hO⟩)⟩,hv,lv,mv,ν3,ν4,ν5,C,h3,h4,h5⟩
def S2:List Λ:=[⟨#[104,105,114,101]⟩,⟨#[98,114,105,110,103]⟩,⟨#[115,109,117,100,103,101]⟩,⟨#[115,116,114,105,107,101]⟩]
theorem Wbq{s:aO}{a b c:Int}(ha:0≤a)(h:(s.yard.chairs.length:Int)≤a∨3≤b):xH s [a,b,c]=.error 7:=by
 unfold xH;simp only[]
 split
 ·rfl
 ·rename_i hq;have:=(yx.1 hq).1;exact zo Yd
theorem Wau{s:aO}{a b c:Int}(ha:a.toNat<s.yard.chairs.length)(hb:b<3)(hc:2<c):xH s [a,b,c]=.error 2:=by
 unfold xH;simp only[]
 rw[yz ha];exact(zv Yd).trans (zo hc)
theorem QT{s:aO}{a b c:Int}{x:C7.Ch}(hx:s.yard.chairs[a.toNat]?= some x)(hb:b<3)(hc:c≤2):xH s [a,b,c]=.ok (lK s {s.yard with chairs:=s.yard.chairs.set a.toNat {x with parts:=JY x.parts b.toNat c}}):=by
 unfold xH;simp only[]
 rw[hx];exact(zv Yd).trans (zv Yd)
theorem SR{w:Λ}{ns:List Int}{act:eS}(h:L9 w ns act)(h1:w∉vS)(h2:w∉w0)(h3:w∉S2)(g1:¬w=⟨#[98,114,111,107,101,110]⟩)(g2:¬w=⟨#[112,97,114,116]⟩)(g3:¬w=⟨#[102,105,116]⟩)(g4:¬w=⟨#[99,108,97,105,109]⟩):w=⟨#[117,110,99,108,97,105,109]⟩:=by
 obtain⟨x,hx,e⟩:∃x∈lV,x.1=w.data.toList:=⟨_,jq h,C⟩
 have hw:w=rN x.1:=by rw[e];exact(zV w).symm
 clear h e;simp only[vS,w0,S2,zm,n4,yk,wn]at h1 h2 h3;simp only[lV,zm,n4,yk]at hx;rcases hx with rfl|rfl|rfl|rfl|rfl|rfl|rfl|rfl|rfl|rfl|rfl|rfl|rfl|rfl|rfl|rfl|rfl|rfl|rfl|rfl|rfl|rfl;all_goals first|exact hw|exact absurd hw h1.1|exact absurd hw h1.2.1|exact absurd hw h1.2.2.1|exact absurd hw h1.2.2.2.1|exact absurd hw h1.2.2.2.2.1|exact absurd hw h1.2.2.2.2.2.1|exact absurd hw h1.2.2.2.2.2.2|exact absurd hw h2.1|exact absurd hw h2.2.1|exact absurd hw h2.2.2.1|exact absurd hw h2.2.2.2.1|exact absurd hw h2.2.2.2.2.1|exact absurd hw h2.2.2.2.2.2|exact absurd hw h3.1|exact absurd hw h3.2.1|exact absurd hw h3.2.2.1|exact absurd hw h3.2.2.2|exact absurd hw g1|exact absurd hw g2|exact absurd hw g3|exact absurd hw g4
theorem Jr(wb:Nat)(s:aO)(pv cv hv lv mv bl bc yc yq nv:Γ)(w:Λ)(ns:List Int)(act:eS)(ν6:aF)(D:aC)(hn:Sl D RI 1 nv ns)(hact:L9 w ns act)(hr:∀x∈ns,0≤x∧x≤999)(hk:mI s)(hg:jY s)(I:bM 184 3 bl s.book.lines.length (s.book.lines.flatMap cL) ν6):lA prog 80 [.pointer (some ⟨wb,9,none⟩),.string w,nv] D ((wb,qC (dY s pv cv hv lv mv bl bc yc yq) 52)::(ν6)) (λ_ v ν'=>∃(e:Int) (r:C3.aU),v=qI e∧cA S2 w act s ns e (pW s r)∧∃bl' ν6',ν'=(wb,qC (dY (pW s r) pv cv hv lv mv bl' bc yc yq) 52)::(ν6')∧bM 184 3 bl' r.lines.length (r.lines.flatMap cL) ν6'∧r.counts=s.book.counts) (λ_=>False):=by
 have kbc:=hk.bc;have k6:=hk.ln;refine eR 110 func80 C C C C λh0 hwl hwn=>aA<|Zf C<|bD<|Za C<|aE<|Za4<|bL<|Zay C<|Zf C<|aE<|Zai C (λhc1=>?_) λhc1=>?_
 ·obtain rfl:=yn hc1;obtain⟨hl,rfl⟩:=kI (k2:=2) (act2:=qF 1) hact C;obtain⟨a,b,rfl⟩:=AE hl;obtain⟨bt,ot,ct,rfl⟩:=dM hn Yf;have hbt:=eX hn;have hF:=hr a Yf;have rA:=hr b Yf;refine aP<|jK C hc1<|bL<|Za C<|aX C hn<|uv ?_;refine' dU 5 (s:=16) (p:=21) C (λrB=>?_) (λrB=>?_) ?_;rotate_left
  ·refine Zb C<|jI C U35 aI C hn C Yd C C ⟨_,C,C⟩ λcs2 hr2 hcl2 hA2=>?_;obtain rfl:cs2=[qI _]:=hr2;refine Zi 0 C aH C hA2 C<|Wy ?_;exact aQ 4
  ·refine Wf ?_;exact aQ 4
  refine aE<|Zai C (λhc2=>?_) λhc2=>?_
  ·have hH:=hc2;simp only[yg,LE]at hH;refine Wh ?_;exact bJ C λD' hD=>⟨7,s.book,C,cA.err tf,bl,ν6,C,I,C⟩
  ·have hH:=hc2;simp only[xn,yt]at hH;refine aP<|bL<|Za C<|Zao C<|Zj C eK C<|Zq C kG C zu C<|cG C U43 C I C C zy<|Zas C<|aE<|Zai C (λhc3=>?_) (λhc3=>?_)
   ·have hI:=hc3;simp only[LE]at hI;refine Wh ?_;exact bJ C λD' hD=>⟨3,s.book,C,cA.err tf,bl,ν6,C,I,C⟩
   ·have hI:=hc3;simp only[yt]at hI;refine aP<|aA<|Zf C<|bD<|Za C<|Zay C ?_;rw[show decide ((⟨#[104,105,114,101]⟩:Λ)=⟨#[98,114,105,110,103]⟩)=false by decide];refine aE<|Zai C (λhc4=>?_) (λhc4=>?_)
    ·cases hc4
    ·refine aP<|fK hbt Yf λhap=>rM λhnd=>?_;have hnu:=fR hap hnd;have hwbo:wb∉dI.mk [bt,wb]:=dI.out Yf;have hbto:bt∉dI.mk [bt,wb]:=dI.out Yf;refine aZ (dI.mk [bt,wb]) 2 18 32766<|Za C<|Za C<|Zao C<|Zj C eK C<|bG C kG C zu C Yo C zy<|Za C<|Za C<|aX C hn<|Za C<|aX C hn<|Zw [qI 1,qI a,qI b] C FS lL C ?_;refine Zu C U43 dR lL C (.cons C C .nil) λb901 D901 hD901 hJ=>Zad ([(wb,_)]++ν6++[]) go<|zK [(wb,_)] [] nl (⟨1,a,b⟩:C3.bQ) C U43 C C dR lL C V8 C C C I hJ Yd Ys zy λv1 νx hx=>Zad ((wb,_)::(νx)) go.symm<|az ?_;refine aG ?_;exact bJ C λD' hD=>⟨0,{s.book with lines:=s.book.lines++[(⟨1,a,b⟩:C3.bQ)]},C,cA.ok tf,v1,νx,C,hx,C⟩
 ·refine aM<|Zay C<|Zf C<|aE<|Zai C (λhK=>?_) (λhK=>?_)
  ·obtain rfl:=yn hK;obtain⟨hl,rfl⟩:=kI (k2:=2) (act2:=qF 2) hact C;obtain⟨a,b,rfl⟩:=AE hl;obtain⟨bt,ot,ct,rfl⟩:=dM hn Yf;have hbt:=eX hn;have hF:=hr a Yf;have rA:=hr b Yf;refine bL<|Za C<|aX C hn<|uv ?_;refine' dU 5 (s:=16) (p:=21) C (λhg2=>?_) (λhg2=>?_) ?_;rotate_left
   ·refine Zb C<|jI C U35 aI C hn C Yd C C ⟨_,C,C⟩ λcs6 hr6 hcl6 hA6=>?_;obtain rfl:cs6=[qI _]:=hr6;refine Zi 0 C aH C hA6 C<|Wy ?_;exact aQ 4
   ·refine Wf ?_;exact aQ 4
   refine aE<|Zai C (λhN=>?_) λhN=>?_
   ·have hO:=hN;simp only[yg,LE]at hO;refine Wh ?_;exact bJ C λD' hD=>⟨7,s.book,C,cA.err tf,bl,ν6,C,I,C⟩
   ·have hO:=hN;simp only[xn,yt]at hO;refine aP<|bL<|Za C<|Zao C<|Zj C eK C<|Zq C kG C zu C<|cG C U43 C I C C zy<|Zas C<|aE<|Zai C (λhP=>?_) (λhP=>?_)
    ·have hR:=hP;simp only[LE]at hR;refine Wh ?_;exact bJ C λD' hD=>⟨3,s.book,C,cA.err tf,bl,ν6,C,I,C⟩
    ·have hR:=hP;simp only[yt]at hR;refine aP<|aA<|Zf C<|bD<|Za C<|Zay C ?_;rw[show decide ((⟨#[98,114,105,110,103]⟩:Λ)=⟨#[98,114,105,110,103]⟩)=true by decide];refine aE<|Zai C (λhY=>?_) (λhY=>?_)
     ·refine aM<|Zf C<|aE<|fK hbt Yf λhap=>rM λhnd=>?_;have hnu:=fR hap hnd;have hwbo:wb∉dI.mk [bt,wb]:=dI.out Yf;have hbto:bt∉dI.mk [bt,wb]:=dI.out Yf;refine aZ (dI.mk [bt,wb]) 2 18 32766<|Za C<|Za C<|Zao C<|Zj C eK C<|bG C kG C zu C Yo C zy<|Za C<|Za C<|aX C hn<|Za C<|aX C hn<|Zw [qI 2,qI a,qI b] C FS lL C ?_;refine Zu C U43 dR lL C (.cons C C .nil) λb902 D902 hD902 hS=>Zad ([(wb,_)]++ν6++[]) go<|zK [(wb,_)] [] nl (⟨2,a,b⟩:C3.bQ) C U43 C C dR lL C V8 C C C I hS Yd Ys zy λv1 νx hx=>Zad ((wb,_)::(νx)) go.symm<|az ?_;refine aG ?_;exact bJ C λD' hD=>⟨0,{s.book with lines:=s.book.lines++[(⟨2,a,b⟩:C3.bQ)]},C,cA.ok tf,v1,νx,C,hx,C⟩
     ·cases hY
  ·refine aA<|Zay C<|Zf C<|aE<|Zai C (λhX=>?_) (λhX=>?_)
   ·obtain rfl:=yn hX;obtain⟨hl,rfl⟩:=kI (k2:=1) (act2:=rU) hact C;obtain⟨a,rfl⟩:=A9 hl;obtain⟨bt,ot,ct,rfl⟩:=dM hn Yf;have hbt:=eX hn;have hF:=hr a Yf;refine Za6<|Za6<|aZ [] 5 9 248<|ar ?_;refine Zai C (λO=>?_) (λO=>?_)
    ·have R:=O;simp only[LE]at R;refine Wh ?_;exact bJ C λD' hD=>⟨7,s.book,C,cA.err (by unfold rU;simp only[];rw[tq Yd]),bl,ν6,C,I,C⟩
    ·have R:=O;simp only[yt]at R;refine aP<|Za6<|Za6 ?_;obtain⟨bx,cap,junk,rfl,hcap,rfl,hl1,hE⟩:=I.some Yd;obtain⟨x,hx⟩:=cF s.book.lines (a.toNat);have hlx:=hg.ln x (GE hx);refine aZ [] 7 11 112<|Za C<|Zao C<|Zj C eK C<|Zq C kG C zu C<|Za C<|aX C hn<|eV C U43 dR C C Yd Yd C zy<|Zj C rE C<|bG (v:=qI x.token) C aH C zi aa n4 C zy<|Zal C<|aE ?_;refine Zai C (λU=>?_) (λU=>?_)
     ·have V:=U;simp only[LE]at V;refine Wh ?_;exact bJ C λD' hD=>⟨6,s.book,C,cA.err (by unfold rU;simp only[];rw[hx];exact zo Yd),_,[(bx,_)],C,zt ⟨bx,cap,junk,C,hcap,C,hl1,hE⟩,C⟩
     ·have V:=U;simp only[yt]at V;refine aP<|aZ [] 3 10 112<|Za C<|Zao C<|Zj C eK C<|Zq C kG C zu C<|Za C<|aX C hn<|eV C U43 dR C C Yd Yd C zy<|Zj C rE C<|am ?_;refine Wz ?_;exact bJ C λD' hD=>⟨0,{s.book with lines:=s.book.lines.set a.toNat {x with token:= -1}},C,cA.ok (by unfold rU;simp only[];rw[hx];exact zv Yd),_,[(bx,_)],C,tK nl sj hcap hl1 hE,C⟩
   ·refine aA<|Zay C<|Zf C<|aE<|Zai C (λY=>?_) (λY=>?_)
    ·obtain rfl:=yn Y;obtain⟨hl,rfl⟩:=kI (k2:=1) (act2:=uY) hact C;obtain⟨a,rfl⟩:=A9 hl;obtain⟨bt,ot,ct,rfl⟩:=dM hn Yf;have hbt:=eX hn;have hF:=hr a Yf;refine Za6<|Za6<|aZ [] 5 9 248<|ar ?_;refine Zai C (λZ=>?_) (λZ=>?_)
     ·have hB:=Z;simp only[LE]at hB;refine Wh ?_;exact bJ C λD' hD=>⟨7,s.book,C,cA.err fc,bl,ν6,C,I,C⟩
     ·have hB:=Z;simp only[yt]at hB;refine aP ?_;obtain⟨i,rfl⟩:∃i:Nat,a=(i:Int):=⟨a.toNat,Yd⟩
      have hi:i<s.book.lines.length:=Yd
      obtain⟨bx,cap,junk,rfl,hcap,rfl,hl1,hE⟩:=I.some Yd;refine fK hbt Yf λhap=>rM λhnd=>?_;have hnu:=fR hap hnd;have hwbo:wb∉dI.mk [bt,wb]:=dI.out Yf;have hbto:bt∉dI.mk [bt,wb]:=dI.out Yf;have hbx:bx∈dI.mk [bt,wb]:=dI.in_ (hnu (bx,_) zj);refine aZ (dI.mk [bt,wb]) 2 22 524286<|Za C<|Za C<|Zao C<|Zj C eK C<|bG C kG C zu C Yo C zy<|Za C<|aX C hn<|EI (i:=i) C U43 dR C C Yd C zy<|Za C<|Zao C<|Zj C eK C ?_;refine bG C kG C zu C Yo C zy<|Za C<|aX C hn<|Zaf C<|EJ (j:=i+1) C U43 dR C C Yd C zy λo ho=>bB ([(wb,_)]++(bx,_)::[]) C<|UD [(wb,_)] [] nl C U43 C C dR C C hi hcap ho hl1 hE ib zy λv1 νx hx=>Zad ((wb,_)::(νx)) Wag<|Zao C<|Zj C eK C<|Zt (dY s pv cv hv lv mv v1 bc yc yq) C hx.cells1 wJ .head C hx.cell1<|Zap ?_;refine Wz ?_;exact bJ C λD' hD=>⟨0,{s.book with lines:=s.book.lines.eraseIdx i},C,cA.ok (by unfold uY;simp only[];rw[zv Yd,xr]),v1,νx,C,hx,C⟩
    ·refine Wm ?_;exact bJ C λD' hD=>⟨-1,s.book,C,zq ⟨C,C,(by simp only[S2,zm,n4,yk,wn];exact⟨ye hc1,ye hK,ye hX,ye Y⟩)⟩,bl,ν6,C,I,C⟩
theorem Ie(wb:Nat)(s:aO)(pv cv hv lv mv bl bc yc yq nv:Γ)(w:Λ)(ns:List Int)(act:eS)(ν7 ν8:aF)(D:aC)(hn:Sl D RI 1 nv ns)(hact:L9 w ns act)(hw1:w∉vS)(hw2:w∉w0)(hw3:w∉S2)(hr:∀x∈ns,0≤x∧x≤999)(hk:mI s)(_hg:jY s)(I:bM 267 4 yc s.yard.chairs.length (s.yard.chairs.flatMap cH) ν7)(h8:bM 146 2 yq s.yard.claims.length (s.yard.claims.flatMap cP) ν8):lA prog 81 [.pointer (some ⟨wb,14,none⟩),.string w,nv] D ((wb,qC (dY s pv cv hv lv mv bl bc yc yq) 52)::(ν7++ν8)) (λ_ v ν'=>∃(e:Int) (r:C7.aS),v=qI e∧cA [w] w act s ns e (lK s r)∧∃yc' yq' ν7' ν8',ν'=(wb,qC (dY (lK s r) pv cv hv lv mv bl bc yc' yq') 52)::(ν7'++ν8')∧bM 267 4 yc' r.chairs.length (r.chairs.flatMap cH) ν7'∧bM 146 2 yq' r.claims.length (r.claims.flatMap cP) ν8') (λ_=>False):=by
 have k7:=hk.ch;have k8:=hk.cl;refine eR 172 func81 C C C C λh0 hwl hwn=>aA<|Zf C<|bD<|Za C<|aE<|Za4<|aA<|Zay C<|Zf C<|aE<|Zai C (λhc1=>?_) λhc1=>?_
 ·obtain rfl:=yn hc1;obtain⟨hl,rfl⟩:=kI (k2:=4) (act2:=vC) hact C;obtain⟨a,b,c,d,rfl⟩:=gr hl;obtain⟨bt,ot,ct,rfl⟩:=dM hn Yf;have hbt:=eX hn;have hE:=hr a Yf;have rA:=hr b Yf;have O:=hr c Yf;have hd9:=hr d Yf;refine bL<|Za C<|aX C hn<|uv ?_;refine' dU 5 (s:=44) (p:=49) C (λhg1=>?_) (λhg1=>?_) ?_;rotate_left
  ·refine Zb C<|jI C U35 aI C hn C Yd C C ⟨_,C,C⟩ λcs2 hr2 hcl2 hA2=>?_;obtain rfl:cs2=[qI _]:=hr2;refine Zi 0 C aH C hA2 C<|Wy ?_;exact aQ 4
  ·refine Wf ?_;exact aQ 4
  refine Za C ?_;refine' dU 5 (s:=50) (p:=55) C (λhg2=>?_) (λhg2=>?_) ?_;rotate_left
  ·refine Zb C<|jI C U35 aI C hn C Yd C C ⟨_,C,C⟩ λcs3 hr3 hcl3 hA3=>?_;obtain rfl:cs3=[qI _]:=hr3;refine Zi 0 C aH C hA3 C<|Wy ?_;exact aQ 4
  ·refine Wf ?_;exact aQ 4
  refine Za C ?_;refine' dU 5 (s:=56) (p:=61) C (λhg3=>?_) (λhg3=>?_) ?_;rotate_left
  ·refine Zb C<|jI C U35 aI C hn C Yd C C ⟨_,C,C⟩ λcs4 hr4 hcl4 hA4=>?_;obtain rfl:cs4=[qI _]:=hr4;refine Zi 0 C aH C hA4 C<|Wy ?_;exact aQ 4
  ·refine Wf ?_;exact aQ 4
  refine aE<|Zai C (λhc2=>?_) λhc2=>?_
  ·have hF:=hc2;simp only[yg,LE]at hF;refine Wh ?_;exact bJ C λD' hD=>⟨2,s.yard,C,cA.err mj,yc,yq,ν7,ν8,C,I,h8⟩
  ·have hF:=hc2;simp only[xn,yt]at hF;refine aP<|bL<|Za C<|Zao C<|Zj C iQ C<|Zq C qM C zu C<|cG C U47 C I C C zy<|Zas C<|aE<|Zai C (λhc3=>?_) (λhc3=>?_)
   ·have hH:=hc3;simp only[LE]at hH;refine Wh ?_;exact bJ C λD' hD=>⟨3,s.yard,C,cA.err mj,yc,yq,ν7,ν8,C,I,h8⟩
   ·have hH:=hc3;simp only[yt]at hH;refine aP<|fK hbt Yf λhap=>rM λhnd=>?_;have hnu:=fR hap hnd;have hwbo:wb∉dI.mk [bt,wb]:=dI.out Yf;have hbto:bt∉dI.mk [bt,wb]:=dI.out Yf;refine aZ (dI.mk [bt,wb]) 2 24 2097150<|Za C<|Za C<|Zao C<|Zj C iQ C<|bG C qM C zu C Yo C zy<|Za C<|aX C hn<|n1 ?_;refine Za C<|aX C hn<|BC (cs:=[qI b,qI c,qI d]) C U265 aI xS C C C zy<|lJ (cs:=[qI a,qI b,qI c,qI d]) C aFL FQ C Yg C zy<|Zu C U47 tN FQ C (.cons C C .nil) λb901 D901 hD901 hI=>Zad ([(wb,_)]++ν7++ν8) gq<|zK [(wb,_)] ν8 lj (⟨a,⟨b,c,d⟩⟩:C7.Ch) C U47 C C tN FQ C Ve C C C I hI Yd Ys zy λv1 νx hx=>Zad ((wb,_)::(νx++ν8)) gq.symm<|Zao C<|Zj C iQ C<|Zt (dY s pv cv hv lv mv bl bc v1 yq) C hx.cells1 ei .head C hx.cell1<|Zap ?_;refine Wz ?_;exact bJ C λD' hD=>⟨0,{s.yard with chairs:=s.yard.chairs++[(⟨a,⟨b,c,d⟩⟩:C7.Ch)]},C,cA.ok mj,v1,yq,νx,ν8,C,hx,h8⟩
 ·refine aA<|Zay C<|Zf C<|aE<|Zai C (λhc4=>?_) (λhc4=>?_)
  ·obtain rfl:=yn hc4;obtain⟨hl,rfl⟩:=kI (k2:=3) (act2:=xH) hact C;obtain⟨a,b,c,rfl⟩:=gk hl;obtain⟨bt,ot,ct,rfl⟩:=dM hn Yf;have hbt:=eX hn;have hE:=hr a Yf;have rA:=hr b Yf;have O:=hr c Yf;refine Za6<|Za6<|aZ [] 7 15 248<|Za C<|aX C hn<|Za C<|Zao C<|Zj C iQ C<|Zq C qM C zu C<|cG C U47 C I C C zy<|kE C C C C zy<|Za C ?_;refine' dU 5 (s:=102) (p:=107) C (λhg4=>?_) (λhg4=>?_) ?_;rotate_left
   ·refine Zb C<|jI C U35 aI C hn C Yd C C ⟨_,C,C⟩ λrB hr10 hcl10 hA10=>?_;obtain rfl:rB=[qI _]:=hr10;refine Zi 0 C aH C hA10 C<|Wy ?_;exact aQ 4
   ·refine Wf ?_;exact aQ 4
   refine aE<|Zai C (λhJ=>?_) λhJ=>?_
   ·have hK:=hJ;simp only[yg,LE]at hK;refine Wh ?_;exact bJ C λD' hD=>⟨7,s.yard,C,cA.err (Wbq Yd Yd),yc,yq,ν7,ν8,C,I,h8⟩
   ·have hK:=hJ;simp only[xn,yt]at hK;refine aP<|bL<|Za C<|aX C hn<|Zat C<|aE<|Zai C (λhN=>?_) (λhN=>?_)
    ·have hO:=hN;simp only[LE]at hO;refine Wh ?_;exact bJ C λD' hD=>⟨2,s.yard,C,cA.err (Wau Yd Yd Yd),yc,yq,ν7,ν8,C,I,h8⟩
    ·have hO:=hN;simp only[yt]at hO;refine aP ?_;obtain⟨bx,cap,junk,rfl,hcap,rfl,hl1,hP⟩:=I.some Yd;obtain⟨x,hx⟩:=cF s.yard.chairs (a.toNat);refine aZ [] 3 17 32752<|Za C<|Zao C<|Zj C iQ C<|Zq C qM C zu C<|Za C<|aX C hn<|Za C<|aX C hn<|Za C<|aX C hn<|eV C U47 tN C C Yd Yd C zy ?_;refine Zj C DV C<|fH C U265 aI C C Yd Yd C zy<|QP lj (x2:={x with parts:=JY x.parts b.toNat c}) (k:=(1+b.toNat)) C C C C aI (.tail .head) hx Yd (Qb Yd) Yd zy<|Zap<|Wz ?_;exact bJ C λD' hD=>⟨0,{s.yard with chairs:=s.yard.chairs.set a.toNat {x with parts:=JY x.parts b.toNat c}},C,cA.ok (QT hx Yd Yd),_,yq,[(bx,_)],ν8,C,tK lj sj hcap hl1 hP,h8⟩
  ·refine aA<|Zay C<|Zf C<|aE<|Zai C (λhR=>?_) (λhR=>?_)
   ·obtain rfl:=yn hR;obtain⟨hl,rfl⟩:=kI (k2:=1) (act2:=TJ) hact C;obtain⟨a,rfl⟩:=A9 hl;obtain⟨bt,ot,ct,rfl⟩:=dM hn Yf;have hbt:=eX hn;have hE:=hr a Yf;refine bL<|Za C<|aX C hn<|Zat C<|aE<|Zai C (λhS=>?_) (λhS=>?_)
    ·have hX:=hS;simp only[LE]at hX;refine Wh ?_;exact bJ C λD' hD=>⟨2,s.yard,C,cA.err iq,yc,yq,ν7,ν8,C,I,h8⟩
    ·have hX:=hS;simp only[yt]at hX;refine aP<|aM<|Za C<|Za C<|aX C hn<|Zao C<|Zj C P9 C<|dD (ws:=[pv,cv,qI s.row.wrong,qI s.row.off,qI s.table.last,hv,qI s.table.step,lv,mv,qI s.book.chairs,qI s.book.coin,qI s.book.box,bl,bc,yc,qI a,yq]) C C C C aI .head Yf C Ym zy<|Zap<|Za7<|Za2<|aA ?_;refine Wd ?_;exact bJ C λD' hD=>⟨0,{s.yard with fit:=a},C,cA.ok iq,yc,yq,ν7,ν8,C,I,h8⟩
   ·refine aA<|Zay C<|Zf C<|aE<|Zai C (λO=>?_) (λO=>?_)
    ·obtain rfl:=yn O;obtain⟨hl,rfl⟩:=kI (k2:=2) (act2:=I3) hact C;obtain⟨a,b,rfl⟩:=AE hl;obtain⟨bt,ot,ct,rfl⟩:=dM hn Yf;have hbt:=eX hn;have hE:=hr a Yf;have rA:=hr b Yf;refine Za6<|Za6<|aZ [] 4 8 56<|Za C<|aX C hn<|Za C<|aX C hn<|Zd C (λD1 hD1=>j0 _ _ _ _)<|Zav C<|aE<|Zai C (λR=>?_) (λR=>?_)
     ·have U:=R;simp only[pf,vt,yt]at U;refine Wh ?_;exact bJ C λD' hD=>⟨2,s.yard,C,cA.err mf,yc,yq,ν7,ν8,C,I,h8⟩
     ·have U:=R;simp only[zl,ry,LE]at U;refine aP<|bL<|Za C<|Zao C<|Zj C lY C<|Zq C yX C zu C<|cG C U48 C h8 C C zy<|Zas C<|aE<|Zai C (λV=>?_) (λV=>?_)
      ·have Y:=V;simp only[LE]at Y;refine Wh ?_;exact bJ C λD' hD=>⟨3,s.yard,C,cA.err mf,yc,yq,ν7,ν8,C,I,h8⟩
      ·have Y:=V;simp only[yt]at Y;refine aP<|fK hbt Yf λhap=>rM λhnd=>?_;have hnu:=fR hap hnd;have hwbo:wb∉dI.mk [bt,wb]:=dI.out Yf;have hbto:bt∉dI.mk [bt,wb]:=dI.out Yf;refine aZ (dI.mk [bt,wb]) 2 17 16382<|Za C<|Za C<|Zao C<|Zj C lY C<|bG C yX C zu C Yo C zy<|Za C<|aX C hn<|Za C<|aX C hn<|Zw [qI a,qI b] C UT vN C<|Zu C U48 mG vN C (.cons C C .nil) λb902 D902 hD902 hY=>?_;refine Zad (([(wb,_)]++ν7)++ν8++[]) ke<|zK ([(wb,_)]++ν7) [] nk (a,b) C U48 C C mG vN C Vg C C C h8 hY Yd Ys zy λv1 νx hx=>Zad ((wb,_)::(ν7++νx)) ke.symm<|Zao C<|Zj C lY C<|Zt (dY s pv cv hv lv mv bl bc yc v1) C hx.cells1 UL .head C hx.cell1<|Zap<|Wz ?_;exact bJ C λD' hD=>⟨0,{s.yard with claims:=s.yard.claims++[(a,b)]},C,cA.ok mf,yc,v1,ν7,νx,C,I,hx⟩
    ·obtain rfl:=SR hact hw1 hw2 hw3 (ye hc1) (ye hc4) (ye hR) (ye O);obtain⟨hl,rfl⟩:=kI (k2:=1) (act2:=sI) hact C;obtain⟨a,rfl⟩:=A9 hl;obtain⟨bt,ot,ct,rfl⟩:=dM hn Yf;have hbt:=eX hn;have hE:=hr a Yf;refine Za6<|Za6<|aZ [] 5 9 248<|Za C<|aX C hn<|Za C<|Zao C<|Zj C lY C<|Zq C yX C zu C<|cG C U48 C h8 C C zy<|mw ?_;refine Zai C (λZ=>?_) (λZ=>?_)
     ·have hB:=Z;simp only[LE]at hB;refine Wh ?_;exact bJ C λD' hD=>⟨7,s.yard,C,cA.err fa,yc,yq,ν7,ν8,C,I,h8⟩
     ·have hB:=Z;simp only[yt]at hB;refine aP ?_;obtain⟨i,rfl⟩:∃i:Nat,a=(i:Int):=⟨a.toNat,Yd⟩
      have hi:i<s.yard.claims.length:=Yd
      obtain⟨bx,cap,junk,rfl,hcap,rfl,hl1,hP⟩:=h8.some Yd;refine fK hbt Yf λhap=>rM λhnd=>?_;have hnu:=fR hap hnd;have hwbo:wb∉dI.mk [bt,wb]:=dI.out Yf;have hbto:bt∉dI.mk [bt,wb]:=dI.out Yf;have hbx:bx∈dI.mk [bt,wb]:=dI.in_ (hnu (bx,_) (LT _ zj));refine aZ (dI.mk [bt,wb]) 2 22 524286<|Za C<|Za C<|Zao C<|Zj C lY C<|bG C yX C zu C Yo C zy<|Za C<|aX C hn<|EI (i:=i) C U48 mG C C Yd C zy<|Za C<|Zao C<|Zj C lY C ?_;refine bG C yX C zu C Yo C zy<|Za C<|aX C hn<|Zaf C<|EJ (j:=i+1) C U48 mG C C Yd C zy λo ho=>bB (([(wb,_)]++ν7)++(bx,_)::[]) C<|UD ([(wb,_)]++ν7) [] nk C U48 C C mG C C hi hcap ho hl1 hP ib zy λv1 νx hx=>Zad ((wb,_)::(ν7++νx)) Oo<|Zao C<|Zj C lY C<|Zt (dY s pv cv hv lv mv bl bc yc v1) C hx.cells1 UL .head C hx.cell1<|Zap ?_;refine Wz ?_;exact bJ C λD' hD=>⟨0,{s.yard with claims:=s.yard.claims.eraseIdx i},C,cA.ok (by unfold sI;simp only[];rw[zv Yd,xr]),yc,v1,ν7,νx,C,I,hx⟩
theorem Mv(sv:Γ)(s:aO)(D:aC)(hs:iE D sv s)(hk:mI s)(hg:jY s):Fn prog 82 #[sv] D (λ_ v=>v=qI (eI s)):=by
 obtain⟨pv,cv,hv,lv,mv,bl,bc,yc,yq,rfl,hL⟩:=hs;unfold dY;have hcl:=hk.cl;have hp5:2^s.yard.claims.length≤2^5:=wu Yd Yd;have V:1≤2^s.yard.claims.length:=Nat.one_le_two_pow;refine Zx 40 func82 C λh0=>aA<|Zac C λq1 E1 rA I=>Zf C<|bD<|Zj C pN C<|Zaq 0 C H7 wS C I C<|Zz C (λD1 Y=>L1.DH _ s.row _ (hL.row.up (Y _ Yf)) (hg.rowOk hk)) λv1 D1 Y V=>?_;have hI:=V;refine Zaj C U57 C hI C<|Zas C<|aE<|Zae C (λhc1=>?_) λhc1=>?_
 ·have R:C1.truths s.row=[]:=(sc Yd)
  refine aA<|Wi ?_;exact aD C λD hD=>by show Value.int _ _=_;rw[wF hk hg];unfold ZI;rw[zo R]
 ·have R:¬C1.truths s.row=[]:=λe=>hc1 qy
  refine aP<|bL<|Zj C kM C<|Zaq 4 C yY uM C I C<|Zz C (λD2 Z=>L2.PS _ s.table _ (hL.table.up (Z _ Yf)) (hg.t3 hk)) λv2 D2 Z hJ=>?_;have hK:=hJ;refine Zaj C U57 C hK C<|Zas C<|aE<|Zae C (λhc2=>?_) λhc2=>?_
  ·have a2:C2.fM s.table=[]:=(BT λx=>CL hk hg).1 (sc Yd);refine aA<|Wi ?_;exact aD C λD hD=>by show Value.int _ _=_;rw[wF hk hg];unfold ZI;rw[zv R,zo a2]
  ·have a2:¬C2.fM s.table=[]:=λe=>hc2 (by rw[(BT λx=>CL hk hg).2 e];rfl)
   refine aP<|bL<|Zj C kM C<|Zaq 4 C yY uM C I C<|Zz C (λD3 hB=>L2.K5 _ s.table _ (hL.table.up (hB _ Yf)) (hg.t3 hk)) λv3 D3 hB hN=>?_;have hO:=hN;refine Zaj C U57 C hO C<|Zas C<|aE<|Zae C (λhc3=>?_) λhc3=>?_
   ·have a3:C2.bI s.table=[]:=(BT λx=>sX hk hg).1 (sc Yd);refine aA<|Wi ?_;exact aD C λD hD=>by show Value.int _ _=_;rw[wF hk hg];unfold ZI;rw[zv R,zv a2,zo a3]
   ·have a3:¬C2.bI s.table=[]:=λe=>hc3 (by rw[(BT λx=>sX hk hg).2 e];rfl)
    refine aP<|bL<|Zj C sF C<|Zaq 9 C mE jX C I C<|Zd C (λD4 hP=>L3.wY _ s.book 3 _ (hL.book.up (hP _ Yf)) hk.bc Yu)<|uv ?_;refine' dU 5 (s:=23) (p:=28) C (λhR=>?_) (λhR=>?_) ?_;rotate_left
    ·refine Zk C lZ C<|sL C (k:=14) jU jB C I Yc C C n4 C ⟨_,C,C⟩<|Ze C (λD5 hS=>L7.KP _ s.yard _ (hL.yard.up (hS _ Yf)) (by have:=hk.ch;omega))<|Wy ?_;exact aQ 4
    ·refine Wf ?_;exact aQ 4
    refine aE<|Zai C (λhc4=>?_) λhc4=>?_
    ·have a4:4096<C3.uQ 3 s.book.lines∨8<C7.cZ s.yard.chairs:=by rw[LN hg.ln];have O:=hc4;simp only[yg,LE]at O;omega
     refine aA<|Wi ?_;exact aD C λD hD=>by show Value.int _ _=_;rw[wF hk hg];unfold ZI;rw[zv R,zv a2,zv a3,zo a4]
    ·have a4:¬(4096<C3.uQ 3 s.book.lines∨8<C7.cZ s.yard.chairs):=by rw[LN hg.ln];have O:=hc4;simp only[xn,yt]at O;omega
     have hfy:C7.aW s.yard=0:=by rw[hg.fY hk];exact zv Yd
     refine aP<|aA<|Zj C lZ C<|Zaq 14 C jU jB C I C<|Zz C (λD6 hE=>L7.LF _ s.yard _ (hL.yard.up (hE _ Yf)) hfy) λv6 D6 hE hX=>?_;have hA:=hX;refine Zf C<|bX<|Za6<|bK [] 4 8 60<|Zj C lZ C<|Zaq 14 C jU jB C I C<|Za C<|Zj C lZ C<|Zaq 14 C jU jB C I C<|Zz C (λD7 hF=>L7.aHZ _ s.yard _ (hL.yard.up (hF _ Yf)) Yd) λv7 D7 hF hY=>?_;obtain rfl:=hY;rw[show((2^s.yard.claims.length:Nat):Int)-1=((2^s.yard.claims.length-1:Nat):Int) by omega];refine Zd C (λD8 hH=>L7.bOG _ _ s.yard (L7.pK s.yard) (2^s.yard.claims.length-1) _ (hL.yard.up (hH _ Yf)) (hA.up RI.up (hH _ Yf)) hcl Yd)<|Zav C<|aE<|Zai C (λU=>?_) λU=>?_
     ·have a5:L7.bT s.yard []=[]:=by have O:=U;rw[YB hfy]at O;simpa using O
      refine aA<|Wi ?_;exact aD C λD hD=>by show Value.int _ _=_;rw[wF hk hg];unfold ZI;rw[zv R,zv a2,zv a3,zv a4,zo a5]
     ·have a5:¬L7.bT s.yard []=[]:=by have O:=U;rw[YB hfy]at O;simpa using O
      refine aP<|aA<|Wd ?_;exact aD C λD hD=>by show Value.int _ _=_;rw[wF hk hg];unfold ZI;rw[zv R,zv a2,zv a3,zv a4,zv a5]
end L12
namespace C12
end C12
namespace L12
open C12 Go.Lib
section
variable{P:Program}{X:Cx}{γb:Type}[Membership Nat γb]{H:γb}{G:Array Oper}{K:Act→Δ→Prop}{Q:Exit→Act→Δ→Prop}
variable{T:bZ}{L:aF}{W:List aC}{os:List (Bool×Nat)}{fl:Bool}{ix d:Nat}{ty:Θ}{pos:String}{aft:Array Edge}{g:Option (Nat×Bool)}{v:Γ}
end
theorem Ky(ls:List Λ):(gX ls).length=ls.length:=yh _
theorem Gw(D:aC):Fn prog 27 #[] D (λD' v=>iE D' v G5):=by
 refine Zx 17 func27 C λh0=>aA<|Zag C R5 C λq1=>aJ<|Zag C R5 C λq2=>aJ<|Zu C U35 aI cN C (.cons C C (.cons C C (.cons C C (.cons C C .nil)))) λV D901 Z I=>?_;have O:=Sl.ofInts (l:=[_,_,_,_]) (n:=4) (cap:=4) I C Yd Yd;refine Zw [qS V 4 4,qN,qI 0,qI 1] C Xbp Wcd C<|Zj C pN C<|Zs C wS ζ C<|aJ<|Zw [qI 5,qI 5] C yK lC C<|Zw [qI 5,qI 5] C yK lC C<|Zw [qI 5,qI 5] C yK lC C<|Zw [qI 5,qI 5] C yK lC C<|Zu C U39 fD lC C (.cons C C (.cons C C (.cons C C (.cons C C .nil)))) λY hE hB U=>Zw [qI 3,qS Y 4 4,qI 5,qN,qN] C Xab Xcf C<|Zj C kM C<|Zs C uM ζ C ?_;refine aJ<|Zw [qI 3,qI 5,qI 20,qN,qN] C Xcl eg C<|Zj C sF C<|Zs C jX ζ C<|aJ<|Zw [qN,qI 1,qN] C Xby Xbm C<|Zj C lZ C<|Zs C jB ζ C<|aJ<|Zah C nF C zu hG<|fG C C C C hG Yb Yb (.tail ζ) Ym zy<|aG ?_;exact Zp [_] C ⟨⟨_,_,_,C,zi,Or.inr ⟨nF,hG,C⟩⟩,zy⟩ λD' hD=>⟨_,_,_,_,_,_,_,_,_,C,⟨O.up RI.up (hD _ Yf),Sl.nil,(oW (f:=cP) (R:=EQ) (xs:=[(5,5),(5,5),(5,5),(5,5)]) (λ_ _=>C) (λ_=>C) (zt ⟨_,4,C,Yu,U⟩) Yu).up EQ.up (hD _ Yf),Sl.nil,Sl.nil,Sl.nil,Sl.nil,Sl.nil,Sl.nil⟩⟩
section
variable{y_ G':List Λ}{w:Λ}{act:eS}{s s':aO}{ns:List Int}{e:Int}
theorem cA.neg(h:cA y_ w act s ns e s')(he:e<0):e= -1∧s'=s∧w∉y_:=by
 rcases h with h|⟨h,_⟩|⟨h,_⟩
 ·exact h
 ·omega
 ·omega
theorem cA.add(h:cA G' w act s ns e s')(h0:w∉y_):cA (y_++G') w act s ns e s':=by
 rcases h with⟨h1,h2,h3⟩|h
 ·exact zq ⟨h1,h2,λhm=>(zd.1 hm).elim h0 h3⟩
 ·exact zt h
theorem cA.keep(h:cA y_ w act s ns e s')(he:¬e<0):cA G' w act s ns e s':=by
 rcases h with⟨h1,_⟩|h
 ·omega
 ·exact zt h
theorem cA.zero(h:cA y_ w act s ns e s')(he:e=0):act s ns=.ok s':=by
 rcases h with⟨h,_⟩|⟨_,h⟩|⟨h,_⟩
 ·omega
 ·exact h
 ·omega
theorem cA.errs(h:cA [w] w act s ns e s')(he:¬e=0):act s ns=.error e:=by
 rcases h with⟨_,_,h⟩|⟨h,_⟩|⟨_,h⟩
 ·exact absurd zj h
 ·omega
 ·exact h
end
theorem Az{o:Option (List Int)}{b:Bool}{Q:List Int→Prop}(h:match o with|some ns=>b=true∧Q ns|none=>b=false)(hb:b=true):∃ns,o=some ns∧Q ns:=by
 cases o with
 |none=>rw[hb]at h;cases h
 |some ns=>exact⟨ns,C,h.2⟩
theorem Nr{line:Λ}{ns:List Int}(h:iY line.data.toList=some ns):∃p0 ps act,eH line=p0::ps∧L9 p0 ns act∧kB line=some (act,ns):=by
 obtain⟨p0,ps,hc⟩:=qR line;rw[AS hc]at h;split at h
 ·rename_i hm;unfold a8 at hm;split at hm
  ·rename_i l k act hf;have hk:ps.length=k:=Yd
   have hl:ns.length=ps.length:=by have h8:=LD (ps:=gX ps) (by rw[d9];exact h);rwa [Ky]at h8
   have e:l=p0.data.toList:=by have:=List.find?_some hf;simpa using this
   refine⟨p0,ps,act,hc,?_,s8 hc hf hk h⟩;unfold L9;rw[hf,e,hl,hk]
  ·omega
 ·cases h
theorem MG{line:Λ}(h:iY line.data.toList=none):kB line=none:=by
 obtain⟨p0,ps,hc⟩:=qR line;rw[AS hc]at h;rw[wD hc];unfold a8 at h;split
 ·rfl
 ·rename_i l k act hf;rw[hf]at h;simp only at h;split
  ·rename_i hk;rw[zo Yd]at h;rw[h];rfl
  ·rfl
theorem Kj{line:Λ}{act:eS}{n:List Int}{s I:aO}(h:kB line=some (act,n))(hk:mI s)(hg:jY s)(ha:act s n=.ok I):jY I:=by
 obtain⟨x,hx,rfl⟩:=HF h;exact KO x hx s n I hk hg (O4 h) ha
theorem Kt{q:Nat}{s:aO}{nv:Γ}{w:Λ}{ns:List Int}{act:eS}{ν:aF}{D:aC}(hn:Sl D RI 1 nv ns)(hact:L9 w ns act)(hr:∀x∈ns,0≤x∧x≤999)(hk:mI s)(hg:jY s)(h:qX tx D q s ν):lA prog 78 [qP q,.string w,nv] D ν (λD' v ν'=>∃(e:Int) (s':aO),v=qI e∧cA vS w act s ns e s'∧qX tx D' q s' ν') (λ_=>False):=by
 obtain⟨pv,cv,hv,lv,mv,bl,bc,yc,yq,ν1,ν2,ν3,ν4,ν5,ν6,ν7,ν8,rfl,hO⟩:=h;refine lA.reorder ((Lx q s pv cv hv lv mv bl bc yc yq nv w ns act ν1 ν2 D hn hact hr hk hg hO.pl hO.ct).frameB (ν8++(ν7++(ν6++(ν5++(ν4++(ν3))))))) Yj ?_ λ_ h=>h;rintro D' v _ hle ⟨_,⟨e,r,rfl,hP,pv',cv',μ1,μ2,rfl,I,O⟩,rfl⟩;exact⟨_,Yz,e,_,C,hP,pv',cv',hv,lv,mv,bl,bc,yc,yq,μ1,μ2,ν3,ν4,ν5,ν6,ν7,ν8,C,⟨I,O,hO.ht,hO.lev,hO.mks,hO.ln,hO.cn.up wQ.up hle,hO.ch,hO.cl⟩⟩
theorem aHE{q:Nat}{s:aO}{nv:Γ}{w:Λ}{ns:List Int}{act:eS}{ν:aF}{D:aC}(hn:Sl D RI 1 nv ns)(hact:L9 w ns act)(hr:∀x∈ns,0≤x∧x≤999)(hk:mI s)(hg:jY s)(h:qX tx D q s ν):lA prog 79 [.pointer (some ⟨q,4,none⟩),.string w,nv] D ν (λD' v ν'=>∃(e:Int) (s':aO),v=qI e∧cA w0 w act s ns e s'∧qX tx D' q s' ν') (λ_=>False):=by
 obtain⟨pv,cv,hv,lv,mv,bl,bc,yc,yq,ν1,ν2,ν3,ν4,ν5,ν6,ν7,ν8,rfl,hO⟩:=h;refine lA.reorder ((Dp q s pv cv hv lv mv bl bc yc yq nv w ns act ν3 ν4 ν5 D hn hact hr hk hg hO.ht hO.lev hO.mks).frameB (ν8++(ν7++(ν6++(ν2++(ν1)))))) Yj ?_ λ_ h=>h;rintro D' v _ hle ⟨_,⟨e,r,rfl,hP,hv',lv',mv',μ3,μ4,μ5,rfl,I,O,R⟩,rfl⟩;exact⟨_,Yx,e,_,C,hP,pv,cv,hv',lv',mv',bl,bc,yc,yq,ν1,ν2,μ3,μ4,μ5,ν6,ν7,ν8,C,⟨hO.pl,hO.ct,I,O,R,hO.ln,hO.cn.up wQ.up hle,hO.ch,hO.cl⟩⟩
theorem Gv{q:Nat}{s:aO}{nv:Γ}{w:Λ}{ns:List Int}{act:eS}{ν:aF}{D:aC}(hn:Sl D RI 1 nv ns)(hact:L9 w ns act)(hr:∀x∈ns,0≤x∧x≤999)(hk:mI s)(hg:jY s)(h:qX tx D q s ν):lA prog 80 [.pointer (some ⟨q,9,none⟩),.string w,nv] D ν (λD' v ν'=>∃(e:Int) (s':aO),v=qI e∧cA S2 w act s ns e s'∧qX tx D' q s' ν') (λ_=>False):=by
 obtain⟨pv,cv,hv,lv,mv,bl,bc,yc,yq,ν1,ν2,ν3,ν4,ν5,ν6,ν7,ν8,rfl,hO⟩:=h;refine lA.reorder ((Jr q s pv cv hv lv mv bl bc yc yq nv w ns act ν6 D hn hact hr hk hg hO.ln).frameB (ν8++(ν7++(ν5++(ν4++(ν3++(ν2++(ν1)))))))) Yj ?_ λ_ h=>h;rintro D' v _ hle ⟨_,⟨e,r,rfl,hP,bl',μ6,rfl,I,hcq⟩,rfl⟩;exact⟨_,kg,e,_,C,hP,pv,cv,hv,lv,mv,bl',bc,yc,yq,ν1,ν2,ν3,ν4,ν5,μ6,ν7,ν8,C,⟨hO.pl,hO.ct,hO.ht,hO.lev,hO.mks,I,by show Sl D' wQ 3 bc r.counts;rw[hcq];exact hO.cn.up wQ.up hle,hO.ch,hO.cl⟩⟩
theorem Ic{q:Nat}{s:aO}{nv:Γ}{w:Λ}{ns:List Int}{act:eS}{ν:aF}{D:aC}(hn:Sl D RI 1 nv ns)(hact:L9 w ns act)(I:w∉vS)(O:w∉w0)(R:w∉S2)(hr:∀x∈ns,0≤x∧x≤999)(hk:mI s)(hg:jY s)(h:qX tx D q s ν):lA prog 81 [.pointer (some ⟨q,14,none⟩),.string w,nv] D ν (λD' v ν'=>∃(e:Int) (s':aO),v=qI e∧cA [w] w act s ns e s'∧qX tx D' q s' ν') (λ_=>False):=by
 obtain⟨pv,cv,hv,lv,mv,bl,bc,yc,yq,ν1,ν2,ν3,ν4,ν5,ν6,ν7,ν8,rfl,hO⟩:=h;refine lA.reorder ((Ie q s pv cv hv lv mv bl bc yc yq nv w ns act ν7 ν8 D hn hact I O R hr hk hg hO.ch hO.cl).frameB (ν6++(ν5++(ν4++(ν3++(ν2++(ν1))))))) Yj ?_ λ_ h=>h;rintro D' v _ hle ⟨_,⟨e,r,rfl,hP,yc',yq',μ7,μ8,rfl,U,V⟩,rfl⟩;exact⟨_,ki,e,_,C,hP,pv,cv,hv,lv,mv,bl,bc,yc',yq',ν1,ν2,ν3,ν4,ν5,ν6,μ7,μ8,C,⟨hO.pl,hO.ct,hO.ht,hO.lev,hO.mks,hO.ln,hO.cn.up wQ.up hle,U,V⟩⟩
theorem Xbl(sv:Γ)(s:aO)(line:Λ)(D:aC)(hs:iE D sv s)(hk:mI s)(hg:jY s)(hl:line.size≤1000):Fn prog 28 #[sv,.string line] D (λD' v=>∃v1,v=.tuple #[v1,qI (F9 s line).2]∧iE D' v1 (F9 s line).1):=by
 have hs0:=hs;obtain⟨pv,cv,hv,lv,mv,bl,bc,yc,yq,rfl,hL⟩:=hs;unfold dY;refine Zx 56 func28 C λh0=>aA<|Zac C λq1 E1 hE1 Z=>Zag C R5 C λO=>Zf C<|aJ<|Za C<|Zz C (λD1 hD1=>ER line hl _) λv1 D1 hD1 hp1=>?_;obtain⟨nv,nb,rfl,hm⟩:=hp1;refine Za C<|Zar C<|Zar C<|Zf C<|Zf C<|bD<|Za C<|Zav C<|aE<|Zai C (λhc1=>?_) λhc1=>?_
 ·have hnone:=OI xe hm;refine aA<|Zv C nF C Z hG<|Zab C hG ζ (gO hL)<|Wi ?_;exact Zp [_,_] C ⟨⟨_,_,_,C,zu,Or.inr ⟨nF,hG,C⟩⟩,C,zy⟩ λD' hD=>X2 (TR (MG hnone)) ⟨pv,cv,hv,lv,mv,bl,bc,yc,yq,C,hL.up (hD _ Yf)⟩
 ·obtain⟨ns,hns,hnS⟩:=Az hm xe;obtain⟨p0,ps,act,hcut,hfw,hpa⟩:=Nr hns;have hr:=O4 hpa;have hp0:(eH line)[0]?= some p0:=by rw[hcut];rfl
  have hcl:=V6 line;refine aP<|aA<|Zv C nF C Z hG<|gQ C C C (λD20 hI=>Kn _ s _ (hs0.up (hI _ Yf)) hk.small) C zy λv20 D21 νC hD21 hw=>?_;obtain⟨cs,νD,νz,rfl,rfl,hJ,hcc,hown⟩:=hw;refine Zag C R5 C λq3=>fG C C C C hG hJ xa .head hcc zy<|bX<|NG (((q3,qC cs 52)::νD)++(νz++[(O,_)])) Wai ?_;have hO:=hown q3;generalize (q3,Obj.cells cs.toArray 52 (0,0))::νD=νW at hO ⊢
  refine Xbt (List.Sublist.append zp (List.sublist_append_right _ _))<|aM<|Za C<|Zz C (λD2 hD2=>DY line hl _) λv2 D2 hD2 hp2=>?_;have hwd:=hp2;refine Zy C U22 lT C hwd C hp0 λb1 o1 cs1 hr1 hcl1 hA1=>?_;obtain rfl:cs1=[.string _]:=hr1;refine Zh 0 C yL C hA1 C<|Zf C<|aJ<|Zj C pN C<|Za C<|Za C<|Zn [] [(O,_)] νW C (AB hO) (λD30 R=>Kt (hnS.up RI.up (R _ Yf)) hfw hr hk hg (hO.up (R _ Yf))) (λ_ _ _ h=>h.elim) λv30 D31 hK R hN=>?_;obtain⟨e,I,rfl,hP,hO⟩:=hN;refine Zf C<|aE<|RQ (γ:=Int×aO×aF×aC) (λg=>qX tx g.2.2.2 q3 g.2.1 g.2.2.1∧cA (vS++w0) p0 act s ns g.1 g.2.1) (λg=>[(10,qI g.1),(9,.string p0),(6,nv),(8,qP q3),(4,qP O),(2,qP q1)]) (λg=>g.2.2.1++[(O,qC [qN,qN,qI 0,qI 0,qI 0,qN,qI 0,qN,qN,qI 0,qI 0,qI 0,qN,qN,qN,qI 0,qN] 52)]) (λg=>[g.2.2.2,D1,E1,D]) ?_ ?_
  ·refine aA<|Za C<|Zal C<|aE<|Zae C (λhc2=>?_) (λhc2=>?_)
   ·obtain⟨he2,hs2,hn2⟩:=hP.neg hc2;rw[hs2]at hO;refine aM<|Zj C kM C<|Za C<|Za C<|Zn [] [(O,_)] hK C (AB hO) (λD40 U=>aHE (hnS.up RI.up (U _ Yf)) hfw hr hk hg (hO.up (U _ Yf))) (λ_ _ _ h=>h.elim) λv40 D41 ν40 U hR=>?_;obtain⟨e,I,rfl,hP,hO⟩:=hR;refine Zf C<|Zap<|yD ?_;exact λa w hh=>⟨(e,I,ν40,D41),⟨hO,hP.add hn2⟩,hh.weak cE zp Yr⟩
   ·refine bE<|yD ?_;exact λa w hh=>⟨(e,I,hK,D31),⟨hO,hP.keep hc2⟩,hh.weak cE zp Yr⟩
  rintro⟨e,I,ν,Dn⟩ ⟨hO,hP⟩;dsimp only at hO hP ⊢
  refine RQ (γ:=Int×aO×aF×aC) (λg=>qX tx g.2.2.2 q3 g.2.1 g.2.2.1∧cA ((vS++w0)++S2) p0 act s ns g.1 g.2.1) (λg=>[(10,qI g.1),(9,.string p0),(6,nv),(8,qP q3),(4,qP O),(2,qP q1)]) (λg=>g.2.2.1++[(O,qC [qN,qN,qI 0,qI 0,qI 0,qN,qI 0,qN,qN,qI 0,qI 0,qI 0,qN,qN,qN,qI 0,qN] 52)]) (λg=>[g.2.2.2,D1,E1,D]) ?_ ?_
  ·refine aA<|Za C<|Zal C<|aE<|Zae C (λhc3=>?_) (λhc3=>?_)
   ·obtain⟨he3,hs3,hn3⟩:=hP.neg hc3;rw[hs3]at hO;refine aM<|Zj C sF C<|Za C<|Za C<|Zn [] [(O,_)] ν C (AB hO) (λD50 V=>Gv (hnS.up RI.up (V _ Yf)) hfw hr hk hg (hO.up (V _ Yf))) (λ_ _ _ h=>h.elim) λv50 D51 ν50 V hS=>?_;obtain⟨e,I,rfl,hP,hO⟩:=hS;refine Zf C<|Zap<|yD ?_;exact λa w hh=>⟨(e,I,ν50,D51),⟨hO,hP.add hn3⟩,hh.weak cE zp Yr⟩
   ·refine bE<|yD ?_;exact λa w hh=>⟨(e,I,ν,Dn),⟨hO,hP.keep hc3⟩,hh.weak cE zp Yr⟩
  rintro⟨e,I,ν,Dn⟩ ⟨hO,hP⟩;dsimp only at hO hP ⊢
  refine RQ (γ:=Int×aO×aF×aC) (λg=>qX tx g.2.2.2 q3 g.2.1 g.2.2.1∧cA [p0] p0 act s ns g.1 g.2.1) (λg=>[(10,qI g.1),(9,.string p0),(6,nv),(8,qP q3),(4,qP O),(2,qP q1)]) (λg=>g.2.2.1++[(O,qC [qN,qN,qI 0,qI 0,qI 0,qN,qI 0,qN,qN,qI 0,qI 0,qI 0,qN,qN,qN,qI 0,qN] 52)]) (λg=>[g.2.2.2,D1,E1,D]) ?_ ?_
  ·refine aA<|Za C<|Zal C<|aE<|Zae C (λhc4=>?_) (λhc4=>?_)
   ·obtain⟨he4,hs4,hB⟩:=hP.neg hc4;rw[hs4]at hO;simp only[zd,wn]at hB;refine aM<|Zj C lZ C<|Za C<|Za C<|Zn [] [(O,_)] ν C (AB hO) (λD60 Y=>Ic (hnS.up RI.up (Y _ Yf)) hfw hB.1.1 hB.1.2 hB.2 hr hk hg (hO.up (Y _ Yf))) (λ_ _ _ h=>h.elim) λv60 D61 ν60 Y hX=>?_;obtain⟨e,I,rfl,hP,hO⟩:=hX;refine Zf C<|Zap<|yD ?_;exact λa w hh=>⟨(e,I,ν60,D61),⟨hO,hP⟩,hh.weak cE zp Yr⟩
   ·refine bE<|yD ?_;exact λa w hh=>⟨(e,I,ν,Dn),⟨hO,hP.keep hc4⟩,hh.weak cE zp Yr⟩
  rintro⟨e,I,ν,Dn⟩ ⟨hO,hP⟩;dsimp only at hO hP ⊢
  refine bL<|Za C<|Zas C<|aE<|Zae C (λhE=>?_) λhE=>?_
  ·have hact:=hP.zero hE;have hY:=KB hpa hk hact;have hg2:=Kj hpa hk hg hact;refine EG (w9:=tx) (B:=[(_,_)]) hO C Yf hY.small λD9 rA rB hv2 lv2 mv2 bl2 bc2 yc2 yq2 hD9 hF=>?_;unfold dY;refine aM<|Zah C nF C zu hG<|Zd C (λD3 hD3=>Mv _ I _ ⟨rA,rB,hv2,lv2,mv2,bl2,bc2,yc2,yq2,C,hF.up (hD3 _ Yf)⟩ hY hg2)<|Zf C<|bD<|Za C<|Za0 C<|aE<|Zae C (λhH=>?_) (λhH=>?_)
   ·refine aA<|Zv C nF C Z hG<|Za C<|Zab C hG (.tail ζ) (gO hL)<|Wi ?_;exact Zp [_,_] C ⟨⟨_,_,_,C,zi,Or.inr ⟨nF,hG,C⟩⟩,C,zy⟩ λD' hD=>X2 (Rr hpa hact hH) ⟨pv,cv,hv,lv,mv,bl,bc,yc,yq,C,hL.up (hD _ Yf)⟩
   ·refine aP<|aA<|Zah C nF C zu hG<|Zab C hG (.tail ζ) (gO hF)<|Wd ?_;exact Zp [_,_] C ⟨⟨_,_,_,C,zi,Or.inr ⟨nF,hG,C⟩⟩,C,zy⟩ λD' hD=>X2 (Rz hpa hact (qk.1 hH)) ⟨rA,rB,hv2,lv2,mv2,bl2,bc2,yc2,yq2,C,hF.up (hD _ Yf)⟩
  ·refine aP<|bL<|Za C<|Za0 C<|aE<|Zae C (λhc7=>?_) (λhc7=>?_)
   ·refine aA<|Zv C nF C Z hG<|Za C<|Zab C hG (.app ζ) (gO hL)<|Wi ?_;exact Zp [_,_] C ⟨⟨_,_,_,C,(LT _ zu),Or.inr ⟨nF,hG,C⟩⟩,C,zy⟩ λD' hD=>X2 (Rm hpa (hP.errs hE)) ⟨pv,cv,hv,lv,mv,bl,bc,yc,yq,C,hL.up (hD _ Yf)⟩
   ·exact(hc7 hE).elim
theorem aHH(lv:Γ)(ls:List Λ)(D:aC)(hS:Sl D RS 1 lv ls)(hn:ls.length≤1000)(hsz:∀l∈ls,l.size≤1000):Fn prog 12 #[lv] D (λD' v=>∃R v2,v=.tuple #[R,v2]∧iE D' R (nJ ls).1∧Sl D' RI 1 v2 (nJ ls).2):=by
 refine Zx 30 func12 C λh0=>aA<|Zag C R5 C λq1=>Zf C<|aJ<|Zz C (λD1 Y=>Gw _) λR D1 Y Z=>?_;obtain⟨pv,cv,hv,O,mv,bl,bc,yc,yq,rfl,hL⟩:=Z;unfold dY;refine Zag C R5 C (λq2=>Zab C hG ζ (gO hL)<|aJ<|Zf C<|bD<|Zf C<|aE<|Za4<|fE (γ:=Pc) (λg=>ls.length-g.k) (λg=>g.k≤ls.length∧nJ (ls.take g.k)=(g.s,g.es)∧g.es.length=g.k∧bM 3 1 g.v g.k (ints g.es) g.ν∧kP g.Dn g.s g.pv g.cv g.hv g.lv g.mv g.bl g.bc g.yc g.yq∧(mI g.s∧jY g.s)) (λg=>[(6,qI (g.k:Int)),(5,g.v)]) [(4,_),(3,_),(2,_),(0,_)] (λg=>g.ν++[(q2,qC (dY g.s g.pv g.cv g.hv g.lv g.mv g.bl g.bc g.yc g.yq) 52),(q1,qC [qN,qN,qI 0,qI 0,qI 0,qN,qI 0,qN,qN,qI 0,qI 0,qI 0,qN,qN,qN,qI 0,qN] 52)]) (λg=>[g.Dn,D]) ⟨0,G5,[],pv,cv,hv,O,mv,bl,bc,yc,yq,qN,[],D1⟩ ⟨Yf,by simp[nJ],C,qz,hL,G2,HS⟩ ⟨Ya,Ya,zy⟩ cE zp (ij) ?_);rintro⟨k,s,es,pv,cv,hv,lv,mv,bl,bc,yc,yq,v,ν,Dn⟩ ⟨h1,hp,h3,ha,hL,hk⟩;simp only at h1 hp h3 ha hL hk;refine bL<|Za C<|Za C<|Zaj C U22 C hS C<|Zal C<|aE<|Zae C (λhc1=>?_) λhc1=>?_
 ·simp only at hc1;have hlt:k<ls.length:=Yd
  obtain⟨x,hx⟩:=cF ls k;refine aP<|Za6<|Za4<|aA<|Zf C<|bX<|bK [] 4 11 30<|Zah C nF C (LT _ zu) hG<|Za C<|Za C<|Zy C U22 lT C (hS.up RS.up (Le.refl _)) C hx λb1 o1 hB hE hcl1 hF=>?_;obtain rfl:hB=[.string _]:=hE;refine Zh 0 C yL C hF C<|Zz C (λD2 U=>Xbl _ s x _ ⟨pv,cv,hv,lv,mv,bl,bc,yc,yq,C,hL.up (U _ Yf)⟩ hk.1 hk.2 (hsz x (GE hx))) λv2 D2 U hH=>?_;obtain⟨w1,rfl,hI,hJ,hK,O,hN,hO,hP,hR,hX,rfl,V⟩:=hH;have hY:=And.intro (QR hk.1 x) (Sz hk.1 hk.2 x);unfold dY;refine Za C<|Zar C<|Zar C<|Zab C hG (.app ζ) (gO V)<|Zf C<|aE<|aM<|Za C<|Za C<|Zu C U35 aI cN C (.cons C C .nil) λb901 D901 rA I=>?_;have rB:=Sl.ofInts (l:=[_]) (n:=1) (cap:=1) I C Yd Yd;refine aT (A:=[]) (B:=[(_,_),(_,_)]) C U35 C C aI cN C jV C C C ha (kX.lit I) Yf C (by simp[ints,h3]) Ym Yd (zq C) C zy λR ν1 ha1=>?_;have ha2:bM 3 1 R (k+1) (ints (es++[(F9 s x).2])) ν1:=by rw[←eL];exact ha1
  refine Wp ?_;exact aK 25 ⟨k+1,(F9 s x).1,es++[(F9 s x).2],hI,hJ,hK,O,hN,hO,hP,hR,hX,R,ν1,D2⟩ ⟨Yl,by simp only;rw[HV hx,hp],by simp[h3],ha2,V,hY⟩ Yl ⟨Ya,Ya,zy⟩ C C zp (ij)
 ·obtain rfl:k=ls.length:=by simp only at hc1;omega
  rw[ym]at hp;refine Za9<|Za5<|Za5<|Zba<|Za2<|aA<|Zah C nF C (LT _ zu) hG<|Za C<|Zab C hG (.app (.tail ζ)) (gO hL)<|Zf C<|aG<|dE (A:=[]) (B:=[(_,_),(_,_)]) ha C λD9 hD9 hF9=>?_;have hes:=hF9.ints (l:=es) h3 Yd;exact Zp [_,_] C ⟨⟨_,_,_,C,zb _ zu,zt ⟨nF,hG,C⟩⟩,C,zy⟩ λD hD=>⟨_,_,C,a1,by rw[hp];exact hes.up RI.up (hD _ Yf)⟩
end L12
namespace L3
open L1
open C3
theorem XK{x:aU}{t:List bQ}(hlen:t.length=x.lines.length)(hr:∀(i:Nat) l z,t[i]?= some l→x.lines[i]?= some z→l∈cJ x.chairs z)(hc:∀(i:Nat) l,t[i]?= some l→kN (zO x t i) l=true)(hk:∀i:Nat,i≤t.length→fP x (zO x t i) i=true):
  ∀(j i:Nat),i+j=t.length→(t.drop i,(List.range (j+1)).map λm=>zO x t (i+m))∈uI x (x.lines.drop i) i (zO x t i)
 |0,i,h=>by
  rw[wl Yd,wl Yd];unfold uI;rw[zo (hk i Yd)]
  simp
 |j+1,i,h=>by
  obtain⟨l,hl⟩:=cF t i;obtain⟨z,hz⟩:=cF x.lines i;have I:t.drop i=l::t.drop (i+1):=by rw[xc Yd];congr 1;exact yi ((yz Yd).symm.trans hl)
  have O:x.lines.drop i=z::x.lines.drop (i+1):=by rw[xc Yd];congr 1;exact yi ((yz Yd).symm.trans hz)
  have ih:=XK hlen hr hc hk j (i+1) Yd;rw[←WE hl]at ih;rw[I,O];unfold uI;rw[zo (hk i Yd)]
  refine vr.2 ⟨l,hr i l z hl hz,?_⟩;rw[zo (hc i l hl)];refine n5.2 ⟨_,ih,?_⟩;have R:(List.range (j+1+1)).map (λm=>zO x t (i+m))=zO x t i::(List.range (j+1)).map λm=>zO x t (i+1+m):=by
   rw[List.range_succ_eq_map,yl,uf,tl];congr 1;exact qn λm _=>by simp only[Function.comp];rw[show i+(m+1)=i+1+m by omega]
  rw[R]
theorem Xap{α:Type}{R:Rd α}{D:aC}{sz i:Nat}{v:Γ}{xs:List α}{x:α}(h:Sl D R sz v xs)(hx:xs[i]?= some x):∃b o c cs,v=.slice (some ⟨b,o,none⟩) xs.length c∧R D x cs∧cs.length=sz∧At D b (o+i*sz) cs:=by
 obtain⟨a,cap,rfl,h1,h2,h3⟩:=h;rcases h3 with rfl|⟨b,o,rfl,h3⟩
 ·simp at hx
 ·obtain⟨cs,hr,hc,hA⟩:=h3 _ _ hx;exact⟨b,o,cap,cs,C,hr,hc,hA⟩
theorem Xan{b:Nat}{ν B:aF}(h:b∉(ν++B).ks){q:Nat×Obj}(hq:q∈ν):q.1∉[b]:=λhm=>h (n5.2 ⟨q,yw _ hq,ob⟩)
def aYU:Rd (List bQ):=λD l cs=>∃v,cs=[v]∧Sl D jQ 3 v l
theorem aYU.up:aYU.Up:=λhl _ _ ⟨v,hc,hs⟩=>⟨v,hc,hs.up jQ.up hl⟩
def tt(D:aC)(vs:List Γ)(ts:List (List bQ)):Prop:=vs.length=ts.length∧∀(i:Nat) (v:Γ) (t:List bQ),vs[i]?= some v→ts[i]?= some t→Sl D jQ 3 v t
section
variable{D D':aC}{vs:List Γ}{ts:List (List bQ)}{v:Γ}{t:List bQ}
theorem tt.nil:tt D [] []:=⟨C,λi v t h _=>vu⟩
theorem tt.len(h:tt D vs ts):vs.length=ts.length:=h.1
theorem tt.up(h:tt D vs ts)(hl:Le D D'):tt D' vs ts:=⟨h.1,λi v t hv ht=>(h.2 i v t hv ht).up jQ.up hl⟩
theorem tt.snoc(h:tt D vs ts)(hv:Sl D jQ 3 v t):tt D (vs++[v]) (ts++[t]):=by
 refine⟨by simp[h.1],λi u s hu hs=>?_⟩;by_cases hi:i<vs.length
 ·rw[uo hi]at hu;rw[uo (by rw[←h.1];exact hi)]at hs
  exact h.2 i u s hu hs
 ·have h1:=(yx.1 hu).1;simp only[zf,ve]at h1;obtain rfl:i=vs.length:=Yd
  rw[rk (zk _)]at hu;rw[rk (by rw[h.1];exact zk _),h.1]at hs
  simp at hu hs;subst hu hs;exact hv
theorem _root_.Go.Fs.lB.llists(hF:lB D' v vs.length vs)(h:tt D vs ts)(hl:Le D D')(hb:ts.length≤9223372036854775807):Sl D' aYU 1 v ts:=
 hF.sl h.1.symm (by rw[h.1];exact hb) λi t hi=>by
  have hlt:=(yx.1 hi).1;have hv:vs[i]?= some (vs[i]'(by rw[h.1];exact hlt)):=yz _
  refine⟨_,⟨_,C,(h.2 i _ t hv hi).up jQ.up hl⟩,C,?_⟩;rw[xp,xc (by rw[h.1];exact hlt)];rfl
end
def LW(n:Nat)(l:bQ):Nat:=(zC n l 2).length
def tT(n:Nat):List bQ→Nat→List bQ
 | [],_=>[]
 |l::ls,k=>((zC n l 2)[k%(zC n l 2).length]?).toList++tT n ls (k / (zC n l 2).length)
theorem H_{n:Nat}{ls:List bQ}{k p:Nat}{x:bQ}(h:ls[k]?= some x):tT n (ls.drop k) p=((zC n x 2)[p%(zC n x 2).length]?).toList++tT n (ls.drop (k+1)) (p / (zC n x 2).length):=by
 obtain⟨hk,rfl⟩:=yx.1 h;rw[xc hk];rfl
theorem HM(n:Nat):∀(ls:List bQ) (k:Nat),(tT n ls k).length≤ls.length
 | [],_=>zk _
 |l::ls,k=>by
  have:=HM n ls (k / (zC n l 2).length);rw[tT,zf,zh];have:(((zC n l 2)[k%(zC n l 2).length]?).toList).length≤1:=by cases(zC n l 2)[k%(zC n l 2).length]? <;>simp
  omega
def nP(n:Nat)(ls:List bQ)(k:Nat):List (List bQ):=((List.range k).map (tT n ls)).filter λt=>pP t t.length
def dB(n:Nat)(ls:List bQ):List (List bQ):=nP n ls (kR n ls).toNat
section
variable{n k:Nat}{ls:List bQ}
theorem Oj(n:Nat)(ls:List bQ)(k:Nat):(nP n ls k).length≤k:=by
 have:=xm (λt=>pP t t.length) ((List.range k).map (tT n ls));rw[yh,vz]at this;exact this
theorem ZS(h:pP (tT n ls k) (tT n ls k).length=true):nP n ls (k+1)=nP n ls k++[tT n ls k]:=by
 unfold nP;rw[yb,ze,xu,tn,wj,zo h];rfl
theorem HL(h:pP (tT n ls k) (tT n ls k).length=false):nP n ls (k+1)=nP n ls k:=by
 unfold nP;rw[yb,ze,xu,tn,wj,zv u_];simp
end
theorem GK(bv:Γ)(b:aU)(n m:Nat)(D:aC)(hb:eT D bv b)(hn:b.chairs=(n:Int))(h4:n≤4)(hm:m≤100000)(h1:∀l∈b.lines,1≤LW n l)(h8:b.lines.length≤100):Fn prog 35 #[bv,qI (m:Int)] D (λD' v=>Sl D' jQ 3 v (tT n b.lines m)):=by
 have V:=hb;obtain⟨lv,cv,rfl,hl,hc⟩:=hb;have hll:=hl.len;refine Zx 37 func35 C λh0=>aA<|Zac C λq1 E1 hP I=>Zf C<|aJ<|Zf C<|bD<|Zf C<|aE<|Za4<|Zc (Nat×List bQ×Nat×Γ×aF) (λg=>b.lines.length-g.1) (λg=>g.1≤b.lines.length∧g.2.1.length=g.1∧g.2.2.1≤100000∧tT n b.lines m=g.2.1++tT n (b.lines.drop g.1) g.2.2.1∧bM 184 3 g.2.2.2.1 g.1 (uC g.2.1) g.2.2.2.2) (λg=>[(6,qI (g.1:Int)),(5,g.2.2.2.1),(1,qI (g.2.2.1:Int))]) [(4,_),(2,_)] (λg=>g.2.2.2.2++[]) (λg=>[E1,D]) (0,[],m,qN,[]) ⟨Yf,C,hm,C,bM.nil⟩ ⟨Ya,Ya,Ya,zy⟩ zp ?_;rintro⟨k,out,p,v,ν⟩ ⟨h0x,h2,h3,h5,ha⟩;simp only at h0x h2 h3 h5 ha;refine bL<|Za C<|Zj C eK C<|Zh 3 C kG C I C<|Zaj C U43 C hl C<|Zal C<|aE<|Zae C (λhc1=>?_) λhc1=>?_
 ·simp only at hc1;have hk:k<b.lines.length:=Yd
  obtain⟨x,hx⟩:=cF b.lines k;have hsz:=h1 x (GE hx);unfold LW at hsz;have Y:=FT (l:=x) (k:=2) h4;refine aP<|Za6<|Za4<|Za6<|bK [] 4 8 62<|Zv C mE C I jX<|Zj C eK C<|Zh 3 C kG C I C<|Za C<|Zy C U43 dR C hl C hx λb1 o1 Z hB hN hE=>?_;obtain rfl:Z=[qI _,qI _,qI _]:=hB;refine Zv C W9 C hE dR<|Zz C (λD1 R=>o9 _ b x n _ (V.up (R _ Yf)) hn h4) λv1 D1 R hH=>?_;have hr:=hH;refine Zf C<|aE ?_;obtain⟨u,hu⟩:∃u,zC n x 2=u:=⟨_,C⟩
  rw[hu]at hr hsz Y;obtain⟨i,hi⟩:∃i,p%u.length=i:=⟨_,C⟩
  obtain⟨d,hd⟩:∃d,p / u.length=d:=⟨_,C⟩
  have hil:i<u.length:=by rw[←hi];exact Nat.mod_lt _ Yd
  have hdl:d≤p:=by rw[←hd];exact Nat.div_le_self _ _
  have hmd:(p:Int)%(u.length:Int)=(i:Int):=by rw[←hi];rfl
  have hdv:(p:Int) / (u.length:Int)=(d:Int):=by rw[←hd];rfl
  obtain⟨y,hy⟩:=cF u i;have U:=hr;obtain⟨bt,ot,ct,cs0,rfl,hI,_,hA0⟩:=Xap hr hy;obtain rfl:cs0=_:=hI;refine fK hA0 Yf λhbt=>?_;have hbo:bt∉dI.mk [bt]:=dI.out Yf;refine fS (dI.mk [bt]) 1 [0,1,2,3,4,5,6,7,10,11,12,13,8,9,14,15] [false,true,true,true,true,true,true,true,true,true,true,true,true,true,true,false] [(false,0),(true,1),(true,2),(true,3),(true,4),(true,5),(true,6),(true,7),(true,10),(true,11),(true,12),(true,13),(true,8),(true,9),(true,14),(false,15)] aV (λ_ _ _ h=>eA (P:=prog) (fn:=f35) _ _ _ h) Yg C<|Za C<|Za C<|Za C<|Za C<|Zaj C U43 C U C<|uR C C C Yd Yd (by rw[hmd];simp only[vE];omega) C zy ?_
  rw[hmd];refine eV C U43 dR C C Yd Yd C zy<|cQ C W9 C hA0 Yf dR hbo C zy<|Za C<|Za C<|Zaj C U43 C U C<|HX C C C Yd Yd (by rw[hdv];simp only[vE];omega) C zy ?_
  rw[hdv];refine Zu C U43 dR lL C (.cons C Yg .nil) (λhO D901 hJ O=>aT (A:=[]) (B:=[]) C U43 C C dR lL C V8 C C C ha (kX.lit O) Yf C (by rw[S3,h2]) Ym Yd (zt λq hq=>dI.in_ (Xan hbt hq)) C zy λv1 ν1 ha1=>?_);have hK:bM 184 3 v1 (k+1) (uC (out++[y])) ν1:=by rw[PM];exact ha1
  refine Zf C<|Wp ?_;exact aK 35 (k+1,out++[y],d,v1,ν1) ⟨Yl,by simp[h2],Yl,by simp only;rw[h5,H_ hx,hu,hi,hd,hy,yy];rfl,by simpa [h2]using hK⟩ Yl ⟨Ya,Ya,Ya,zy⟩ C C zp λD h=>⟨D,zb _ (zb _ (h)),Le.refl D⟩
 ·obtain rfl:k=b.lines.length:=by simp only at hc1;omega
  rw[oy]at h5;refine Za9<|Za5<|Za5<|Zba<|Za2<|aA<|Za C<|Zf C<|aG<|dE (A:=[]) (B:=[]) ha C λD2 hR hF=>?_;exact aD C λD' hD=>by rw[h5,tT,yr];exact(hF.lins h2 Yd).up jQ.up (hD _ Yf)
theorem EP(bv tv:Γ)(b:aU)(D:aC)(hb:eT D bv b)(I:b.counts=[]):Fn prog 37 #[bv,tv] D (λ_ v=>v=.bool true):=by
 obtain⟨lv,cv,rfl,hl,hc⟩:=hb;have R:b.counts.length=0:=by rw[I];rfl
 refine Zx 32 func37 C λh0=>aA<|Zac C λV E1 U O=>Zf C<|bD<|Zf C<|aE<|Za4<|cW (γ:=Unit) (λg=>0) (λg=>True) (λg=>[(5,qI 0)]) [(4,_),(2,_),(1,_)] (λg=>[E1,D]) () zy ⟨Ya,zy⟩ cE (aN) ?_;rintro⟨⟩ _h;refine bL<|Za C<|Zj C HQ C<|Zh 4 C Ql C O C<|Zaj C U44 C hc C<|Zal C<|aE<|Zae C (λhc1=>?_) λhc1=>?_
 ·omega
 ·refine Wk ?_;exact aD C λD hD=>C
theorem K5(bv:Γ)(b:aU)(n:Nat)(D:aC)(hb:eT D bv b)(hn:b.chairs=(n:Int))(h4:n≤4)(Y:b.counts=[])(h1:∀l∈b.lines,1≤LW n l)(h8:b.lines.length≤100):Fn prog 15 #[bv] D (λD' v=>Sl D' aYU 1 v (dB n b.lines)):=by
 have R:=hb;obtain⟨lv,cv,rfl,hl,hc⟩:=hb;have hll:=hl.len;have hmr:=JJ n b.lines;obtain⟨N,hN⟩:∃N:Nat,kR n b.lines=(N:Int):=⟨(kR n b.lines).toNat,Yd⟩
 refine Zx 27 func15 C λh0=>aA<|Zac C λq1 E1 hK U=>Zf C<|aJ<|Zf C<|bD<|Zf C<|aE<|Za4<|fE (γ:=Nat×Γ×List Γ×aF×aC) (λg=>N-g.1) (λg=>g.1≤N∧bM 43 1 g.2.1 g.2.2.1.length g.2.2.1 g.2.2.2.1∧tt g.2.2.2.2 g.2.2.1 (nP n b.lines g.1)) (λg=>[(4,qI (g.1:Int)),(3,g.2.1)]) [(2,_),(1,_)] (λg=>g.2.2.2.1++[]) (λg=>[g.2.2.2.2,E1,D]) (0,qN,[],[],D) ⟨Yf,mn,tt.nil⟩ ⟨Ya,Ya,zy⟩ cE zp (ew) ?_;rintro⟨k,v,vs,ν,Dn⟩ ⟨h1x,ha,hla⟩;simp only at h1x ha hla;have hvl:=hla.len;have hkl:=Oj n b.lines k;refine bL<|Za C<|Zv C mE C U jX<|Zd C (λD1 Z=>wY _ b n _ (R.up (Z _ Yf)) hn h4)<|Zal C<|aE<|Zae C (λhc1=>?_) λhc1=>?_
 ·have hk:k<N:=by simp only at hc1;omega
  refine aP<|Za6<|Za4<|aA<|Zv C mE C U jX<|Za C<|Zz C (λD2 O=>GK _ b n k _ (R.up (O _ Yf)) hn h4 Yd h1 h8) λv2 D2 O hB=>?_;have hw:=hB;have hwl:=HM n b.lines k;refine Zf C<|aJ<|Za C<|Zd C (λD3 hE=>PN _ (tT n b.lines k) _ (hw.up jQ.up (hE _ Yf)) Yd)<|Za C ?_;refine' bU 4 (s:=17) (p:=21) C (λhH=>?_) (λhH=>?_) ?_;rotate_left
  ·refine cQ C mE C U Yc jX n4 C ⟨_,C,C⟩<|Zb C<|Ze C (λD4 hI=>EP _ _ b _ (R.up (hI _ Yf)) Y)<|Zam C ?_;exact aQ 3
  ·refine Wb ?_;exact aQ 3
  refine aE<|Zai C (λhc2=>?_) λhc2=>?_
  ·refine aM<|Za C<|Za C<|Zu C U59 wJ Rw C (.cons hw.cells1 C .nil) (λhJ D901 I V=>aT (A:=[]) (B:=_) C U59 C C wJ Rw C Xaj C C C ha (kX.lit V) Yf C Yf (by simpa using hw.cell1) Yd (zq C) C zy λv1 ν1 ha1=>Zf C<|l3 ?_);refine sg ?_;exact aK 22 (k+1,v1,vs++[v2],ν1,D901) ⟨Yl,km,by simp only;rw[ZS wm];exact(hla.up (I Dn Yf)).snoc (hw.up jQ.up (I _ Yf))⟩ Yl ⟨Ya,Ya,zy⟩ C C zp (Xw)
  ·refine xz ?_;exact aK 17 (k+1,v,vs,ν,Dn) ⟨Yl,ha,by simp only;rw[HL wm];exact hla⟩ Yl ⟨Ya,Ya,zy⟩ C C zp (Yp)
 ·obtain rfl:k=N:=by simp only at hc1;omega
  refine Za9<|Za5<|Za5<|Zba<|Za2<|aA<|Za C<|Zf C<|aG<|dE (A:=[]) (B:=[]) ha C λD2 O hF=>?_;exact aD C λD' hD=>by unfold dB;rw[hN];exact(hF.llists hla (O _ Yf) Yd).up aYU.up (hD _ Yf)
theorem X3(lo hi n:Int)(D:aC):Fn prog 39 #[.agg #[qI lo,qI hi],qI n] D (λ_ v=>v=.agg #[qI (min lo n),qI (max hi n)]):=by
 refine Zx 14 func39 C λh0=>aA<|Zac C λR E1 O I=>Zag C zB C λU=>aJ<|Zj C HE C<|Zh 0 C aH C I C<|Za C<|zL C C C C zy<|Zj C LH C<|Zh 1 C aH C I C<|Za C ?_;refine mL C C C C zy<|Zw [qI (min lo n),qI (max hi n)] C Rk zB C<|Zaa C kJ ζ<|aG ?_;exact Zp [_] C ⟨⟨_,_,_,C,zu,Or.inr ⟨R9,io,C⟩⟩,zy⟩ λD hD=>C
theorem Y3(D:aC):Fn prog 38 #[] D (λ_ v=>v=.agg #[qI 1099511627776,qI (-1099511627776)]):=by
 refine Zx 2 func38 C λh0=>aA<|Zag C zB C λI=>aJ<|Zw [qI 1099511627776,qI (-1099511627776)] C Rk zB C<|Zaa C kJ ζ<|aG ?_;exact Zp [_] C ⟨⟨_,_,_,C,zu,Or.inr ⟨R9,io,C⟩⟩,zy⟩ λD hD=>C
theorem aEB(bv sv:Γ)(b:aU)(ts:List (List bQ))(m:Nat)(D:aC)(hb:eT D bv b)(hS:Sl D aYU 1 sv ts)(hlen:∀t∈ts,m≤t.length∧t.length≤1000)(hco:0≤b.coin∧b.coin≤1000)(hbx:0≤b.box∧b.box≤1000):Fn prog 16 #[bv,sv,qI (m:Int)] D (λ_ v=>v=.agg #[qI ((ts.map λt=>jZ b t m).foldl min (1099511627776)),qI ((ts.map λt=>jZ b t m).foldl max (-1099511627776))]):=by
 have O:=hb;obtain⟨lv,cv,rfl,hl,hc⟩:=hb;have hll:=hl.len;have hSl:=hS.len;refine Zx 26 func16 C λh0=>aA<|Zac C λq1 E1 hB R=>Zag C zB C λq2=>aJ<|Zd C (λD1 hE=>Y3 _)<|Zag C zB C λq3=>Zaa C kJ ζ<|bD<|Zf C<|aE<|Za4 ?_;refine fE (γ:=Nat) (λk=>ts.length-k) (λk=>k≤ts.length) (λk=>[(8,qI (k:Int))]) [(7,_),(6,_),(3,_),(1,_),(2,_)] (λk=>[(q3,qC [qI (((ts.take k).map λt=>jZ b t m).foldl min (1099511627776)),qI (((ts.take k).map λt=>jZ b t m).foldl max (-1099511627776))] 61),(q2,qC [qI 0,qI 0] 61)]) (λk=>[E1,D]) 0 Yd ⟨Ya,zy⟩ cE zp (aN) ?_;rintro k hF;refine bL<|Za C<|Za C<|Zaj C U59 C hS C<|Zal C<|aE<|Zae C (λhc1=>?_) λhc1=>?_
 ·have hk:k<ts.length:=Yd
  obtain⟨t,ht⟩:=cF ts k;have htm:=GE ht;refine aP<|Za6<|Za4<|bK [] 4 10 254<|Zah C R9 C zu kJ<|Zv C mE C R jX<|Za C<|Za C<|Zy C U59 wJ C hS C ht λb1 o1 hH U Z V=>?_;obtain⟨w1,rfl,Y⟩:=U;refine Zh 0 C kG C V C<|Za C<|Zd C (λD2 I=>Kh _ _ b t m _ (O.up (I _ Yf)) (Y.up jQ.up (I _ Yf)) (hlen t htm).1 (hlen t htm).2 hco hbx)<|Zd C (λD3 hI=>X3 _ _ _ _)<|Zaa C kJ ζ<|jk ?_;refine Zap ?_;rw[show jZ b t m=((λt=>jZ b t m)) t from C,←nX ht,←oB ht];exact Zl 17 (k+1) ⟨Ya,zy⟩ C zp
 ·obtain rfl:k=ts.length:=Yd
  rw[ym];refine Za9<|Za5<|Za5<|Zba<|Za2<|aA<|Zah C R9 C zu kJ<|Zaa C kJ (.tail ζ)<|aG ?_;exact Zp [_] C ⟨⟨_,_,_,C,zi,Or.inr ⟨R9,io,C⟩⟩,zy⟩ λD hD=>C
end L3
namespace L12
open C12 Go.Lib
open C3 (bQ aU uI fA eP kN aCO fP cJ AU sH sC)
open L3 (zC tT dB nP kR LW pP zO)
theorem Vr{l:bQ}(h:yW l):zC 3 l 2=cJ 3 l:=by
 obtain⟨k,c,t⟩:=l;obtain⟨h1,h2,h3⟩:=h;simp only at h1 h2 h3;have I:k=1∨k=2:=Yd
 have O:c=0∨c=1∨c=2:=Yd
 have R:t= -1∨t=0∨t=1∨t=2:=Yd
 rcases I with rfl|rfl<;>rcases O with rfl|rfl|rfl<;>rcases R with rfl|rfl|rfl|rfl<;>decide
theorem KH{l:bQ}(h:yW l):1≤LW 3 l:=by
 unfold LW;rw[(KG h).1];rcases(KG h).2 with e|e<;>omega
theorem Xbc{l:bQ}(h:yW l):sH 3 l=true:=by
 obtain⟨h1,h2,h3⟩:=h;unfold sH;simp only[zl,C1.bH];omega
def rD:List bQ→Nat
 | []=>1
 |l::ls=>LW 3 l*rD ls
theorem C0:∀(ls:List bQ) (a:Nat),(∀l∈ls,yW l)→ls.foldl (λ(m:Int) l=>min 5000 (m*((zC 3 l 2).length:Int))) ((min 5000 a:Nat):Int)=((min 5000 (a*rD ls):Nat):Int)
 | [],a,_=>by rw[List.foldl_nil,rD,xp]
 |l::ls,a,h=>by
  have hs:=KH (h l zj);have e:min (5000:Int) (((min 5000 a:Nat):Int)*((zC 3 l 2).length:Int))=((min 5000 (a*LW 3 l):Nat):Int):=by
   have I:((min 5000 a:Nat):Int)*((zC 3 l 2).length:Int)=(((min 5000 a)*LW 3 l:Nat):Int):=by rw[Int.natCast_mul];rfl
   rw[I];rcases Nat.le_total a 5000 with h5|h5
   ·rw[Nat.min_eq_right h5];omega
   ·rw[uj h5];have O:5000*1≤5000*LW 3 l:=Nat.mul_le_mul_left _ hs;have R:5000*LW 3 l≤a*LW 3 l:=so _ h5;omega
  rw[yp,e,C0 ls (a*LW 3 l) λx hx=>h x (GT _ hx),rD,Nat.mul_assoc]
theorem TC{ls:List bQ}(h:∀l∈ls,yW l):kR 3 ls=((min 5000 (rD ls):Nat):Int):=by
 have e:kR 3 ls=((min 5000 (1*rD ls):Nat):Int):=C0 ls 1 h
 rwa [Nat.one_mul]at e
theorem Xdk{ls:List bQ}(h:∀l∈ls,yW l)(hm:¬4096<kR 3 ls):(kR 3 ls).toNat=rD ls:=by
 rw[TC h]at hm ⊢;omega
def pk:List bQ→List bQ→Prop
 | [],[]=>True
 |l::ls,x::t=>x∈cJ 3 l∧pk ls t
 |_,_=>False
theorem xR:∀{ls t:List bQ},pk ls t→t.length=ls.length
 | [],[],_=>rfl
 |_::_,_::_,h=>by rw[zh,zh,xR h.2]
theorem ed:∀{ls t:List bQ} {i:Nat} {x z:bQ},pk ls t→t[i]?= some x→ls[i]?= some z→x∈cJ 3 z
 | [],[],_,_,_,_,h,_=>by simp at h
 |_::_,_::_,0,_,_,h,h1,h2=>by
  simp only[List.getElem?_cons_zero,uk]at h1 h2;subst h1;subst h2;exact h.1
 |_::_,_::_,i+1,_,_,h,h1,h2=>ed (i:=i) h.2 vj rt
theorem Tg:∀{ls:List bQ} {k:Nat},(∀l∈ls,yW l)→pk ls (tT 3 ls k)
 | [],_,_=>trivial
 |l::ls,k,h=>by
  have hs:=KH (h l zj);unfold LW at hs;have hl:k%(zC 3 l 2).length<(zC 3 l 2).length:=Nat.mod_lt _ Yd;rw[tT,yz hl];refine⟨?_,Tg λx hx=>h x (GT _ hx)⟩;rw[←Vr (h l zj)];exact List.getElem_mem hl
theorem Ud:∀{ls t:List bQ},(∀l∈ls,yW l)→pk ls t→∃k,k<rD ls∧tT 3 ls k=t
 | [],[],_,_=>⟨0,Nat.zero_lt_one,C⟩
 |l::ls,x::t,h,hi=>by
  obtain⟨k,hk,rfl⟩:=Ud (λy hy=>h y (GT _ hy)) hi.2;have h1:=hi.1;rw[←Vr (h l zj)]at h1;obtain⟨m,hm⟩:=List.getElem?_of_mem h1;have hl:m<(zC 3 l 2).length:=(yx.1 hm).1;have I:(m+(zC 3 l 2).length*k)%(zC 3 l 2).length=m:=by rw[Nat.add_mul_mod_self_left,Nat.mod_eq_of_lt hl]
  have O:(m+(zC 3 l 2).length*k) / (zC 3 l 2).length=k:=by rw[Nat.add_mul_div_left _ _ Yd,Nat.div_eq_of_lt hl,wo]
  refine⟨m+(zC 3 l 2).length*k,?_,?_⟩
  ·have:LW 3 l*(k+1)≤LW 3 l*rD ls:=Nat.mul_le_mul_left _ hk;rw[rD];rw[Nat.mul_add,xp]at this;unfold LW at *;omega
  ·rw[tT,I,O,hm];rfl
theorem oI{ls t:List bQ}(h:∀l∈ls,yW l)(hm:¬4096<kR 3 ls):t∈dB 3 ls ↔ pk ls t∧pP t t.length=true:=by
 unfold dB nP;rw[Xdk h hm,xf,n5];constructor
 ·rintro⟨⟨k,_,rfl⟩,hp⟩;exact⟨Tg h,hp⟩
 ·rintro⟨hi,hp⟩;obtain⟨k,hk,e⟩:=Ud h hi;exact⟨⟨k,yj.2 hk,e⟩,hp⟩
theorem NX{x:aU}(hch:x.chairs=3):∀(ls:List bQ) (i:Nat) (s:C3.Sc) (z:List bQ×List C3.Sc) (pre:List bQ),z∈uI x ls i s→pre.length=i→s=zO x (pre++z.1) i→
    pk ls z.1∧(∀j y,z.1[j]?= some y→kN (zO x (pre++z.1) (i+j)) y=true)∧aCO z.2 ls.length=zO x (pre++z.1) (i+ls.length)
  | [],i,s,z,pre,hz,hp,hs=>by
    unfold uI at hz;split at hz
    · obtain rfl:z=([],[s]):=by simpa using hz
      exact⟨zy,λj y h=>vu,hs⟩
    · cases hz
  |l::ls,i,s,z,pre,hz,hp,hs=>by
    unfold uI at hz;split at hz
    · obtain⟨r,hr,h⟩:=vr.1 hz;split at h
      · rename_i hcn;obtain⟨z',hz',rfl⟩:=n5.1 h;simp only at hs ⊢
        have hx:(pre++r::z'.1)[i]?= some r:=by rw[rk Yd,hp,Nat.sub_self];rfl
        have e:pre++r::z'.1=(pre++[r])++z'.1:=Yf
        obtain⟨g1,g2,g3⟩:=NX hch ls (i+1) _ z' (pre++[r]) hz' (by simp[hp]) (by rw[hs,L3.WE hx,e]);rw[←e]at g2 g3;rw[hch]at hr;refine⟨⟨hr,g1⟩,λj y hy=>?_,?_⟩
        · cases j with
          | zero => obtain rfl : r = y := by simpa using hy
                    rw[tl,←hs];exact hcn
          |succ j=>rw[show i+(j+1)=i+1+j by omega];exact g2 j y (by simpa using hy)
        · rw[zh,show i+(ls.length+1)=i+1+ls.length by omega,←g3];rfl
      · cases h
    · cases hz
section
variable{x:aU}(hch:x.chairs=3)(hc:x.counts=[])(h:∀l∈x.lines,yW l)(hm:¬4096<kR 3 x.lines)
include h in
theorem o8{t:List bQ}(hi:pk x.lines t):∀l∈t,AU 3 l:=λl hl=>by
 obtain⟨i,I⟩:=List.getElem?_of_mem hl;have hlt:=(yx.1 I).1;have hz:x.lines[i]?= some (x.lines[i]'(by rw[←xR hi];exact hlt)):=yz _
 exact((sC (Xbc (h _ (GE hz)))).1 (ed hi I hz)).1
include hch hc h hm in
theorem S0{t:List bQ}(ht:t∈dB 3 x.lines):∃y∈L3.uO x 0 (fA x),aCO y x.lines.length=zO x t x.lines.length:=by
 obtain⟨hi,hp⟩:=(oI h hm).1 ht;have hl:=xR hi;have hlin:=o8 h hi;have hr:=L3.XK (x:=x) (t:=t) hl (λi l z h1 h2=>by rw[hch];exact ed hi h1 h2) (λi l h1=>by
  rw[L3.aDR (λl hl=>im) h1];unfold pP at hp;rw[yu]at hp;exact hp i (yj.2 (yx.1 h1).1)) (λi _=>by unfold fP;rw[hc];rfl) t.length 0 Yd
 refine⟨_,n5.2 ⟨_,hr,C⟩,L3.bCI ?_⟩;rw[xt,rf Yd,xo,wo]
include hch h hm in
theorem xM{y:List C3.Sc}(hy:y∈L3.uO x 0 (fA x)):∃t∈dB 3 x.lines,aCO y x.lines.length=zO x t x.lines.length:=by
 obtain⟨z,hz,rfl⟩:=n5.1 hy;rw[sk]at hz;obtain⟨g1,g2,g3⟩:=NX hch x.lines 0 _ z [] hz C C;rw[ya,wo]at g3;have hlin:=o8 h g1;refine⟨z.1,(oI h hm).2 ⟨g1,?_⟩,g3⟩;unfold pP;rw[yu];intro j hj;obtain⟨u,hu⟩:∃u,z.1[j]?= some u:=⟨_,yz (yj.1 hj)⟩
 have:=g2 j u hu;rw[ya,wo,L3.aDR (λl hl=>im) hu]at this
 exact this
include hch hc h hm in
theorem P2:dB 3 x.lines=[] ↔ C3.truths x=[]:=by
 constructor
 ·intro e;cases hz:C3.truths x with
  |nil=>rfl
  |cons z l=>
   obtain⟨t,ht,_⟩:=xM hch h hm (y:=z.2) (n5.2 ⟨z,by show z∈C3.truths x;rw[hz];exact zj,C⟩);rw[e]at ht;cases ht
 ·intro e;cases hz:dB 3 x.lines with
  |nil=>rfl
  |cons t l=>
   obtain⟨y,hy,_⟩:=S0 hch hc h hm (t:=t) (by rw[hz];exact zj);obtain⟨z,O,_⟩:=n5.1 hy;have I:z∈C3.truths x:=O;rw[e]at I;cases I
end
theorem Ac:∀{l:List Int} {a:Int},l≠[]→(∀y∈l,y≤a)→l.foldl min a=C1.qH l
 | [],_,h,_=>absurd C h
 |y::l,a,_,h=>by have:=h y zj;rw[yp,show min a y=y by omega];rfl
theorem Bx:∀{l:List Int} {a:Int},l≠[]→(∀y∈l,a≤y)→l.foldl max a=C1.kU l
 | [],_,h,_=>absurd C h
 |y::l,a,_,h=>by have:=h y zj;rw[yp,show max a y=y by omega];rfl
theorem KV{l m:List Int}{a b:Int}(hl:l≠[])(hab:∀y∈l,b≤y∧y≤a)(h:∀y,y∈l ↔ y∈m):l.foldl min a=C1.qH m∧l.foldl max b=C1.kU m:=by
 have hm:m≠[]:=λe=>hl (by rw[li];intro y hy;rw[h,e]at hy;cases hy)
 rw[Ac hl λy hy=>(hab y hy).2,Bx hl λy hy=>(hab y hy).1];have h1:=C1.SG ((h _).2 (C1.Q4 hm));have h2:=C1.SG ((h _).1 (C1.Q4 hl));have h3:=C1.x3 ((h _).2 (C1.tZ hm));have h4:=C1.x3 ((h _).1 (C1.tZ hl));omega
theorem aCS{x:aU}(hch:x.chairs=3)(hc:x.counts=[])(h:∀l∈x.lines,yW l)(hm:¬4096<kR 3 x.lines)(hco:x.coin=5∧x.box=20)(h8:x.lines.length≤8)(hne:dB 3 x.lines≠[]):
  ((dB 3 x.lines).map λt=>L3.jZ x t x.lines.length).foldl min 1099511627776=(L3.AX (λs=>s.money) x x.lines.length).1∧((dB 3 x.lines).map λt=>L3.jZ x t x.lines.length).foldl max (-1099511627776)=(L3.AX (λs=>s.money) x x.lines.length).2:=by
 have hlk:∀t∈dB 3 x.lines,(zO x t x.lines.length).money=L3.jZ x t x.lines.length:=λt ht=>by
  obtain⟨hi,_⟩:=(oI h hm).1 ht;have hlin:=o8 h hi;exact(L3.bJM (b:=x) (λl hl=>im) _ (Nat.le_of_eq (xR hi).symm)).2.2
 refine KV nz (λy hy=>?_) λy=>?_
 ·obtain⟨t,_,rfl⟩:=n5.1 hy;have:=L3.aBU (b:=x) (t:=t) Yd x.lines.length;omega
 ·constructor
  ·intro hy;obtain⟨t,ht,rfl⟩:=n5.1 hy;obtain⟨z,hz,e⟩:=S0 hch hc h hm ht;exact n5.2 ⟨_,n5.2 ⟨z,hz,C⟩,by rw[e,hlk t ht]⟩
  ·intro hy;obtain⟨s,hs,rfl⟩:=n5.1 hy;obtain⟨z,hz,rfl⟩:=n5.1 hs;obtain⟨t,ht,e⟩:=xM hch h hm hz;exact n5.2 ⟨t,ht,by rw[e,hlk t ht]⟩
end L12
end Go.Fs
