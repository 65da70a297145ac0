/- Of BookAsks. -/
import Derived.Test.YtmmdpkkcedmgoaaGreatDoorZBookAsksAC
import Derived.ProofKit
import Derived.OpenShut
import Derived.WideKeyArgs
import Derived.JoinedCond
namespace Go.Fs
open Go.Proofs Tryz
namespace L7
open C7
def S3(l:List Int):Nat:=(l.filter fun n=>decide (n=2)).length
theorem aCA(l:List Int):S3 l≤l.length:=bNF _ _
theorem aVA(l:List Ch):dH l≤3*l.length:=by
 induction l with
 |nil=>simp[dH]
 |cons c l ih=>
  have:YR c.parts≤3:=bNF _ _;simp only[dH,bMT,List.sum_cons,bLU]at ih ⊢
  omega
theorem UY{l:List Ch}{i:Nat}{x:Ch}(hx:l[i]?= some x):((dH (l.take (i+1)):Nat):Int)=((dH (l.take i)+S3 (x.parts.l.take 3):Nat):Int):=by
 rw[bLW,hx];simp[dH,YR,S3,Pt.l]
theorem bCZ{x:Ch}{k:Nat}{n:Int}(hx:kI x=true)(hn:x.parts.l[k]?= some n):0≤n∧n≤2:=by
 simp only[kI,bLQ,RW,bMK]at hx;have:=hx.2 n (n5 hn);simpa [gU]using this
theorem aKX{l:List Int}{k u:Nat}{n:Int}(hn:l[k]?= some n)(h:0≤n∧n≤2):((u+S3 (l.take (k+1)):Nat):Int)=((u+S3 (l.take k):Nat):Int)+n / 2:=by
 rw[bLW,hn];simp only[S3,bMR,bMY,bLT];by_cases h2:n=2
 ·subst h2;simp;omega
 ·simp[h2];omega
theorem aTL{y:bC}(h:(decide ((7:Int)<y.chairs.length)||decide ((5:Int)<y.claims.length))=true):aX y=3:=by
 simp only[bMU,LT]at h;unfold aX;rw[bMG Yd]
theorem MQ{y:bC}(h:(decide ((7:Int)<y.chairs.length)||decide ((5:Int)<y.claims.length))=false):¬(7<y.chairs.length∨5<y.claims.length):=by
 simp only[bNG,bLV]at h;omega
theorem bHN{y:bC}(h:(decide ((7:Int)<y.chairs.length)||decide ((5:Int)<y.claims.length))=false)(h2:((!gU y.fit 0 9|| !y.chairs.all kI)|| !y.claims.all mF)=true):aX y=1:=by
 unfold aX;rw[bLX (MQ h),bMG]
 revert h2;unfold zN
 generalize gU y.fit 0 9=a,y.chairs.all kI=b,y.claims.all mF=c;cases a<;>cases b<;>cases c<;>decide
theorem YL{y:bC}(h2:((!gU y.fit 0 9|| !y.chairs.all kI)|| !y.claims.all mF)=false):zN y=true:=by
 revert h2;unfold zN
 generalize gU y.fit 0 9=a,y.chairs.all kI=b,y.claims.all mF=c;cases a<;>cases b<;>cases c<;>decide
theorem bJH{y:bC}(h:(decide ((7:Int)<y.chairs.length)||decide ((5:Int)<y.claims.length))=false)(h2:((!gU y.fit 0 9|| !y.chairs.all kI)|| !y.claims.all mF)=false):y.chairs.length≤7∧∀x∈y.chairs,kI x=true:=by
 have h3:=YL h2;simp only[zN,bLQ,bMK]at h3;have:=MQ h;exact⟨Yd,h3.1.2⟩
theorem aYC{y:bC}(h:(decide ((7:Int)<y.chairs.length)||decide ((5:Int)<y.claims.length))=false)(h2:((!gU y.fit 0 9|| !y.chairs.all kI)|| !y.claims.all mF)=false)(h3:(8:Int)<dH y.chairs):aX y=3:=by
 unfold aX;rw[bLX (MQ h),bLX (by rw[YL h2];simp),bMG Yd]
theorem aYT{y:bC}(h:(decide ((7:Int)<y.chairs.length)||decide ((5:Int)<y.claims.length))=false)(h2:((!gU y.fit 0 9|| !y.chairs.all kI)|| !y.claims.all mF)=false)(h3:¬(8:Int)<dH y.chairs):aX y=0:=by
 unfold aX;rw[bLX (MQ h),bLX (by rw[YL h2];simp),bLX Yd]
theorem aTX{p:Pt}{k:Nat}{m:Int}(h:p.l[k]?= some m):([qI p.a,qI p.b,qI p.c]:List Γ)[k*1]?= some (qI m):=by
 rw[bNY,show([qI p.a,qI p.b,qI p.c]:List Γ)=p.l.map (Value.int .i64)from rfl,bNB,h];rfl
theorem C4(yv:Γ)(y:bC)(D:aC)(hy:iR D yv y):Fn prog 108 #[yv] D (fun _ v=>v=qI (aX y)):=by
 have V:=hy;obtain⟨cv,qv,rfl,hc,hq⟩:=hy;refine Zw 60 func108 rfl fun h0=>aA<|Zy rfl fun q1 E1 hO I=>Zf rfl<|aJ<|Zv rfl mN rfl I lH<|Zax rfl<|Zf rfl<|bW<|Za0<|aA<|Zj rfl iH rfl ?_;refine Zh 0 rfl pE rfl I rfl<|Zah rfl U84 rfl hc rfl<|Wap ?_;refine' dQ 5 (s:=16) (p:=21) rfl (fun Y=>?_) (fun Y=>?_) ?_;rotate_left
 ·refine Zk rfl nD rfl<|Zi 2 rfl L4 rfl I rfl<|eN rfl U85 rfl hq rfl rfl ⟨_,rfl,rfl⟩<|Wy ?_;exact aN 4
 ·refine Wf ?_;exact aN 4
 refine Zf rfl<|aF<|Zag rfl (fun hc1=>?_) fun hc1=>?_
 ·refine Wm ?_;exact aE rfl fun D hD=>by show Value.int _ _=_;rw[aTL hc1]
 ·refine aA<|Zj rfl K8 rfl<|Zh 1 rfl aH rfl I rfl<|Zd rfl (fun D1 hP=>fA _ _ _ _)<|Wbr ?_;refine' dQ 5 (s:=27) (p:=32) rfl (fun Z=>?_) (fun Z=>?_) ?_;rotate_left
  ·refine Zk rfl iH rfl<|Zi 0 rfl pE rfl I rfl<|Ze rfl (fun U hB=>NT _ _ _ kI _ (Sl.at zS.up hB Yl Yf) (.of fun x U=>HY x U) rfl)<|Waf ?_;exact aN 4
  ·refine Wf ?_;exact aN 4
  refine Za rfl ?_;refine' dQ 6 (s:=33) (p:=39) rfl (fun hE=>?_) (fun hE=>?_) ?_;rotate_left
  ·refine Zk rfl nD rfl<|Zi 2 rfl L4 rfl I rfl<|Zb rfl<|Ze rfl (fun D3 R=>MO _ _ _ mF _ (Sl.at R2.up R Yl Yf) ⟨_,[_],[],rfl,fun r U hl=>aVL _ y r U (V.up ((R _ Yf).trans hl))⟩ rfl)<|Waf ?_;exact aN 5
  ·refine Zg rfl<|Wf ?_;exact aN 5
  refine Zf rfl<|aF<|Zag rfl (fun hc2=>?_) fun hc2=>?_
  ·refine Wm ?_;exact aE rfl fun D hD=>by show Value.int _ _=_;rw[bHN hc1 hc2]
  ·obtain⟨hR,hok⟩:=bJH hc1 hc2;refine bH<|Za3<|Zay<|aA<|Zf rfl<|bG<|Zj rfl iH rfl<|Zh 0 rfl pE rfl I rfl<|Zah rfl U84 rfl hc rfl<|Za rfl<|aF<|Za0 ?_;refine bK (γ:=Nat) (fun i=>y.chairs.length-i) (fun i=>i≤y.chairs.length) (fun i=>[(43,qI (i:Int)),(4,qI (dH (y.chairs.take i):Int))]) [(42,_),(41,_),(2,_)] (fun i=>[E1,D]) 0 Yd ⟨Ya,(by simp[dH];rfl),bRD⟩ bQ (aK) ?_
   rintro i h1;refine aA<|Zam rfl<|bW<|Zaf rfl (fun hc3=>?_) fun hc3=>?_
   ·have hi:i<y.chairs.length:=by omega
    obtain⟨x,hx⟩:=cR y.chairs i;have hxo:=hok x (n5 hx);have hub:=aVA (y.chairs.take i);have hut:(y.chairs.take i).length≤i:=bOT _ _;refine aQ<|Za2<|Za0<|aA<|Zx rfl U84 mC rfl hc rfl hx fun b1 o1 hF hH hN hI=>?_;obtain rfl:hF=[qI _,qI _,qI _,qI _]:=hH;refine Zv rfl MS rfl hI mC<|Zad rfl P1 rfl fun q2=>Zz rfl mC ζ<|aJ<|Zj rfl Q8 rfl<|dX rfl qE oQ rfl Mm0 rfl rfl n4 rfl bRD<|Za rfl<|aF<|Za0<|bK (γ:=Nat) (fun k=>3-k) (fun k=>k≤3) (fun k=>[(49,qI (k:Int)),(4,qI ((dH (y.chairs.take i)+S3 (x.parts.l.take k):Nat):Int))]) [(48,_),(47,_),(6,_),(46,_),(45,_),(44,_),(43,_),(42,_),(41,_),(2,_)] (fun k=>[E1,D]) 0 Yd ⟨Ya,(by simp[S3];rfl),bRD⟩ bQ (aK) ?_
    rintro k h2;refine aA<|Zam rfl<|bW<|Zaf rfl (fun hJ=>?_) fun hJ=>?_
    ·have hS:k<3:=by omega
     obtain⟨n,hn⟩:∃n,x.parts.l[k]?= some n:=⟨_,bLR (by simp[Pt.l];omega)⟩
     have hK:=bCZ hxo hn;have hkl:=aCA (x.parts.l.take k);have hkt:(x.parts.l.take k).length≤k:=bOT _ _;refine aQ<|Za2<|Za0<|aA<|GV (l:=x.parts.l) rfl U312 aH aI rfl rfl Yd Yd hn rfl bRD<|Zf rfl<|aF<|aP<|Za rfl<|Za rfl<|KO rfl rfl rfl Yd Yd Ye rfl bRD<|Zae rfl ?_;refine Wan ?_;exact Zn 12 (k+1) ⟨Ya,(by rw[aKX hn hK];rfl),bRD⟩ rfl Mm5
    ·obtain rfl:k=3:=by omega
     refine Za5<|Za1<|Za1<|Za6<|Wc ?_;exact Zn 12 (i+1) ⟨Ya,(by rw[UY hx];rfl),bRD⟩ rfl (List.Sublist.cons _ Mm5)
   ·obtain rfl:i=y.chairs.length:=by omega
    rw[bMP];refine Za5<|Za1<|Za1<|Za6<|Zay<|bZ<|Za rfl<|Zaq rfl<|aF<|Zaf rfl (fun O=>?_) fun O=>?_
    ·refine aA<|Wi ?_;exact aE rfl fun D hD=>by show Value.int _ _=_;rw[aYC hc1 hc2 O]
    ·refine aQ<|aA<|We ?_;exact aE rfl fun D hD=>by show Value.int _ _=_;rw[aYT hc1 hc2 O]
def wL(p:Pt):Prop:=(0≤p.a∧p.a≤1)∧(0≤p.b∧p.b≤1)∧(0≤p.c∧p.c≤1)
def T6(p q:Pt):Bool:=(!iA p&& !iA q)&&iA ⟨max p.a q.a,max p.b q.b,max p.c q.c⟩
def S5(f:Int)(x z:Ch):Bool:=gU (x.size-z.size) (-f) f
theorem WO(p q:Pt):T6 p q=T6 q p:=by
 unfold T6;rw[Int.max_comm p.a,Int.max_comm p.b,Int.max_comm p.c,Bool.and_comm (!iA p)]
theorem aKO(f:Int)(x z:Ch):S5 f x z=S5 f z x:=by
 unfold S5 gU;rw[bOX];simp only[bLQ,LT];omega
theorem aUH(p q:Pt)(D:aC)(hp:wL p)(hq:wL q):Fn prog 252 #[bKF p,bKF q] D (fun _ v=>v=.bool (T6 p q)):=by
 refine Zw 32 func252 rfl fun h0=>aA<|Zy rfl fun q1 E1 V I=>Zy rfl fun q2 E2 Y O=>Zf rfl<|aJ<|cU rfl qE rfl I Yc Yac n4 rfl bRD<|Zd rfl (fun D1 Z=>b6 p _)<|Wbr ?_;refine' bU 4 (s:=8) (p:=12) rfl (fun R=>?_) (fun R=>?_) ?_;rotate_left
 ·refine cU rfl qE rfl O Yc Yac n4 rfl ⟨_,rfl,rfl⟩<|Ze rfl (fun D2 hB=>b6 q _)<|Wcc ?_;exact aN 3
 ·refine Wb ?_;exact aN 3
 refine Za rfl ?_;refine' bU 18 (s:=13) (p:=31) rfl (fun U=>?_) (fun U=>?_) ?_;rotate_left
 ·refine cD rfl U312 aI rfl rfl Yu Yu rfl ⟨_,rfl,rfl⟩<|iO rfl aH rfl I Yf rfl n4 rfl ⟨_,rfl,rfl⟩<|cD rfl U312 aI rfl rfl Yu Yu rfl ⟨_,rfl,rfl⟩<|iO rfl aH rfl O Yf rfl n4 rfl ⟨_,rfl,rfl⟩<|XK rfl rfl rfl hp.1 hq.1 rfl ⟨_,rfl,rfl⟩<|cD rfl U312 aI rfl rfl Yu Yu rfl ⟨_,rfl,rfl⟩<|iO rfl aH rfl I Yf rfl n4 rfl ⟨_,rfl,rfl⟩<|cD rfl U312 aI rfl rfl Yu Yu rfl ⟨_,rfl,rfl⟩<|iO rfl aH rfl O Yf rfl n4 rfl ⟨_,rfl,rfl⟩<|XK rfl rfl rfl hp.2.1 hq.2.1 rfl ⟨_,rfl,rfl⟩<|cD rfl U312 aI rfl rfl Yu Yu rfl ⟨_,rfl,rfl⟩<|iO rfl aH rfl I Yf rfl n4 rfl ⟨_,rfl,rfl⟩ ?_;refine cD rfl U312 aI rfl rfl Yu Yu rfl ⟨_,rfl,rfl⟩<|iO rfl aH rfl O Yf rfl n4 rfl ⟨_,rfl,rfl⟩<|XK rfl rfl rfl hp.2.2 hq.2.2 rfl ⟨_,rfl,rfl⟩<|j7 (cs:=[qI (max p.a q.a),qI (max p.b q.b),qI (max p.c q.c)]) rfl U312 aI d7 rfl rfl rfl ⟨_,rfl,rfl⟩<|Ze rfl (fun D3 hE=>b6 ⟨max p.a q.a,max p.b q.b,max p.c q.c⟩ _)<|Zaj rfl ?_;exact aN 17
 ·refine Wak ?_;refine Wbf ?_;exact aN 17
 refine We ?_;exact aE rfl fun D hD=>rfl
theorem CG(yv:Γ)(y:bC)(a b:Nat)(x z:Ch)(D:aC)(hy:iR D yv y)(hf:0≤y.fit∧y.fit≤9)(hx:y.chairs[a]?= some x)(hz:y.chairs[b]?= some z)(hxs:0≤x.size∧x.size≤9)(hzs:0≤z.size∧z.size≤9):Fn prog 115 #[yv,qI (a:Int),qI (b:Int)] D (fun _ v=>v=.bool (S5 y.fit x z)):=by
 obtain⟨cv,qv,rfl,hc,hq⟩:=hy;refine Zw 26 func115 rfl fun h0=>aA<|Zy rfl fun q1 E1 hF I=>Zf rfl<|bW<|bS [] 6 20 257988<|Zj rfl iH rfl<|Zh 0 rfl pE rfl I rfl<|Za rfl<|Zx rfl U84 mC rfl hc rfl hx fun b1 o1 O R hB U=>?_;obtain rfl:O=[qI _,qI _,qI _,qI _]:=R;refine Zj rfl AM rfl<|Zh 0 rfl aH rfl U rfl<|Zj rfl iH rfl<|Zh 0 rfl pE rfl I rfl<|Za rfl<|Zx rfl U84 mC rfl hc rfl hz fun b2 o2 V Y hE Z=>?_;obtain rfl:V=[qI _,qI _,qI _,qI _]:=Y;refine Zj rfl AM rfl<|Zh 0 rfl aH rfl Z rfl<|Zau rfl<|Zj rfl K8 rfl<|Zh 1 rfl aH rfl I rfl<|aEC rfl rfl Ye rfl bRD<|Zj rfl K8 rfl<|Zh 1 rfl aH rfl I rfl<|Zd rfl (fun D1 hH=>fA _ _ _ _)<|We ?_;exact aE rfl fun D hD=>rfl
def jI(p:Nat→Bool):Nat→Nat
 |0=>0
 |n+1=>if p n=true then jI p n|||2^n else jI p n
theorem oF(p:Nat→Bool):∀n i,(jI p n).testBit i=(decide (i<n)&&p i)
 |0,i=>by simp[jI]
 |n+1,i=>by
  unfold jI;split
  ·rename_i h;rw[Nat.testBit_or,oF p n i,Nat.testBit_two_pow];by_cases hi:n=i
   ·subst hi;simp[h]
   ·have:(i<n+1)=(i<n):=by rw[eq_iff_iff];omega
    simp[hi,this]
  ·rename_i h;rw[oF p n i];by_cases hi:n=i
   ·subst hi;simp[h]
   ·have:(i<n+1)=(i<n):=by rw[eq_iff_iff];omega
    simp[this]
theorem m3(p:Nat→Bool)(n:Nat):jI p n<2^n:=by
 apply Nat.lt_pow_two_of_testBit;intro i hi;rw[oF];have:¬i<n:=by omega
 simp[this]
def lN(t:List Pt)(i:Nat):Bool:=match t[i]? with|some p=> !iA p|none=>false
def kG(y:bC)(t:List Pt)(i k:Nat):Bool:=match t[i]?,t[k]?,y.chairs[i]?,y.chairs[k]? with
 |some p,some q,some x,some z=>(decide ((k:Int)≠i)&&S5 y.fit x z)&&T6 p q
 |_,_,_,_=>false
theorem PG{y:bC}{t:List Pt}{i k:Nat}{z q:Pt}{I x2:Ch}(hz:t[i]?= some z)(hq:t[k]?= some q)(hx1:y.chairs[i]?= some I)(hx2:y.chairs[k]?= some x2):kG y t i k=((decide ((k:Int)≠i)&&S5 y.fit I x2)&&T6 z q):=by
 unfold kG;rw[hz,hq,hx1,hx2]
def gP(y:bC)(t:List Pt)(i k:Nat):List Nat:=(List.range 7).map fun j=>if j<i then jI (kG y t j) t.length else if j=i then jI (kG y t i) k else 0
structure Sc where
 whole:Nat
 broken:Nat
 fits:List Nat
deriving DecidableEq
def dK(y:bC)(t:List Pt):Sc:=⟨whole t,jI (lN t) t.length,(List.range 7).map fun j=>jI (kG y t j) t.length⟩
def DH(w b:Nat)(rows:List Nat):List Γ:=qI (w:Int)::qI (b:Int)::rows.map fun(n:Nat)=>Value.int .i64 (n:Int)
def aBB(s:Sc):Γ:=.agg (DH s.whole s.broken s.fits).toArray
theorem aPC(w b:Nat)(rows:List Nat):∀u∈DH w b rows,cell1 u=true:=by
 intro u hu;unfold DH at hu;simp only[bLO,GE]at hu;rcases hu with rfl|rfl|⟨n,_,rfl⟩<;>rfl
theorem bDB{y:bC}{t:List Pt}{j:Nat}(h:t.length≤j):jI (kG y t j) t.length=0:=by
 apply Nat.eq_of_testBit_eq;intro i;rw[oF,Nat.zero_testBit];have:kG y t j i=false:=by unfold kG;rw[bOP h]
 simp[this]
theorem aHA{y:bC}{t:List Pt}:gP y t t.length 0=(dK y t).fits:=by
 show gP y t t.length 0=(List.range 7).map fun j=>jI (kG y t j) t.length
 unfold gP;apply bQN;intro j _;by_cases h:j<t.length
 ·rw[bMG h]
 ·rw[bLX h,bDB Yd];split<;>rfl
theorem aCE{y:bC}{t:List Pt}{i:Nat}:gP y t i t.length=gP y t (i+1) 0:=by
 unfold gP;apply bQN;intro j _;by_cases h:j<i
 ·rw[bMG h,bMG Yd]
 ·rw[bLX h];by_cases h2:j=i
  ·subst h2;rw[bMG rfl,bMG Yd]
  ·rw[bLX h2,bLX Yd];split<;>rfl
theorem bGK{y:bC}{t:List Pt}{i k:Nat}(h:kG y t i k=false):gP y t i k=gP y t i (k+1):=by
 unfold gP;have:jI (kG y t i) (k+1)=jI (kG y t i) k:=by rw[jI,bLX (by simp[h])]
 rw[this]
theorem aZM{y:bC}{t:List Pt}{i k:Nat}(h:i<7):(gP y t i k)[i]?= some (jI (kG y t i) k):=by
 unfold gP;rw[bNB,bPW h];simp
theorem bHQ{rows:List Nat}{i n:Nat}(w b:Nat)(h:rows[i]?= some n):(DH w b rows)[2+i*1]?= some (qI (n:Int)):=by
 rw[bNY,Nat.add_comm];unfold DH;rw[List.getElem?_cons_succ,List.getElem?_cons_succ,bNB,h];rfl
theorem A4{t:List Pt}{i:Nat}{z:Pt}(hz:t[i]?= some z):whole (t.take (i+1))=whole (t.take i)+if iA z=true then 1 else 0:=by
 unfold whole;rw[bLW,hz,bMR,bMY,bLT];cases h:iA z<;>simp[h]
theorem aCD{t:List Pt}{i:Nat}{z:Pt}(hz:t[i]?= some z):lN t i= !iA z:=by unfold lN;rw[hz]
theorem KV{y:bC}{t:List Pt}{i k:Nat}{z:Pt}(hz:t[i]?= some z)(hw:iA z=true):jI (kG y t i) k=0:=by
 apply Nat.eq_of_testBit_eq;intro j;rw[oF,Nat.zero_testBit];have:kG y t i j=false:=by
  unfold kG;rw[hz]
  split
  ·rename_i I _ _ _;obtain rfl:=bMQ I;simp[T6,hw]
  ·rfl
 simp[this]
theorem aVR{y:bC}{t:List Pt}{i:Nat}{z:Pt}(hz:t[i]?= some z)(hw:iA z=true):
  (DH (whole (t.take i)) (jI (lN t) i) (gP y t i 0)).take 0++[qI ((whole (t.take i):Int)+1)]++(DH (whole (t.take i)) (jI (lN t) i) (gP y t i 0)).drop (0+ [Value.int .i64 ((whole (t.take i):Int)+1)].length)=DH (whole (t.take (i+1))) (jI (lN t) (i+1)) (gP y t (i+1) 0):=by
 have h1:((whole (t.take (i+1)):Nat):Int)=(whole (t.take i):Int)+1:=by rw[A4 hz,bMG hw];simp
 have h2:jI (lN t) (i+1)=jI (lN t) i:=by rw[jI,bLX (by rw[aCD hz,hw];simp)]
 have h3:gP y t (i+1) 0=gP y t i 0:=by
  rw[←aCE];unfold gP;rw[KV hz hw,KV hz hw]
 rw[h2,h3];unfold DH;rw[h1];rfl
theorem aXK{y:bC}{t:List Pt}{i:Nat}{z:Pt}(hz:t[i]?= some z)(hw:iA z=false):
  (DH (whole (t.take i)) (jI (lN t) i) (gP y t i 0)).take 1++[qI ((jI (lN t) i|||2^i:Nat):Int)]++(DH (whole (t.take i)) (jI (lN t) i) (gP y t i 0)).drop (1+ [Value.int .i64 ((jI (lN t) i|||2^i:Nat):Int)].length)=DH (whole (t.take (i+1))) (jI (lN t) (i+1)) (gP y t i 0):=by
 have h1:whole (t.take (i+1))=whole (t.take i):=by rw[A4 hz,bLX (by simp[hw])];rfl
 have h2:jI (lN t) (i+1)=jI (lN t) i|||2^i:=by rw[jI,bMG (by rw[aCD hz,hw];rfl)]
 rw[h1,h2];rfl
theorem bIH{y:bC}{t:List Pt}{i k w b:Nat}(hi:i<7)(h:kG y t i k=true):
  (DH w b (gP y t i k)).take (2+i*1)++[qI ((jI (kG y t i) k|||2^k:Nat):Int)]++(DH w b (gP y t i k)).drop (2+i*1+ [Value.int .i64 ((jI (kG y t i) k|||2^k:Nat):Int)].length)=DH w b (gP y t i (k+1)):=by
 have h2:jI (kG y t i) (k+1)=jI (kG y t i) k|||2^k:=by rw[jI,bMG h]
 have e:i=0∨i=1∨i=2∨i=3∨i=4∨i=5∨i=6:=by omega
 rw[←h2];rcases e with rfl|rfl|rfl|rfl|rfl|rfl|rfl<;>rfl
theorem aRS(yv tv:Γ)(y:bC)(t:List Pt)(D:aC)(hy:iR D yv y)(ht:Sl D RP 3 tv t)(hlen:t.length=y.chairs.length)(h7:t.length≤7)(hb:∀p∈t,wL p)(hf:0≤y.fit∧y.fit≤9)(hs:∀c∈y.chairs,0≤c.size∧c.size≤9):Fn prog 184 #[yv,tv] D (fun _ v=>v=aBB (dK y t)):=by
 have O:=hy;obtain⟨cv,qv,rfl,hc,hq⟩:=hy;have hl:=ht.len;refine Zw 61 func184 rfl fun h0=>aA<|Zy rfl fun q1 E1 hN R=>Zad rfl xC rfl fun q2=>bG<|Za rfl<|Zah rfl U323 rfl ht rfl<|Za rfl<|aF<|Za0<|fZ (γ:=Nat) (fun i=>t.length-i) (fun i=>i≤t.length) (fun i=>[(11,qI (i:Int))]) [(10,_),(9,_),(4,_),(2,_),(1,_)] (fun i=>[(q2,qC (DH (whole (t.take i)) (jI (lN t) i) (gP y t i 0)) 327)]) (fun i=>[E1,D]) 0 Yd ⟨Ya,bRD⟩ bQ Mm5 (aK) ?_;rintro i h1;refine aA<|Zam rfl<|bW<|Zaf rfl (fun hc1=>?_) fun hc1=>?_
 ·have hi:i<t.length:=by omega
  obtain⟨z,hz⟩:=cR t i;obtain⟨x1,hx1⟩:=cR y.chairs i;have hwl:whole (t.take i)≤(t.take i).length:=bNF _ _;have hwt:(t.take i).length≤i:=bOT _ _;have hbl:=m3 (lN t) i;have hO:2^i≤2^7:=bNQ Yd Yd;refine aQ<|Za2<|Za0<|aA<|Za rfl<|Zx rfl U323 oQ rfl ht rfl hz fun b1 o1 U V hJ Y=>?_;obtain rfl:U=[qI _,qI _,qI _]:=V;refine cU rfl qE rfl Y Yc Yac n4 rfl bRD<|Zad rfl d7 rfl fun q3=>Zf rfl<|Zz rfl oQ ζ<|bG<|bI rfl qE rfl Mm0 Yac n4 rfl bRD<|Zd rfl (fun D1 hP=>b6 z _)<|aF<|Zag rfl (fun hc2=>?_) fun hc2=>?_
  ·refine aA<|Zj rfl O3 rfl<|Zo rfl aH rfl Mm1 rfl<|Zae rfl<|Zj rfl O3 rfl<|cY (ws:=DH (whole (t.take (i+1))) (jI (lN t) (i+1)) (gP y t (i+1) 0)) rfl rfl rfl rfl aI (.tail ζ) (by simp[DH]) (aVR hz hc2) Yk bRD<|aF<|Za5<|Za1<|Za6<|Zay<|aP ?_;refine Zae rfl<|Za rfl<|Zan ?_;exact Zn 15 (i+1) ⟨Ya,bRD⟩ rfl (List.Sublist.cons _ Mm5)
  ·refine aQ<|Za2<|bS [] 2 7 12<|Zj rfl p7 rfl<|Zo rfl aH rfl Mm1 rfl<|Za rfl<|GU rfl rfl rfl Yd rfl bRD<|LW rfl rfl rfl Yd Yd rfl bRD<|Zj rfl p7 rfl<|cY (ws:=DH (whole (t.take (i+1))) (jI (lN t) (i+1)) (gP y t i 0)) rfl rfl rfl rfl aI (.tail ζ) (by simp[DH]) (aXK hz hc2) Yk bRD<|aJ<|Za rfl ?_;refine Zah rfl U323 rfl ht rfl<|Za rfl<|aF<|Za0<|fZ (γ:=Nat) (fun k=>t.length-k) (fun k=>k≤t.length) (fun k=>[(30,qI (k:Int))]) [(29,_),(28,_),(27,_),(26,_),(25,_),(24,_),(23,_),(22,_),(17,_),(16,_),(5,_),(6,_),(15,_),(14,_),(13,_),(12,_),(11,_),(10,_),(9,_),(4,_),(2,_),(1,_)] (fun k=>[(q3,qC [qI z.a,qI z.b,qI z.c] 312),(q2,qC (DH (whole (t.take (i+1))) (jI (lN t) (i+1)) (gP y t i k)) 327)]) (fun k=>[E1,D]) 0 Yd ⟨Ya,bRD⟩ bQ Mm5 (aK) ?_;rintro k h2;refine aA<|Zam rfl<|bW<|Zaf rfl (fun hc3=>?_) (fun hc3=>?_)
   ·have hk:k<t.length:=by omega
    obtain⟨q,hq⟩:=cR t k;obtain⟨x2,hx2⟩:=cR y.chairs k;have hbk:=m3 (kG y t i) k;have hR:2^k≤2^7:=bNQ Yd Yd;refine aQ<|Za2<|Za0<|aA<|Za rfl<|Zx rfl U323 oQ rfl ht rfl hq fun b2 o2 Z hB hK hE=>?_;obtain rfl:Z=[qI _,qI _,qI _]:=hB;refine cU rfl qE rfl hE Yc Yac n4 rfl bRD<|Zad rfl d7 rfl fun q4=>Zf rfl<|Zz rfl oQ ζ<|aJ<|Za rfl<|Za rfl<|Zaw rfl<|Za rfl ?_;refine' bU 5 (s:=38) (p:=43) rfl (fun hF=>?_) (fun hF=>?_) ?_;rotate_left
    ·refine cU rfl mN rfl R Yc lH n4 rfl ⟨_,rfl,rfl⟩<|Zb rfl<|Zb rfl<|Ze rfl (fun D2 hH=>CG _ y i k x1 x2 _ (O.up (hH _ Yf)) hf hx1 hx2 (hs _ (n5 hx1)) (hs _ (n5 hx2)))<|Zaj rfl ?_;exact aN 4
    ·refine Zg rfl<|Wb ?_;exact aN 4
    refine Za rfl ?_;refine' bU 4 (s:=44) (p:=48) rfl (fun hI=>?_) (fun hI=>?_) ?_;rotate_left
    ·refine bI rfl qE rfl Mm1 Yac n4 rfl ⟨_,rfl,rfl⟩<|bI rfl qE rfl Mm0 Yac n4 rfl ⟨_,rfl,rfl⟩<|Ze rfl (fun D3 hS=>aUH z q _ (hb _ (n5 hz)) (hb _ (n5 hq)))<|Zaj rfl ?_;exact aN 3
    ·refine Wb ?_;exact aN 3
    refine aF<|Zag rfl (fun I=>?_) fun I=>?_
    ·have hfit:kG y t i k=true:=by rw[PG hz hq hx1 hx2];exact I
     refine bS [] 3 10 178<|Za rfl<|Zj rfl Q1 rfl<|eX rfl U325 aI rfl rfl Yd Yd rfl bRD<|bD rfl aH rfl Mm2 (bHQ _ _ (aZM Yd)) n4 rfl bRD<|Za rfl<|GU rfl rfl rfl Yd rfl bRD<|LW rfl rfl rfl Yd Yd rfl bRD<|Zj rfl Q1 rfl<|eX rfl U325 aI rfl rfl Yd Yd rfl bRD<|cY (ws:=DH (whole (t.take (i+1))) (jI (lN t) (i+1)) (gP y t i (k+1))) rfl rfl rfl rfl aI (.tail (.tail ζ)) (by simp[DH,gP];omega) (bIH Yd hfit) Yk bRD<|Zan ?_;refine Wc ?_;exact Zn 25 (k+1) ⟨Ya,bRD⟩ rfl (List.Sublist.cons _ Mm5)
    ·have hfit:kG y t i k=false:=by rw[PG hz hq hx1 hx2];exact I
     refine Wca ?_;rw[bGK hfit];exact Zn 16 (k+1) ⟨Ya,bRD⟩ rfl (List.Sublist.cons _ Mm5)
   ·obtain rfl:k=t.length:=by omega
    rw[aCE];refine Za5<|Za1<|Za1<|Za6<|Wc ?_;exact Zn 21 (i+1) ⟨Ya,bRD⟩ rfl (List.Sublist.cons _ Mm5)
 ·obtain rfl:i=t.length:=by omega
  refine Za5<|Za1<|Za1<|Za6<|Zay<|aA<|Zac rfl uD rfl Mm0 hZ<|bE rfl rfl rfl rfl hZ Yb Yb ζ (aPC _ _ _) bRD<|aG ?_;exact Zq [_] rfl ⟨⟨_,_,_,rfl,Mm0,Or.inr ⟨uD,(by first|exact hZ|(simp only[bNA,aM, *];exact hZ)),rfl⟩⟩,bRD⟩ fun D hD=>by rw[aHA,bMP];rfl
end L7
end Go.Fs
namespace Go.Fs.C7
def pY(M:List (Nat×Nat)):List Nat:=M.flatMap fun p=>[p.1,p.2]
theorem lS{M:List (Nat×Nat)}{x:Nat}:x∈pY M ↔∃p∈M,x=p.1∨x=p.2:=by
 unfold pY;simp
structure QH(f:Nat→Nat→Bool)(S:Nat→Bool)(M:List (Nat×Nat)):Prop where
 fit:∀p∈M,S p.1=true∧S p.2=true∧f p.1 p.2=true
 nd:(pY M).Nodup
structure IE(f:Nat→Nat→Bool)(S:Nat→Bool)(k:Nat):Prop where
 ex:∃M,QH f S M∧M.length=k
 le:∀M,QH f S M→M.length≤k
theorem QH.nil{f:Nat→Nat→Bool}{S:Nat→Bool}:QH f S []:=⟨Yf,by simp[pY]⟩
theorem QH.mono{f:Nat→Nat→Bool}{S T:Nat→Bool}{M:List (Nat×Nat)}(h:QH f S M)(hs:∀x,S x=true→T x=true):QH f T M:=
 ⟨fun p hp=>⟨hs _ (h.fit p hp).1,hs _ (h.fit p hp).2.1,(h.fit p hp).2.2⟩,h.nd⟩
theorem IE.empty{f:Nat→Nat→Bool}{S:Nat→Bool}(h:∀x,S x=false):IE f S 0:=
 ⟨⟨[],QH.nil,rfl⟩,fun M hM=>by
  cases M with
  |nil=>exact bMH _
  |cons p l=>have:=(hM.fit p bLP).1;rw[h]at this;cases this⟩
theorem aNJ{M M':List (Nat×Nat)}(h:M'.Sublist M):(pY M').Sublist (pY M):=by
 unfold pY;induction h with
 |slnil=>exact bQW _
 |cons a _ ih=>rw[bMS];exact ih.trans (List.sublist_append_right _ _)
 |cons_cons a _ ih=>rw[bMS,bMS];exact(bQW _).append ih
def kO(S:Nat→Bool)(a:Nat):Nat→Bool:=fun x=>S x&&decide (x≠a)
theorem dM{S:Nat→Bool}{a x:Nat}:kO S a x=true ↔ S x=true∧x≠a:=by simp[kO]
theorem QH.drop{f:Nat→Nat→Bool}{S:Nat→Bool}{M:List (Nat×Nat)}{a:Nat}(h:QH f S M)(ha:a∉pY M):QH f (kO S a) M:=
 ⟨fun p hp=>⟨dM.2 ⟨(h.fit p hp).1,fun e=>ha (lS.2 ⟨p,hp,bMF e.symm⟩)⟩,dM.2 ⟨(h.fit p hp).2.1,fun e=>ha (lS.2 ⟨p,hp,bLY e.symm⟩)⟩,(h.fit p hp).2.2⟩,h.nd⟩
theorem QH.split{f:Nat→Nat→Bool}{S:Nat→Bool}{M:List (Nat×Nat)}{p:Nat×Nat}(h:QH f S M)(hp:p∈M):
  p.1≠p.2∧QH f (kO (kO S p.1) p.2) (M.erase p)∧(M.erase p).length+1=M.length:=by
 have hperm:=List.perm_cons_erase hp;have hnd:(pY (p::M.erase p)).Nodup:=((List.Perm.flatMap_right (fun p:Nat×Nat=>[p.1,p.2]) hperm).nodup_iff).1 h.nd;unfold pY at hnd;rw[bMS,bMB]at hnd;obtain⟨h1,h2,h3⟩:=hnd;have hne:p.1≠p.2:=by simpa using h1
 have hl:=List.length_erase_of_mem hp;have hpos:=List.length_pos_of_mem hp;refine⟨hne,⟨fun q hq=>?_,h2⟩,Yd⟩;have hq':=h.fit q (List.mem_of_mem_erase hq);have I:∀z,z=p.1∨z=p.2→∀x,x=q.1∨x=q.2→x≠z:=by
  intro z hz x hx e;have:=h3 z (by simpa using hz) x (lS.2 ⟨q,hq,hx⟩);exact this e.symm
 refine⟨dM.2 ⟨dM.2 ⟨hq'.1,I _ (bMF rfl) _ (bMF rfl)⟩,I _ (bLY rfl) _ (bMF rfl)⟩,dM.2 ⟨dM.2 ⟨hq'.2.1,I _ (bMF rfl) _ (bLY rfl)⟩,I _ (bLY rfl) _ (bLY rfl)⟩,hq'.2.2⟩
theorem QH.cons{f:Nat→Nat→Bool}{S:Nat→Bool}{M:List (Nat×Nat)}{a b:Nat}(h:QH f (kO (kO S a) b) M)(ha:S a=true)(hb:S b=true)(hne:a≠b)(hf:f a b=true):QH f S ((a,b)::M):=by
 refine⟨fun p hp=>?_,?_⟩
 ·rcases bLO.1 hp with rfl|hp
  ·exact⟨ha,hb,hf⟩
  ·obtain⟨h1,h2,h3⟩:=h.fit p hp;exact⟨(dM.1 (dM.1 h1).1).1,(dM.1 (dM.1 h2).1).1,h3⟩
 ·have hout:∀z,z=a∨z=b→z∉pY M:=by
   intro z hz hm;obtain⟨p,hp,hx⟩:=lS.1 hm;obtain⟨h1,h2,_⟩:=h.fit p hp;have h1':=dM.1 h1;have h2':=dM.1 h2;have h1'':=dM.1 h1'.1;have h2'':=dM.1 h2'.1;rcases hz with rfl|rfl<;>rcases hx with hx|hx
   ·exact h1''.2 hx.symm
   ·exact h2''.2 hx.symm
   ·exact h1'.2 hx.symm
   ·exact h2'.2 hx.symm
  unfold pY;rw[bMS];refine bMB.2 ⟨by simpa using hne,h.nd,fun x hx y hy e=>?_⟩;subst e;exact hout x Xat hy
theorem bDU{f:Nat→Nat→Bool}(hsym:∀a b,f a b=f b a){S:Nat→Bool}{a:Nat}(ha:S a=true){n:Nat}(hn:∀x,S x=true→x<n){U:Nat}(h0:IE f (kO S a) U){g:Nat→Nat}(hg:∀b,S b=true→b≠a→f a b=true→IE f (kO (kO S a) b) (g b)):
  IE f S (((List.range n).filter fun b=>(S b&&decide (b≠a))&&f a b).foldl (fun m b=>max m (1+g b)) U):=by
 have hle:∀(l:List Nat) (m:Nat),m≤l.foldl (fun m b=>max m (1+g b)) m∧∀b∈l,1+g b≤l.foldl (fun m b=>max m (1+g b)) m:=by
  intro l;induction l with
  |nil=>intro m;exact⟨bMH _,Yf⟩
  |cons x l ih=>
   intro m;rw[bMO];obtain⟨i1,i2⟩:=ih (max m (1+g x));refine⟨Yd,fun b hb=>?_⟩;rcases bLO.1 hb with rfl|hb
   ·omega
   ·exact i2 b hb
 have hex:∀(l:List Nat) (m:Nat),l.foldl (fun m b=>max m (1+g b)) m=m∨∃b∈l,l.foldl (fun m b=>max m (1+g b)) m=1+g b:=by
  intro l;induction l with
  |nil=>intro m;exact bMF rfl
  |cons x l ih=>
   intro m;rw[bMO];rcases ih (max m (1+g x))with h|⟨b,hb,h⟩
   ·rw[h];by_cases hm:m≤1+g x
    ·exact bLY ⟨x,bLP,Yd⟩
    ·exact bMF Yd
   ·exact bLY ⟨b,LE _ hb,h⟩
 refine⟨?_,fun M hM=>?_⟩
 ·rcases hex ((List.range n).filter fun b=>(S b&&decide (b≠a))&&f a b) U with h|⟨b,hb,h⟩
  ·obtain⟨M,hM,he⟩:=h0.ex;exact⟨M,hM.mono fun x hx=>(dM.1 hx).1,by rw[h,he]⟩
  ·rw[bOZ]at hb;simp only[bLQ,LT]at hb;obtain⟨_,⟨I,O⟩,R⟩:=hb;obtain⟨M,hM,he⟩:=(hg b I O R).ex;exact⟨(a,b)::M,hM.cons ha I (fun e=>O e.symm) R,by rw[h,bLU,he];omega⟩
 ·obtain⟨i1,i2⟩:=hle ((List.range n).filter fun b=>(S b&&decide (b≠a))&&f a b) U;by_cases hin:a∈pY M
  ·obtain⟨p,hp,hx⟩:=lS.1 hin;obtain⟨hne,hMe,hlen⟩:=hM.split hp;obtain⟨p1,p2⟩:=p;obtain⟨V,Y,Z⟩:=hM.fit _ hp;simp only at hx hne hMe V Y Z;rcases hx with rfl|rfl
   ·have:=(hg p2 Y (fun e=>hne e.symm) Z).le _ hMe;have:=i2 p2 (bOZ.2 ⟨bNJ.2 (hn _ Y),by simp[Y,Z];exact fun e=>hne e.symm⟩)
    omega
   ·have hMe':QH f (kO (kO S a) p1) (M.erase (p1,a)):=hMe.mono fun x hx=>by
     have h1:=dM.1 hx;have h2:=dM.1 h1.1;exact dM.2 ⟨dM.2 ⟨h2.1,h1.2⟩,h2.2⟩
    have hf':f a p1=true:=by rw[hsym];exact Z
    have:=(hg p1 V hne hf').le _ hMe';have:=i2 p1 (bOZ.2 ⟨bNJ.2 (hn _ V),by simp[V,hf'];exact hne⟩)
    omega
  ·have:=h0.le _ (hM.drop hin);omega
def prs(n:Nat):Nat→Nat→List (List (Nat×Nat))
 |0,_=>[[]]
 |k+1,w=>if w.testBit (n-(k+1))then prs n k w else
   prs n k w++((List.range n).filter fun b=>decide (n-(k+1)<b)&& !w.testBit b).flatMap fun b=>(prs n k (w|||2^b)).map fun l=>(n-(k+1),b)::l
structure l6(n a w:Nat)(l:List (Nat×Nat)):Prop where
 at_:∀p∈l,a≤p.1∧p.1<p.2∧p.2<n∧w.testBit p.1=false∧w.testBit p.2=false
 nd:(pY l).Nodup
theorem OF(w b x:Nat):(w|||2^b).testBit x=(w.testBit x||decide (b=x)):=by
 rw[Nat.testBit_or,Nat.testBit_two_pow]
theorem l6.weak{n a a' w w':Nat}{l:List (Nat×Nat)}(h:l6 n a w l)(ha:a'≤a)(hw:∀x,w'.testBit x=true→w.testBit x=true):l6 n a' w' l:=by
 have key:∀x,w.testBit x=false→w'.testBit x=false:=fun x hx=>by
  cases e:w'.testBit x with
  |false=>rfl
  |true=>rw[hw _ e]at hx;cases hx
 refine⟨fun p hp=>?_,h.nd⟩;obtain⟨h1,h2,h3,h4,h5⟩:=h.at_ p hp;exact⟨Yd,h2,h3,key _ h4,key _ h5⟩
theorem y2{n:Nat}:∀(k w:Nat),k≤n→∀l∈prs n k w,l6 n (n-k) w l
 |0,w,_,l,hl=>by
  obtain rfl:l=[]:=by simpa [prs]using hl
  exact⟨Yf,by simp[pY]⟩
 |k+1,w,hk,l,hl=>by
  unfold prs at hl;split at hl
  ·exact(y2 k w Yd l hl).weak Yd fun x h=>h
  ·rename_i hw;rcases bMD.1 hl with hl|hl
   ·exact(y2 k w Yd l hl).weak Yd fun x h=>h
   ·obtain⟨b,hb,hl⟩:=bPE.1 hl;obtain⟨l',hl',rfl⟩:=GE.1 hl;rw[bOZ,bNJ]at hb;simp only[bLQ,LT,bOQ]at hb;obtain⟨hbn,hab,hbw⟩:=hb;have ih:=y2 k (w|||2^b) Yd l' hl';have hw':w.testBit (n-(k+1))=false:=by simpa using hw
    have out:∀x∈pY l',n-(k+1)<x∧x≠b:=fun x hx=>by
     obtain⟨p,hp,hxp⟩:=lS.1 hx;obtain⟨h1,h2,h3,h4,h5⟩:=ih.at_ p hp;rw[OF]at h4 h5;simp only[bNG,bLV]at h4 h5;rcases hxp with rfl|rfl
     ·exact⟨Yd,fun e=>h4.2 e.symm⟩
     ·exact⟨Yd,fun e=>h5.2 e.symm⟩
    refine⟨fun p hp=>?_,?_⟩
    ·rcases bLO.1 hp with rfl|hp
     ·exact⟨bMH _,hab,hbn,hw',hbw⟩
     ·obtain⟨h1,h2,h3,h4,h5⟩:=ih.at_ p hp;rw[OF]at h4 h5;simp only[bNG]at h4 h5;exact⟨Yd,h2,h3,h4.1,h5.1⟩
    ·unfold pY;rw[bMS];refine bMB.2 ⟨Yap,ih.nd,fun x hx y hy e=>?_⟩
     subst e;have:=out x hy;simp only[bLO,n4,bNV]at hx;omega
theorem CF{n:Nat}:∀(k w:Nat),k≤n→∀M,l6 n (n-k) w M→∃l∈prs n k w,∀p∈M,p∈l
 |0,w,_,M,hM=>by
  refine⟨[],by simp[prs],fun p hp=>?_⟩;have:=hM.at_ p hp;omega
 |k+1,w,hk,M,hM=>by
  have free:n-(k+1)∉pY M→∃l∈prs n k w,∀p∈M,p∈l:=fun hout=>
   CF k w Yd M ⟨fun p hp=>by
    obtain⟨h1,h2⟩:=hM.at_ p hp;have:p.1≠n-(k+1):=fun e=>hout (lS.2 ⟨p,hp,bMF e.symm⟩)
    exact⟨Yd,h2⟩,hM.nd⟩
  unfold prs;split
  ·rename_i hw;refine free fun hin=>?_
   obtain⟨p,hp,hx⟩:=lS.1 hin;obtain⟨h1,h2,h3,h4,h5⟩:=hM.at_ p hp;rcases hx with hx|hx
   ·rw[←hx,hw]at h4;cases h4
   ·rw[←hx,hw]at h5;cases h5
  ·by_cases hin:n-(k+1)∈pY M
   ·obtain⟨p,hp,hx⟩:=lS.1 hin;obtain⟨h1,h2,h3,h4,h5⟩:=hM.at_ p hp;have hx1:p.1=n-(k+1):=by omega
    have hperm:=List.perm_cons_erase hp;have hnd:(pY (p::M.erase p)).Nodup:=((List.Perm.flatMap_right (fun p:Nat×Nat=>[p.1,p.2]) hperm).nodup_iff).1 hM.nd;unfold pY at hnd;rw[bMS,bMB]at hnd;obtain⟨_,O,I⟩:=hnd;have apart:∀q∈M.erase p,∀z,z=q.1∨z=q.2→z≠p.1∧z≠p.2:=fun q hq z hz=>
     ⟨fun e=>I p.1 Yf z (lS.2 ⟨q,hq,hz⟩) e.symm,fun e=>I p.2 Yf z (lS.2 ⟨q,hq,hz⟩) e.symm⟩
    obtain⟨l,hl,hsub⟩:=CF (n:=n) k (w|||2^p.2) Yd (M.erase p) ⟨fun q hq=>by
     obtain⟨g1,g2,g3,g4,R⟩:=hM.at_ q (List.mem_of_mem_erase hq);have U:=apart q hq q.1 (bMF rfl);have a2:=apart q hq q.2 (bLY rfl);refine⟨Yd,g2,g3,?_,?_⟩
     ·rw[OF,g4];simpa using fun e=>U.2 e.symm
     ·rw[OF,R];simpa using fun e=>a2.2 e.symm,O⟩
    refine⟨p::l,GT _ (bPE.2 ⟨p.2,bOZ.2 ⟨bNJ.2 h3,?_⟩,GE.2 ⟨l,hl,?_⟩⟩),fun q hq=>?_⟩
    ·rw[←hx1,h5];simpa using h2
    ·rw[←hx1]
    ·by_cases e:q=p
     ·subst e;exact bLP
     ·exact LE _ (hsub q ((List.mem_erase_of_ne e).2 hq))
   ·obtain⟨l,hl,hs⟩:=free hin;exact⟨l,bMA _ hl,hs⟩
theorem rR{α:Type}[DecidableEq α]:∀{l m:List α},l.Nodup→(∀x∈l,x∈m)→l.length≤m.length
 | [],m,_,_=>bRB _
 |x::l,m,hn,hs=>by
  have hx:=hs x bLP;have h1:=bNP.1 hn;have:=rR (l:=l) (m:=m.erase x) h1.2 fun y hy=>(List.mem_erase_of_ne fun e:y=x=>h1.1 (e▸hy)).2 (hs y (LE _ hy))
  have h2:=List.length_erase_of_mem hx;have h3:=List.length_pos_of_mem hx;simp only[bLU];omega
theorem QZ{M:List (Nat×Nat)}(h:(pY M).Nodup):M.Nodup:=by
 induction M with
 |nil=>exact bNW
 |cons p M ih=>
  unfold pY at h;rw[bMS,bMB]at h;refine bNP.2 ⟨fun hp=>?_,ih h.2.1⟩;exact h.2.2 p.1 Yf p.1 (lS.2 ⟨p,hp,bMF rfl⟩) rfl
theorem LJ(M:List (Nat×Nat)):(pY (M.map fun p=>(min p.1 p.2,max p.1 p.2))).Perm (pY M):=by
 induction M with
 |nil=>exact List.Perm.refl _
 |cons p M ih=>
  unfold pY at ih ⊢
  rw[bMT,bMS,bMS];refine List.Perm.append ?_ ih;rcases Nat.le_total p.1 p.2 with h|h
  ·rw[bPH h,Nat.max_eq_right h]
  ·rw[Nat.min_eq_right h,Nat.max_eq_left h];exact List.Perm.swap ..
def aFT(f:Nat→Nat→Bool)(l:List (Nat×Nat)):Nat:=(l.filter fun p=>f p.1 p.2).length
theorem aPF{f:Nat→Nat→Bool}(hsym:∀a b,f a b=f b a){S:Nat→Bool}{n k:Nat}(hS:∀a b,f a b=true→S a=true∧S b=true)(hn:∀x,S x=true→x<n)(hk:IE f S k):
  ((prs n n 0).map (aFT f)).foldl max 0=k:=by
 have hle:∀(l:List Nat) (m c:Nat),m≤c→(∀x∈l,x≤c)→l.foldl max m≤c:=by
  intro l;induction l with
  |nil=>intro m c h _;exact h
  |cons x l ih=>intro m c h hx;rw[bMO];exact ih _ _ (by have:=hx x bLP;omega) fun y hy=>hx y (LE _ hy)
 have hge:∀(l:List Nat) (m:Nat),m≤l.foldl max m∧∀x∈l,x≤l.foldl max m:=by
  intro l;induction l with
  |nil=>intro m;exact⟨bMH _,Yf⟩
  |cons x l ih=>
   intro m;rw[bMO];obtain⟨I,i2⟩:=ih (max m x);refine⟨Yd,fun y hy=>?_⟩;rcases bLO.1 hy with rfl|hy
   ·omega
   ·exact i2 y hy
 apply Nat.le_antisymm
 ·refine hle _ _ _ (bRB _) fun x hx=>?_
  obtain⟨l,hl,rfl⟩:=GE.1 hx;have ok:=y2 n 0 (bMH _) l hl;refine hk.le (l.filter fun p=>f p.1 p.2) ⟨fun p hp=>?_,ok.nd.sublist (aNJ List.filter_sublist)⟩;have:=(bOZ.1 hp).2;exact⟨(hS _ _ this).1,(hS _ _ this).2,this⟩
 ·obtain⟨M,hM,rfl⟩:=hk.ex;have hne:∀p∈M,p.1≠p.2:=fun p hp=>(hM.split hp).1
  obtain⟨l,hl,hs⟩:=CF n 0 (bMH _) (M.map fun p=>(min p.1 p.2,max p.1 p.2)) ⟨fun p hp=>by
   obtain⟨q,hq,rfl⟩:=GE.1 hp;have h1:=hn _ (hM.fit q hq).1;have h2:=hn _ (hM.fit q hq).2.1;have h3:=hne q hq;exact⟨Yd,Yn,Yn,Yf,Yf⟩,by
    exact(LJ M).nodup_iff.2 hM.nd⟩
  refine bOB ?_ ((hge _ 0).2 (aFT f l) (GE.2 ⟨l,hl,rfl⟩));have hnd:(M.map fun p=>(min p.1 p.2,max p.1 p.2)).Nodup:=QZ (by
    exact(LJ M).nodup_iff.2 hM.nd)
  have:=rR hnd (m:=l.filter fun p=>f p.1 p.2) fun p hp=>by
   refine bOZ.2 ⟨hs p hp,?_⟩;obtain⟨q,hq,rfl⟩:=GE.1 hp;have hf:=(hM.fit q hq).2.2;rcases Nat.le_total q.1 q.2 with h|h
   ·simp only[bPH h,Nat.max_eq_right h];exact hf
   ·simp only[Nat.min_eq_right h,Nat.max_eq_left h];rw[hsym];exact hf
  simpa [aFT]using this
theorem AL{m a:Nat}(h:m.testBit a=true):pR m (2^a)<m:=by
 have h1:=H5 m (2^a);have h2:pR m (2^a)≠m:=fun e=>by
  have:=Q4 m (2^a) a;rw[e,h,Nat.testBit_two_pow_self]at this;cases this
 omega
theorem HB(m a i:Nat):(pR m (2^a)).testBit i=(m.testBit i&& !decide (a=i)):=by
 rw[Q4,Nat.testBit_two_pow]
def low(m:Nat):Nat:=((List.range m).find? fun i=>m.testBit i).getD 0
theorem yN{m:Nat}(h:m≠0):m.testBit (low m)=true∧∀i,i<low m→m.testBit i=false:=by
 obtain⟨i,hi⟩:=Nat.exists_testBit_of_ne_zero h;have him:i<m:=bOI Nat.lt_two_pow_self (Nat.ge_two_pow_of_testBit hi);unfold low;cases hf:(List.range m).find? fun i=>m.testBit i with
 |none=>
  have:=List.find?_eq_none.1 hf i (bNJ.2 him);exact absurd hi this
 |some j=>
  have h1:=List.find?_some hf;refine⟨h1,fun k hk=>?_⟩;simp only[bPK]at hk;obtain⟨_,I,O,hab,hno⟩:=List.find?_eq_some_iff_append.1 hf;have hjm:j<m:=bNJ.1 (List.mem_of_find?_eq_some hf);have hlen:I.length=j:=by
   have h2:(List.range m)[I.length]?= some j:=by rw[hab,bOV (bMH _)];simp
   have hl:I.length<m:=by
    have:=bLZ List.length hab;simp at this;omega
   rw[bPW hl]at h2;exact bMQ h2
  have hkm:(List.range m)[k]?= some k:=bPW Yd;rw[hab,bNX Yd]at hkm;have:=hno k (n5 hkm);simpa using this
def fB(F:List Nat)(a b:Nat):Bool:=(F.getD a 0).testBit b
def vL(F:List Nat)(rest a:Nat)(nu:Nat→Nat)(m b:Nat):Nat:=if(rest&&&F.getD a 0).testBit b=true then max m (1+nu (pR rest (2^b)))else m
def aVT(F:List Nat)(n:Nat):Nat→Nat→Nat
 |0,_=>0
 |k+1,m=>if m=0 then 0 else(List.range n).foldl (vL F (pR m (2^low m)) (low m) (aVT F n k)) (aVT F n k (pR m (2^low m)))
def BK(F:List Nat)(n m:Nat):Nat:=aVT F n m m
theorem wV{α β:Type}{f g:β→α→β}:∀{l:List α} {b:β},(∀b,∀a∈l,f b a=g b a)→l.foldl f b=l.foldl g b
 | [],_,_=>rfl
 |x::l,b,h=>by
  rw[bMO,bMO,h b x bLP];exact wV fun b a ha=>h b a (LE _ ha)
theorem o8{F:List Nat}{n:Nat}:∀(k m l:Nat),m≤k→m≤l→aVT F n k m=aVT F n l m
 |0,m,l,h,_=>by
  obtain rfl:m=0:=by omega
  cases l<;>simp[aVT]
 |k+1,m,0,_,h=>by
  obtain rfl:m=0:=by omega
  simp[aVT]
 |k+1,m,l+1,h,h'=>by
  simp only[aVT];by_cases hm:m=0
  ·rw[bMG hm,bMG hm]
  ·rw[bLX hm,bLX hm];have hlt:=AL (yN hm).1;have e0:=o8 (F:=F) (n:=n) k (pR m (2^low m)) l Yd Yd;rw[e0];refine wV fun b a _=>?_
   unfold vL;split
   ·have:=H5 (pR m (2^low m)) (2^a);rw[o8 k (pR (pR m (2^low m)) (2^a)) l Yd Yd]
   ·rfl
theorem TM{F:List Nat}{n:Nat}:BK F n 0=0:=rfl
theorem MP{F:List Nat}{n m:Nat}(h:m≠0):BK F n m=(List.range n).foldl (vL F (pR m (2^low m)) (low m) (BK F n)) (BK F n (pR m (2^low m))):=by
 have hlt:=AL (yN h).1;obtain⟨k,rfl⟩:∃k,m=k+1:=⟨m-1,Yd⟩
 show aVT F n (k+1) (k+1)=_;rw[aVT,bLX h];rw[o8 k (pR (k+1) (2^low (k+1))) (pR (k+1) (2^low (k+1))) Yd (bMH _)];refine wV fun b a _=>?_
 unfold vL;split
 ·have:=H5 (pR (k+1) (2^low (k+1))) (2^a);rw[o8 k (pR (pR (k+1) (2^low (k+1))) (2^a)) _ Yd (bMH _)];rfl
 ·rfl
theorem xT{α β:Type}{f:β→α→β}{p:α→Bool}:∀{l:List α} {b:β},(l.filter p).foldl f b=l.foldl (fun b a=>if p a=true then f b a else b) b
 | [],_=>rfl
 |x::l,b=>by
  rw[bOA,bMO];split
  ·rw[bMO];exact xT
  ·exact xT
theorem YD{F:List Nat}{n:Nat}(hsym:∀a b,fB F a b=fB F b a):∀(k m:Nat),m≤k→(∀x,m.testBit x=true→x<n)→IE (fB F) m.testBit (BK F n m)
 |k,m,hk,hn=>by
  by_cases hm:m=0
  ·subst hm;exact IE.empty fun x=>Nat.zero_testBit x
  ·have hlow:=yN hm;have hlt:=AL hlow.1;obtain⟨k',rfl⟩:∃k',k=k'+1:=⟨k-1,Yd⟩
   have I:∀m a:Nat,(pR m (2^a)).testBit=kO m.testBit a:=fun m a=>by
    funext x;rw[HB];unfold kO
    by_cases h:a=x
    ·subst h;simp
    ·have h':x≠a:=fun e=>h e.symm
     simp[h,h']
   have i0:=YD hsym k' (pR m (2^low m)) Yd fun x hx=>hn x (by rw[HB]at hx;simp at hx;exact hx.1)
   rw[I]at i0;have ig:∀b,m.testBit b=true→b≠low m→fB F (low m) b=true→IE (fB F) (kO (kO m.testBit (low m)) b) (BK F n (pR (pR m (2^low m)) (2^b))):=fun b _ _ _=>by
    have:=H5 (pR m (2^low m)) (2^b);have O:=YD hsym k' (pR (pR m (2^low m)) (2^b)) Yd fun x hx=>hn x (by rw[HB,HB]at hx;simp at hx;exact hx.1.1)
    rw[I,I]at O;exact O
   have key:=bDU hsym hlow.1 hn i0 ig;rw[xT]at key;rw[MP hm];have:(List.range n).foldl (vL F (pR m (2^low m)) (low m) (BK F n)) (BK F n (pR m (2^low m)))=(List.range n).foldl (fun k b=>if((m.testBit b&&decide (b≠low m))&&fB F (low m) b)=true then max k (1+BK F n (pR (pR m (2^low m)) (2^b)))else k) (BK F n (pR m (2^low m))):=by
    refine wV fun k b _=>?_
    unfold vL;rw[Nat.testBit_and,I];rfl
   rw[this];exact key
theorem aBT{F:List Nat}{rest a:Nat}{nu:Nat→Nat}:∀(l:List Nat) (m:Nat),l.foldl (vL F rest a nu) m=m∨∃b∈l,(rest&&&F.getD a 0).testBit b=true∧l.foldl (vL F rest a nu) m=1+nu (pR rest (2^b))
 | [],m=>bMF rfl
 |x::l,m=>by
  rw[bMO];rcases aBT l (vL F rest a nu m x)with h|⟨b,hb,hbit,h⟩
  ·rw[h];unfold vL;split
   ·rename_i hx;by_cases hm:m≤1+nu (pR rest (2^x))
    ·exact bLY ⟨x,bLP,hx,Yd⟩
    ·exact bMF Yd
   ·exact bMF rfl
  ·exact bLY ⟨b,LE _ hb,hbit,h⟩
theorem aDW{m b:Nat}(h:m≠0):pR (pR m (2^low m)) (2^b)<m:=Nat.lt_of_le_of_lt (H5 _ _) (AL (yN h).1)

def W4:List Int→List Pt
 |a::b::c::l=>⟨a,b,c⟩::W4 l
 |_=>[]
def kC(l:List Ch):List Int:=l.flatMap fun c=>c.parts.l
def oG(l:List Pt):List Int:=l.flatMap Pt.l
theorem vQ(p:Pt)(l:List Pt):oG (p::l)=p.a::p.b::p.c::oG l:=rfl
theorem aOS(l:List Pt):W4 (oG l)=l:=by
 induction l with
 |nil=>rfl
 |cons p l ih=>rw[vQ,W4,ih]
theorem qT(l:List Ch):(kC l).length=3*l.length:=by
 induction l with
 |nil=>rfl
 |cons c l ih=>unfold kC at ih ⊢;rw[bMS,bLT,ih,bLU];simp[Pt.l];omega
theorem MN(l:List Pt):(oG l).length=3*l.length:=by
 induction l with
 |nil=>rfl
 |cons c l ih=>rw[vQ];simp only[bLU,ih];omega
theorem ND:∀(n:Nat) (l:List Int),l.length=3*n→oG (W4 l)=l∧(W4 l).length=n
 |0,l,h=>by
  obtain rfl:l=[]:=bPD.1 Yd;exact⟨rfl,rfl⟩
 |n+1,l,h=>by
  match l,h with
  |a::b::c::l,h=>
   obtain⟨h1,h2⟩:=ND n l (by simp only[bLU]at h;omega);rw[W4,vQ];exact⟨by rw[h1],by rw[bLU,h2]⟩
def OH(y:bC):List (List Pt):=(C1.cE (kC y.chairs)).map W4
theorem zH:∀{l t:List Int},t∈C1.cE l ↔ t.length=l.length∧∀x∈l.zip t,xO x.1 x.2=true∧True
 | [],t=>by simp[C1.cE]
 |p::l,t=>by
  have ih:=fun t=> @zH l t
  cases t with
  |nil=>simp[C1.cE]
  |cons x t=>
   have:x::t∈C1.cE (p::l) ↔ ((p=2∨p=x)∧(x=0∨x=1))∧t∈C1.cE l:=by
    rw[show C1.cE (p::l)=(if p=2∨p=0 then(C1.cE l).map (0:: ·)else [])++(if p=2∨p=1 then(C1.cE l).map (1:: ·)else [])from rfl,bMD];constructor
    ·rintro(h|h)
     ·split at h
      ·rename_i hp;obtain⟨s,hs,he⟩:=GE.1 h;obtain⟨rfl,rfl⟩:=List.cons.inj he;exact⟨⟨hp,bMF rfl⟩,hs⟩
      ·cases h
     ·split at h
      ·rename_i hp;obtain⟨s,hs,he⟩:=GE.1 h;obtain⟨rfl,rfl⟩:=List.cons.inj he;exact⟨⟨hp,bLY rfl⟩,hs⟩
      ·cases h
    ·rintro⟨⟨hp,rfl|rfl⟩,ht⟩
     ·exact bMF (by rw[bMG hp];exact GE.2 ⟨t,ht,rfl⟩)
     ·exact bLY (by rw[bMG hp];exact GE.2 ⟨t,ht,rfl⟩)
   rw[this,ih];simp only[bLU,bPM,bLO,and_true,forall_eq_or_imp,Nat.add_right_cancel_iff];have:xO p x=true ↔ (p=2∨p=x)∧(x=0∨x=1):=by
    unfold xO;simp only[bLQ,bN,bMU,LT];constructor
    ·rintro⟨h1,h2⟩;exact⟨h2.imp id Eq.symm,Yd⟩
    ·rintro⟨h1,h2⟩;exact⟨Yd,h1.imp id Eq.symm⟩
   rw[this];constructor
   ·rintro⟨h1,h2,h3⟩;exact⟨h2,h1,h3⟩
   ·rintro⟨h2,h1,h3⟩;exact⟨h1,h2,h3⟩
theorem GK:∀{l:List Ch} {t:List Pt},t.length=l.length→(∀x∈(kC l).zip (oG t),xO x.1 x.2=true)=((l.zip t).all fun x=>S4 x.1.parts x.2)
 | [],[],_=>by simp[kC,oG]
 |c::l,p::t,h=>by
  have ih:=GK (l:=l) (t:=t) Yax;rw[bPM,bPS,bLQ,←ih];rw[vQ,show kC (c::l)=c.parts.a::c.parts.b::c.parts.c::kC l from rfl];simp only[bPM,bLO,forall_eq_or_imp,S4,Pt.l,List.zip_nil_left,bPS,List.all_nil,Bool.and_true,bLQ,and_assoc]
theorem RR{y:bC}{t:List Pt}:t∈OH y ↔ eO y t=true:=by
 unfold OH eO;rw[GE,bLQ,LT];constructor
 ·rintro⟨s,hs,rfl⟩;obtain⟨h1,h2⟩:=zH.1 hs;rw[qT]at h1;obtain⟨g1,g2⟩:=ND _ _ h1;refine⟨g2,?_⟩;rw[←GK g2,g1];exact fun x hx=>(h2 x hx).1
 ·rintro⟨h1,h2⟩;refine⟨oG t,zH.2 ⟨by rw[qT,MN,h1],fun x hx=>⟨?_,bRD⟩⟩,aOS t⟩;rw[←GK h1]at h2;exact h2 x hx
end Go.Fs.C7
namespace Go.Fs
open Go.Proofs Tryz
namespace L7
open C7
def HT(n:Nat)(M:List (xI 8×Int)):Prop:=∀p∈M,∃(m:Nat) (F:List Nat),p.1.l=(m:Int)::F.map (fun x:Nat=>(x:Int))∧p.2=(BK F n m:Int)
theorem AB:∀{F G:List Nat},F.map (fun x:Nat=>(x:Int))=G.map (fun x:Nat=>(x:Int))→F=G
 | [],[],_=>rfl
 |x::F,y::G,h=>by
  rw[bMT,bMT,bOH]at h;rw[AB h.2,show x=y by omega]
theorem bBG{n m:Nat}{a0 I a2 a3 a4 a5 O:Nat}{M:List (xI 8×Int)}{v:Int}{h:[(m:Int),a0,I,a2,a3,a4,a5,O].length=8}(hok:HT n M)(hm:(⟨[(m:Int),a0,I,a2,a3,a4,a5,O],h⟩,v)∈M):v=(BK [a0,I,a2,a3,a4,a5,O] n m:Int):=by
 obtain⟨m',F,h1,h2⟩:=hok _ hm;simp only[bOH]at h1;obtain⟨h0,h1⟩:=h1;have:F=[a0,I,a2,a3,a4,a5,O]:=AB (by rw[←h1];rfl)
 rw[this,show m'=m by omega]at h2;exact h2
theorem bAO{n m:Nat}{a0 I a2 a3 a4 a5 O:Nat}{M M':List (xI 8×Int)}{v:Int}{h:[(m:Int),a0,I,a2,a3,a4,a5,O].length=8}(hok:HT n M)(hm:∀p∈M',p∈M∨p=(⟨[(m:Int),a0,I,a2,a3,a4,a5,O],h⟩,v))(hv:v=(BK [a0,I,a2,a3,a4,a5,O] n m:Int)):HT n M':=fun p hp=>by
 rcases hm p hp with h1|rfl
 ·exact hok p h1
 ·exact⟨m,[a0,I,a2,a3,a4,a5,O],rfl,hv⟩
theorem HT.nil{n:Nat}:HT n []:=fun p hp=>by cases hp
theorem NX{m n:Nat}(h:∀x,m.testBit x=true→x<n)(hn:n≤7):m<128:=by
 have:m<2^n:=by
  apply Nat.lt_pow_two_of_testBit;intro i hi;cases e:m.testBit i with
  |false=>rfl
  |true=>have:=h i e;omega
 have h2:2^n≤2^7:=bNQ Yd hn;omega
theorem FD{m n a:Nat}(h:∀x,m.testBit x=true→x<n):∀x,(pR m (2^a)).testBit x=true→x<n:=fun x hx=>h x (by rw[HB]at hx;simp at hx;exact hx.1)
theorem CM{k:Nat}(h:k<7):2^k<128:=by
 have:2^k<2^7:=Nat.pow_lt_pow_right Yd h;omega
theorem bFS{F:List Nat}(h:∀f∈F,f<128)(a:Nat):F.getD a 0<128:=by
 rw[bNR];cases e:F[a]? with
 |none=>simp
 |some x=>exact h x (n5 e)
theorem aVE(a0 I a2 a3 a4 a5 O:Nat){a:Nat}(h:a<7):([qI (a0:Int),qI (I:Int),qI (a2:Int),qI (a3:Int),qI (a4:Int),qI (a5:Int),qI (O:Int)]:List Γ)[a*1]?= some (qI (([a0,I,a2,a3,a4,a5,O].getD a 0:Nat):Int)):=by
 have e:a=0∨a=1∨a=2∨a=3∨a=4∨a=5∨a=6:=by omega
 rcases e with rfl|rfl|rfl|rfl|rfl|rfl|rfl<;>rfl
theorem YN(F:List Nat)(n:Nat):∀m,BK F n m≤m:=by
 intro m;induction m using Nat.strongRecOn with
 |_ m ih=>
  by_cases hm:m=0
  ·subst hm;rw[TM];exact bMH _
  ·have hlt:=AL (yN hm).1;rcases aBT (F:=F) (rest:=pR m (2^low m)) (a:=low m) (nu:=BK F n) (List.range n) (BK F n (pR m (2^low m)))with h|⟨b,_,_,h⟩
   ·rw[MP hm,h];have:=ih _ hlt;omega
   ·rw[MP hm,h];have h2:=aDW (b:=b) hm;have:=ih _ h2;omega
def aML(F:List Nat)(n m k:Nat):Nat:=(List.range k).foldl (vL F (pR m (2^low m)) (low m) (BK F n)) (BK F n (pR m (2^low m)))
theorem aVN{F:List Nat}{n m:Nat}(h:m≠0):BK F n m=aML F n m n:=MP h
theorem aWB{F:List Nat}{n m k:Nat}(h:(pR m (2^low m)&&&F.getD (low m) 0).testBit k=true):aML F n m (k+1)=max (aML F n m k) (1+BK F n (pR (pR m (2^low m)) (2^k))):=by
 have e:aML F n m (k+1)=vL F (pR m (2^low m)) (low m) (BK F n) (aML F n m k) k:=by unfold aML;rw[bND,bNM,bMO,List.foldl_nil]
 rw[e];unfold vL;rw[bMG h]
theorem bFB{F:List Nat}{n m k:Nat}(h:(pR m (2^low m)&&&F.getD (low m) 0).testBit k=false):aML F n m (k+1)=aML F n m k:=by
 have e:aML F n m (k+1)=vL F (pR m (2^low m)) (low m) (BK F n) (aML F n m k) k:=by unfold aML;rw[bND,bNM,bMO,List.foldl_nil]
 rw[e];unfold vL;rw[bLX Ybh]
theorem IT{wb mb t cl:Nat}{cs:List Γ}{es:Array MapEntry}:∀p∈[(wb,Obj.cells cs.toArray t (0,0)),(mb,.map es cl)],dE p.2:=by
 intro p hp;simp only[bLO,n4,bNV]at hp;rcases hp with rfl|rfl
 ·rfl
 ·trivial
theorem aMX:KA prog 389 7:=⟨(prog.fieldsOf 389)[0]!,(prog.fieldsOf 389)[1]!,3,Yg,Yg,Yg,Xaa,Xaa,Yg,Yg,Yg,Yg,Yg,Yg,by rw[show((prog.fieldsOf 389)[1]!).type=325 by kernel_rfl];exact Y5,by rw[show((prog.fieldsOf 389)[1]!).type=325 by kernel_rfl];exact zP,aI⟩
theorem aRG(wb mb:Nat)(cv qv:Γ)(fit:Int)(chs:List Ch)(a0 O a2 a3 a4 a5 R:Nat)(hN:chs.length≤7)(hF:∀f∈[a0,O,a2,a3,a4,a5,R],f<128):
  ∀(L m:Nat),m=L→(∀x,m.testBit x=true→x<chs.length)→∀(es:Array MapEntry) (clock:Nat) (M:List (xI 8×Int)) (D:aC),Sl D zS 4 cv chs→I7 BH es M→HT chs.length M→
  HO prog 253 [qP wb,.agg #[qI (m:Int),qI (a0:Int),qI (O:Int),qI (a2:Int),qI (a3:Int),qI (a4:Int),qI (a5:Int),qI (R:Int)]] D [(wb,qC [cv,qI fit,qv,.map (some mb)] 319),(mb,.map es clock)] (fun _ v ν'=>v=qI (BK [a0,O,a2,a3,a4,a5,R] chs.length m:Int)∧∃es' clock' M',ν'=[(wb,qC [cv,qI fit,qv,.map (some mb)] 319),(mb,.map es' clock')]∧I7 BH es' M'∧HT chs.length M'):=by
 intro L;induction L using Nat.strongRecOn with
 |_ L ih=>
 intro m hL hbits es clock M D hS hM hok;subst hL;have hl1:=hS.len;have hmb:=NX hbits hN;refine jF 78 func253 rfl rfl rfl rfl fun h0 hwl hwn=>aA<|Zy rfl fun q1 E1 hE1 I=>Zf rfl<|bG<|Zj rfl x8 rfl<|Zh 0 rfl aH rfl I rfl<|Zap rfl<|aF<|Zaf rfl (fun hc1=>?_) fun hc1=>?_
 ·refine aA<|Wi ?_;exact Zai [] [] [_,_] [_] rfl ⟨rfl,bRD⟩ rfl fun D hD=>⟨by show Value.int _ _=_;rw[show m=0 by omega,TM];rfl,es,clock,M,rfl,hM,hok⟩
 ·have Z:m≠0:=by omega
  have hlow:=yN Z;have hlown:=hbits _ hlow.1;have V:low m<7:=by omega
  have hp2:=CM V;have hlt:=AL hlow.1;have hrest:=H5 m (2^low m);refine aQ<|Za2<|Za2<|bS [] 6 11 784<|Za rfl<|Zal rfl<|Zj rfl JV rfl<|Zo rfl aBX rfl Mm0 rfl<|Zv rfl aFF rfl I aCR<|aLL (val:=BH (n:=8)) (a:=⟨[(m:Int),(a0:Int),(O:Int),(a2:Int),(a3:Int),(a4:Int),(a5:Int),(R:Int)],rfl⟩) rfl U317 aMX.key cO rfl rfl Mm1 n4 hM rfl bRD fun nv ok hmem=>Za rfl<|Zao rfl ?_;refine Zao rfl<|Zf rfl<|Zf rfl<|aJ<|Za rfl<|aF<|Zag rfl (fun hc2=>?_) fun hc2=>?_
  ·subst hc2;refine aA<|Za rfl<|Wi ?_;exact Zai [] [] [_,_] [_] rfl ⟨rfl,bRD⟩ rfl fun D hD=>⟨by show Value.int _ _=_;rw[bBG hok (hmem rfl)],es,clock,M,rfl,hM,hok⟩
  ·refine aQ<|aA<|Zj rfl x8 rfl<|Zh 0 rfl aH rfl I rfl<|Zd rfl (fun D1 hD1=>aIL m (low m) _ hlow.1 Yd hlow.2)<|Zf rfl<|bW<|bS [] 2 6 12<|Zj rfl x8 rfl<|Zh 0 rfl aH rfl I rfl<|Za rfl<|GU rfl rfl rfl Yd rfl bRD ?_;refine aMQ rfl rfl rfl Yd Yd rfl bRD<|Zf rfl<|aJ<|Za rfl<|Za rfl<|Zj rfl s9 rfl<|dY rfl (k:=1) (us:=[qI (a0:Int),qI (O:Int),qI (a2:Int),qI (a3:Int),qI (a4:Int),qI (a5:Int),qI (R:Int)]) Y5 zP rfl I Yc rfl rfl n4 rfl bRD<|iB (cs:=[qI ((pR m (2^low m):Nat):Int),qI (a0:Int),qI (O:Int),qI (a2:Int),qI (a3:Int),qI (a4:Int),qI (a5:Int),qI (R:Int)]) rfl PO OR rfl Yg rfl bRD<|gH (A:=[]) (ν:=[(_,_),(_,_)]) (B:=[]) rfl rfl rfl rfl (bMF rfl) (IT (cs:=[_,_,_,_])) (fun D5 hO=>ih _ hlt _ rfl (FD hbits) es clock M D5 (hS.up zS.up (hO _ Yf)) hM hok) rfl bRD fun v5 D6 _ hD6 hp5=>?_;obtain⟨rfl,hP,hR,M4,rfl,hX,hE⟩:=hp5;refine Zf rfl<|bG<|Za rfl<|Zal rfl<|Zj rfl R5 rfl<|Zj rfl iH rfl<|Zo rfl pE rfl Mm0 rfl<|Zah rfl U84 rfl hS rfl<|Za rfl<|aF<|Za0<|Zc (Nat×Array MapEntry×Nat×List (xI 8×Int)) (fun g=>chs.length-g.1) (fun g=>g.1≤chs.length∧I7 BH g.2.1 g.2.2.2∧HT chs.length g.2.2.2) (fun g=>[(45,qI (g.1:Int)),(9,qI (aML [a0,O,a2,a3,a4,a5,R] chs.length m g.1:Int))]) [(44,_),(8,_),(7,_),(4,_),(3,_),(0,_)] (fun g=>[(wb,qC [cv,qI fit,qv,.map (some mb)] 319),(mb,.map g.2.1 g.2.2.1)]) (fun g=>[D6,E1,D]) (0,hP,hR,M4) ⟨Yf,hX,hE⟩ ⟨Ya,Ya,bRD⟩ Mm5 ?_;rintro⟨k,hH,hI,M1⟩ ⟨h1,hB,U⟩;simp only at h1 hB U;refine aA<|Zam rfl<|bW<|Zaf rfl (fun hc3=>?_) (fun hc3=>?_)
   ·have hk:k<chs.length:=by omega
    have hpk:=CM (show k<7 by omega);have hrow:=bFS hF (low m);have hdl:=H5 (pR m (2^low m)) (2^k);have hnl:=YN [a0,O,a2,a3,a4,a5,R] chs.length (pR (pR m (2^low m)) (2^k));have hand:=Nat.and_le_left (n:=pR m (2^low m)) (m:=[a0,O,a2,a3,a4,a5,R].getD (low m) 0);refine aQ<|Za2<|Za0<|aA<|Za rfl<|Zf rfl<|aJ<|Za rfl<|Za rfl<|Zj rfl s9 rfl<|eX rfl U325 aI rfl rfl Yd Yd rfl bRD<|dW (o:=0+1) (k:=low m*1) rfl aH rfl I.tail Yf (aVE a0 O a2 a3 a4 a5 R V) n4 rfl bRD ?_;refine aUP rfl rfl rfl Yd Yd rfl bRD<|Za rfl<|V3 rfl rfl rfl Yd rfl bRD<|yJ rfl rfl rfl (bQG _) Yd Xch rfl bRD<|Zap rfl<|aF<|Zaf rfl (fun Y=>?_) fun Y=>?_
    ·have hbit:(pR m (2^low m)&&& [a0,O,a2,a3,a4,a5,R].getD (low m) 0).testBit k=true:=by rw[mH]at Y;simpa using Y
     refine fD I Yf fun hJ=>?_;have hJ:q1∉[wb,mb]:=hJ;refine iK [wb,mb] 6 [0,1,2,3,4,5,6,7,8,9,10,11,12] [false,true,true,true,true,true,true,true,true,true,true,false,false] [(false,0),(true,1),(true,2),(true,3),(true,4),(true,5),(true,6),(true,7),(true,8),(true,9),(true,10),(false,11),(false,12)] bB (fun _ _ _ h=>jV (P:=prog) (fn:=f253) _ _ _ h) Yg rfl<|Za rfl<|Za rfl<|Za rfl<|Za rfl<|GU rfl rfl rfl Yd rfl bRD<|aMQ rfl rfl rfl Yd Yn rfl bRD<|Zj rfl s9 rfl<|dY rfl (k:=1) (us:=[qI (a0:Int),qI (O:Int),qI (a2:Int),qI (a3:Int),qI (a4:Int),qI (a5:Int),qI (R:Int)]) Y5 zP rfl I Yc rfl rfl Ym rfl bRD<|iB (cs:=[qI ((pR (pR m (2^low m)) (2^k):Nat):Int),qI (a0:Int),qI (O:Int),qI (a2:Int),qI (a3:Int),qI (a4:Int),qI (a5:Int),qI (R:Int)]) rfl PO OR rfl Yg rfl bRD<|gH (A:=[]) (ν:=[(_,_),(_,_)]) (B:=[]) rfl rfl rfl rfl (bLY fun p hp=>GE.2 ⟨p,hp,rfl⟩) (IT (cs:=[_,_,_,_])) (fun D7 hY=>ih _ (aDW Z) _ rfl (FD (FD hbits)) hH hI M1 D7 (hS.up zS.up (hY _ Yf)) hB U) rfl bRD fun v7 D8 _ hD8 rA=>?_;obtain⟨rfl,rB,cl5,M5,rfl,hM5,hK⟩:=rA;refine Zae rfl<|nZ rfl rfl rfl rfl bRD<|Wan ?_;exact aL 30 (k+1,rB,cl5,M5) ⟨Yn,hM5,hK⟩ Yn ⟨Ya,(by rw[aWB hbit];show some (Value.int _ _)=some (Value.int _ _);congr 2;simp only;omega),bRD⟩ rfl rfl Mm5 fun D h=>⟨D,bMJ _ (h),Le.refl D⟩
    ·have hbit:(pR m (2^low m)&&& [a0,O,a2,a3,a4,a5,R].getD (low m) 0).testBit k=false:=by rw[mH]at Y;simpa using Y
     refine Wca ?_;exact aL 17 (k+1,hH,hI,M1) ⟨Yn,hB,U⟩ Yn ⟨Ya,(by rw[bFB hbit];rfl),bRD⟩ rfl rfl Mm5 (aK)
   ·obtain rfl:k=chs.length:=by omega
    refine Za5<|Za1<|Za1<|Za6<|Zay<|Za2<|bS [] 3 7 48<|Za rfl<|Zal rfl<|Zj rfl JV rfl<|Zo rfl aBX rfl Mm0 rfl<|Zv rfl aFF rfl I aCR ?_;refine Za rfl<|aGP (val:=BH (n:=8)) (A:=[(_,_)]) (B:=[]) (a:=⟨[(m:Int),(a0:Int),(O:Int),(a2:Int),(a3:Int),(a4:Int),(a5:Int),(R:Int)],rfl⟩) rfl U317 aMX.key rfl rfl rfl hB bRD fun es3 cl3 M3 hM3 hm3=>aJ<|Za rfl<|We ?_;exact Zai [] [] [_,_] [_] rfl ⟨rfl,bRD⟩ rfl fun D hD=>⟨by show Value.int _ _=_;rw[aVN Z],es3,cl3,M3,rfl,hM3,bAO U hm3 (by rw[aVN Z])⟩
structure VT(n:Nat)(s:Sc):Prop where
 len:s.fits.length=7
 row:∀f∈s.fits,f<128
 bits:∀x,s.broken.testBit x=true→x<n
 whole:s.whole≤7
def wP(n:Nat)(s:Sc):Nat:=s.whole+BK s.fits n s.broken
theorem bET{α:Type}{l:List α}(h:l.length=7):∃a b c d e f g,l=[a,b,c,d,e,f,g]:=by
 match l,h with
 | [a,b,c,d,e,f,g],_=>exact⟨a,b,c,d,e,f,g,rfl⟩
theorem P3{y:bC}{t:List Pt}(hl:t.length=y.chairs.length)(I:t.length≤7):VT y.chairs.length (dK y t):=by
 refine⟨by simp[dK],fun f hf=>?_,fun x hx=>?_,?_⟩
 ·obtain⟨j,_,rfl⟩:=GE.1 hf;have h1:=m3 (kG y t j) t.length;have h2:2^t.length≤2^7:=bNQ Yd I;omega
 ·simp only[dK]at hx;rw[oF]at hx;simp at hx;omega
 ·have:whole t≤t.length:=bNF _ _;simp only[dK];omega
def pI(l:List (Nat×Nat)):List (Int×Int):=l.map fun p=>((p.1:Int),(p.2:Int))
def SM(l:List (Int×Int)):List Γ:=l.flatMap fun p=>[qI p.1,qI p.2]
theorem QO(l:List (Int×Int))(p:Int×Int):SM (l++[p])=SM l++[qI p.1,qI p.2]:=by simp[SM]
theorem zQ(l:List (Int×Int)):(SM l).length=l.length*2:=by
 induction l with
 |nil=>rfl
 |cons c l ih=>unfold SM at ih ⊢;rw[bMS,bLT,ih];simp only[bLU,bNU];omega
theorem bBN{l:List (Int×Int)}{i:Nat}{c:Int×Int}(hi:l[i]?= some c):((SM l).drop (i*2)).take 2=[qI c.1,qI c.2]:=by
  induction l generalizing i with
  |nil=>simp at hi
  |cons d l ih=>
    unfold SM at ih ⊢
    rw[bMS];cases i with
    | zero => obtain rfl : d = c := by simpa using hi
              rfl
    |succ i=>
      rw[bPZ,bNK Yap,bMW];have:(i+1)*2- [Value.int .i64 d.1,Value.int .i64 d.2].length=i*2:=by simp;omega
      rw[this];exact ih Yas
theorem _root_.Go.Fs.kH.prs{D:aC}{v:Γ}{n:Nat}{l:List (Int×Int)}(hF:kH D v n (SM l))(hn:l.length=n)(hb:n≤9223372036854775807):Sl D R2 2 v l:=
 hF.sl hn hb fun _i _t hi=>⟨_,rfl,rfl,bBN hi⟩
theorem aRZ(wb mb:Nat)(cv qv:Γ)(fit:Int)(chs:List Ch)(w b:Nat)(a0 O a2 a3 a4 a5 R:Nat)(U:chs.length≤7)(hF:∀f∈[a0,O,a2,a3,a4,a5,R],f<128)(hw:w≤7)(hbits:∀x,b.testBit x=true→x<chs.length)(es:Array MapEntry)(clock:Nat)(M:List (xI 8×Int))(D:aC)(hS:Sl D zS 4 cv chs)(hM:I7 BH es M)(hok:HT chs.length M):
  HO prog 185 [qP wb,.agg #[qI (w:Int),qI ((b:Nat):Int),qI (a0:Int),qI (O:Int),qI (a2:Int),qI (a3:Int),qI (a4:Int),qI (a5:Int),qI (R:Int)]] D [(wb,qC [cv,qI fit,qv,.map (some mb)] 319),(mb,.map es clock)] (fun _ v ν'=>v=qI ((w+BK [a0,O,a2,a3,a4,a5,R] chs.length b:Nat):Int)∧∃es' clock' M',ν'=[(wb,qC [cv,qI fit,qv,.map (some mb)] 319),(mb,.map es' clock')]∧I7 BH es' M'∧HT chs.length M'):=by
 have hbl:=NX hbits U;have hnl:=YN [a0,O,a2,a3,a4,a5,R] chs.length b;refine jF 15 func185 rfl rfl rfl rfl fun h0 hwl hwn=>aA<|Zy rfl fun q1 E1 hI I=>Zf rfl<|bW<|fD I Yf fun V=>?_;have V:q1∉[wb,mb]:=V;refine iK [wb,mb] 4 [0,1,2,3,4,5,6,7,8,9,10] [false,false,true,true,true,true,true,true,true,false,false] [(false,0),(false,1),(true,2),(true,3),(true,4),(true,5),(true,6),(true,7),(true,8),(false,9),(false,10)] bB (fun _ _ _ h=>jV (P:=prog) (fn:=f185) _ _ _ h) Yg rfl<|Zj rfl O3 rfl<|dW rfl (k:=0) aH rfl I Yc rfl Ym rfl bRD<|Za rfl<|Zj rfl p7 rfl<|dW rfl (k:=1) aH rfl I Yc rfl Ym rfl bRD<|Zj rfl Q1 rfl<|dY rfl (k:=2) (us:=[qI (a0:Int),qI (O:Int),qI (a2:Int),qI (a3:Int),qI (a4:Int),qI (a5:Int),qI (R:Int)]) Y5 zP rfl I Yc rfl rfl Ym rfl bRD<|iB (cs:=[qI ((b:Nat):Int),qI (a0:Int),qI (O:Int),qI (a2:Int),qI (a3:Int),qI (a4:Int),qI (a5:Int),qI (R:Int)]) rfl PO OR rfl Yg rfl bRD<|gH (A:=[]) (ν:=[(_,_),(_,_)]) (B:=[]) rfl rfl rfl rfl (by first|exact Or.inl rfl|exact Or.inr fun p hp=>GE.2 ⟨p,hp,rfl⟩) (IT (cs:=[_,_,_,_])) (fun D5 Z=>aRG wb mb cv qv fit chs a0 O a2 a3 a4 a5 R U hF _ b rfl hbits es clock M D5 (hS.up zS.up (Z _ Yf)) hM hok) rfl bRD fun v5 D6 _ hJ hp5=>?_;obtain⟨rfl,hB,hE,M1,rfl,hH,Y⟩:=hp5;refine Zae rfl<|We ?_;exact Zai [] [] [_,_] [_] rfl ⟨rfl,bRD⟩ rfl fun D hD=>⟨by show Value.int _ _=_;congr 1,hB,hE,M1,rfl,hH,Y⟩
theorem bCC(wb mb:Nat)(cv qv:Γ)(fit:Int)(chs:List Ch)(s:Sc)(I:chs.length≤7)(hs:VT chs.length s)(es:Array MapEntry)(clock:Nat)(M:List (xI 8×Int))(D:aC)(hS:Sl D zS 4 cv chs)(hM:I7 BH es M)(hok:HT chs.length M):
  HO prog 185 [qP wb,aBB s] D [(wb,qC [cv,qI fit,qv,.map (some mb)] 319),(mb,.map es clock)] (fun _ v ν'=>v=qI (wP chs.length s:Int)∧∃es' clock' M',ν'=[(wb,qC [cv,qI fit,qv,.map (some mb)] 319),(mb,.map es' clock')]∧I7 BH es' M'∧HT chs.length M'):=by
 obtain⟨w,b,F⟩:=s;obtain⟨a0,O,a2,a3,a4,a5,R,rfl⟩:=bET hs.len;exact aRZ wb mb cv qv fit chs w b a0 O a2 a3 a4 a5 R I hs.row hs.whole hs.bits es clock M D hS hM hok
structure bEW(y:bC):Prop where
 len:y.chairs.length≤7
 cls:y.claims.length≤5
 fit:0≤y.fit∧y.fit≤9
 size:∀c∈y.chairs,0≤c.size∧c.size≤9
 part:∀c∈y.chairs,∀n∈c.parts.l,0≤n∧n≤2
 claim:∀r∈y.claims,0≤r.1∧r.1≤r.2∧r.2≤7
 unk:dH y.chairs≤8
theorem bKN{y:bC}(h:aX y=0):bEW y:=by
 unfold aX at h;split at h
 ·omega
 ·rename_i h1;split at h
  ·omega
  ·rename_i h2;split at h
   ·omega
   ·rename_i h3;have h4:zN y=true:=by simpa using h2
    simp only[zN,bLQ,bMK,bN]at h4;obtain⟨⟨h5,I⟩,O⟩:=h4;refine⟨Yd,Yd,h5,fun c hc=>?_,fun c hc n hn=>?_,fun r hr=>?_,Yd⟩
    ·have:=I c hc;simp only[kI,bLQ,bN]at this;exact this.1
    ·have:=I c hc;simp only[kI,bLQ,RW,bMK]at this
     exact bN.1 (this.2 n hn)
    ·have:=O r hr;simp only[mF,bLQ,LT]at this;exact⟨this.1.1,this.1.2,this.2⟩
theorem aEN{y:bC}{t:List Pt}(h:eO y t=true):t.length=y.chairs.length∧∀p∈t,wL p:=by
 unfold eO at h;simp only[bLQ,LT,bMK]at h;refine⟨h.1,fun p hp=>?_⟩;obtain⟨i,hi⟩:=bPP.1 hp;obtain⟨hlt,_⟩:=bLS.1 hi;have hc:y.chairs[i]?= some (y.chairs[i]'Yd):=bLR _;have:=h.2 (y.chairs[i]'Yd,p) (n5 (i:=i) (by rw[bQZ];exact⟨hc,hi⟩))
 simp only[S4,Pt.l,bPM,List.zip_nil_left,bPS,List.all_nil,Bool.and_true,bLQ,xO,bN]at this;exact⟨this.1.1,this.2.1.1,this.2.2.1⟩
def tI(cl:List (Int×Int))(out:List Int)(n:Int)(i:Nat):Bool:=(out.any fun x=>decide ((i:Int)=x))||(match cl[i]? with|some r=>gU n r.1 r.2|none=>true)
def pB(cl:List (Int×Int))(out:List Int)(n:Int):Bool:=(List.range cl.length).all (tI cl out n)
theorem aIE{cl:List (Int×Int)}{out:List Int}{n:Int}{i:Nat}{r:Int×Int}(hr:cl[i]?= some r)(h:((!out.any fun x=>decide ((i:Int)=x))&& !gU n r.1 r.2)=false):tI cl out n i=true:=by
 unfold tI;rw[hr];revert h
 cases out.any fun x=>decide ((i:Int)=x)<;>simp
theorem GB{cl:List (Int×Int)}{out:List Int}{n:Int}{i:Nat}{r:Int×Int}(hi:i<cl.length)(hr:cl[i]?= some r)(h:((!out.any fun x=>decide ((i:Int)=x))&& !gU n r.1 r.2)=true):pB cl out n=false:=by
 unfold pB;rw[bQV];refine⟨i,bNJ.2 hi,?_⟩;unfold tI;rw[hr];revert h
 cases out.any fun x=>decide ((i:Int)=x)<;>simp
theorem s5{cl:List (Int×Int)}{out:List Int}{n:Int}(h:∀j,j<cl.length→tI cl out n j=true):pB cl out n=true:=by
 unfold pB;rw[bMK];exact fun j hj=>h j (bNJ.1 hj)
def N1(y:bC)(t:List Pt):Nat:=wP y.chairs.length (dK y t)
theorem DD(yv:Γ)(y:bC)(cv qv:Γ)(D:aC)(hy:yv=.agg #[cv,qI y.fit,qv]):KH prog 109 #[yv] D (fun _ v ν=>∃wb mb,v=qP wb∧ν=[(wb,qC [cv,qI y.fit,qv,.map (some mb)] 319),(mb,.map #[] 0)]):=by
 subst hy;refine qR 7 func109 rfl rfl rfl rfl fun h0=>aA<|Zy rfl fun R E1 O I=>Zf rfl<|aJ<|Zv rfl mN rfl I lH<|zG rfl rfl bRD fun qm=>Zu [cv,qI y.fit,qv,.map (some qm)] rfl bDN aXX rfl<|FS rfl (e:=319) rfl rfl rfl bRD fun U=>We ?_
 exact aE rfl fun D hD=>⟨_,_,rfl,rfl⟩
theorem aMW(sv:Γ)(xs:List Int)(n:Int)(D:aC)(hS:Sl D RI 1 sv xs):Fn prog 242 #[sv,qI n] D (fun _ v=>v=qI (idxOf (fun x=>decide (n=x)) xs)):=by
 have hl:=hS.len;refine Zw 19 func242 rfl fun h0=>aA<|Zf rfl<|bG<|Za rfl<|eN rfl U35 rfl Yl rfl rfl bRD<|Za rfl<|aF<|Za0<|bK (γ:=Nat) (fun k=>xs.length-k) (fun k=>k≤xs.length∧(xs.take k).any (fun x=>decide (n=x))=false) (fun k=>[(8,qI k)]) [(7,_),(4,_),(0,_),(1,_)] (fun k=>[D]) 0 Yf ⟨Ya,bRD⟩ bQ (aK) ?_;rintro k ⟨h1,h2⟩;refine aA<|Zam rfl<|bW<|Zaf rfl (fun hc1=>?_) fun hc1=>?_
 ·have hk:k<xs.length:=by omega
  obtain⟨x,hx⟩:=cR xs k;refine aQ<|Za2<|Za0<|aA<|Za rfl<|Zf rfl<|aJ<|Za rfl<|Za rfl<|Za rfl<|eA rfl U35 aI rfl Yl rfl Yd Yl rfl bRD fun V Y I O U R=>?_;obtain rfl:I=[qI _]:=O;refine Zh 0 rfl aH rfl R rfl<|Zap rfl<|aF<|Zaf rfl (fun hc2=>?_) fun hc2=>?_
  ·refine Wbc ?_;exact aE rfl fun D hD=>by show Value.int _ _=_;rw[kY hx h2 (by simp[hc2])]
  ·refine Wca ?_;have h3:(xs.take (k+1)).any (fun x=>decide (n=x))=false:=by rw[bLW,hx,bPJ,h2];simp[hc2]
   exact aL 12 (k+1) ⟨Yd,h3⟩ Yd ⟨Ya,bRD⟩ rfl rfl Mm5 (aK)
 ·refine Wk ?_;exact aE rfl fun D hD=>Xah
theorem H4(sv:Γ)(xs:List Int)(n:Int)(D:aC)(hS:Sl D RI 1 sv xs):Fn prog 175 #[sv,qI n] D (fun _ v=>v=.bool (xs.any fun x=>decide (n=x))):=by
 refine Zw 9 func175 rfl fun h0=>aA<|Zf rfl<|aJ<|Za rfl<|Za rfl<|Zd rfl (fun O I=>aMW _ xs n _ (Sl.at RI.up I Yl Yf))<|Ww ?_;exact aE rfl fun D hD=>Xai
theorem HD(yv:Γ)(y:bC)(n:Int)(ov:Γ)(out:List Int)(D:aC)(hy:iR D yv y)(ho:Sl D RI 1 ov out):Fn prog 186 #[yv,qI n,ov] D (fun _ v=>v=.bool (pB y.claims out n)):=by
 obtain⟨cv,qv,rfl,hc,hq⟩:=hy;have hl:=hq.len;refine Zw 28 func186 rfl fun h0=>aA<|Zy rfl fun q1 E1 hE O=>Zf rfl<|bG<|Zj rfl nD rfl<|Zh 2 rfl L4 rfl O rfl<|Zah rfl U85 rfl hq rfl<|Za rfl<|aF<|Za0<|bK (γ:=Nat) (fun i=>y.claims.length-i) (fun i=>i≤y.claims.length∧∀j,j<i→tI y.claims out n j=true) (fun i=>[(12,qI (i:Int))]) [(11,_),(10,_),(6,_),(1,_),(2,_)] (fun i=>[E1,D]) 0 Yf ⟨Ya,bRD⟩ bQ (aK) ?_;rintro i ⟨h1,h2⟩;refine aA<|Zam rfl<|bW<|Zaf rfl (fun hc1=>?_) fun hc1=>?_
 ·have hi:i<y.claims.length:=by omega
  obtain⟨r,I⟩:=cR y.claims i;refine aQ<|Za2<|Za0<|aA<|Za rfl<|Zx rfl U85 cQ rfl hq rfl I fun b1 o1 R U hB V=>?_;obtain rfl:R=[qI _,qI _]:=U;refine Zv rfl nO rfl V cQ<|Zad rfl jS rfl fun q2=>Zf rfl<|Zz rfl cQ ζ<|aJ<|Za rfl<|Za rfl<|Zd rfl (fun D1 Y=>H4 _ out (i:Int) _ (Sl.at RI.up Y Yl Yf))<|Wbr ?_;refine' bU 5 (s:=21) (p:=26) rfl (fun Z=>?_) (fun Z=>?_) ?_;rotate_left
  ·refine bI rfl nO rfl Mm0 cQ n4 rfl ⟨_,rfl,rfl⟩<|Zb rfl<|Ze rfl (fun D2 hF=>HC r n _)<|Wcc ?_;exact aN 4
  ·refine Zg rfl<|Wb ?_;exact aN 4
  refine aF<|Zag rfl (fun hc2=>?_) fun hc2=>?_
  ·refine aA<|Wh ?_;exact aE rfl fun D hD=>by show Value.bool _=_;rw[GB hi I hc2]
  ·refine Wca ?_;exact aL 15 (i+1) ⟨Yd,fun j hj=>by rcases Nat.lt_succ_iff_lt_or_eq.1 hj with h|rfl;exact h2 j h;exact aIE I hc2⟩ Yd ⟨Ya,bRD⟩ rfl rfl (List.Sublist.cons _ Mm5) (aK)
 ·obtain rfl:i=y.claims.length:=by omega
  refine Wk ?_;exact aE rfl fun D hD=>by show Value.bool _=_;rw[s5 h2]
end L7
namespace L2
open L1
open C2
open C1 (gU bN rC pH)
theorem PZ{c:List Int}{a b:Int}(I:c.length=10)(h0:0≤a)(h1:a≤b)(O:b≤9):∃x xs,(c.drop a.toNat).take ((b+1).toNat-a.toNat)=x::xs∧xs.foldl max x=jK c a b:=by
 have hlen:((c.drop a.toNat).take ((b+1).toNat-a.toNat)).length=(b+1).toNat-a.toNat:=by simp;omega
 cases h:(c.drop a.toNat).take ((b+1).toNat-a.toNat)with
 |nil=>rw[h]at hlen;simp at hlen;omega
 |cons x xs=>
  refine⟨x,xs,rfl,?_⟩;unfold jK;rw[show(b+1-a).toNat=(b+1).toNat-a.toNat by omega,h];rfl
def FN(s:List Int)(m:Mk):Bool:=gU (jK s m.frm m.to) m.lo m.hi
theorem ZO{last:Int}{m:Mk}(h:wD last m=true):0≤m.frm∧m.frm≤m.to∧m.to≤last∧0≤m.lo∧m.lo≤m.hi∧m.hi≤99:=by
 unfold wD tD FO jB fP at h;simp only[bLQ,LT,bN]at h;omega
theorem YZ{t:aW}{c:List Int}{k:Nat}{m:Mk}(hx:t.marks[k]?= some m)(h2:(t.marks.take k).all (FN c)=true)(h:((!([]:List Int).any fun x=>decide ((k:Int)=x))&& !gU (jK c m.frm m.to) (m.lo,m.hi).1 (m.lo,m.hi).2)=false):(t.marks.take (k+1)).all (FN c)=true:=by
 rw[bLW,hx,List.all_append,h2];simpa [FN]using h
theorem GB{t:aW}{c:List Int}{k:Nat}{m:Mk}(hx:t.marks[k]?= some m)(h:((!([]:List Int).any fun x=>decide ((k:Int)=x))&& !gU (jK c m.frm m.to) (m.lo,m.hi).1 (m.lo,m.hi).2)=true):gZ t c=false:=by
 unfold gZ;rw[bQV];exact⟨m,n5 hx,Yax⟩
theorem s5{t:aW}{c:List Int}{k:Nat}(h2:(t.marks.take k).all (FN c)=true)(hk:t.marks.length≤k):gZ t c=true:=by
 rw[bMV hk]at h2;exact h2
theorem aKK(l:List (Int×Int))(r:Int×Int):rF (l++[r])=min (rF l*fN r) 2001:=by
 unfold rF;rw[bNM];rfl
theorem LO{t:aW}{k:Nat}{r:Int×Int}(hx:t.heights[k]?= some r):rF (t.heights.take (k+1))=min (rF (t.heights.take k)*fN r) 2001:=by
 rw[bLW,hx];exact aKK _ _
theorem XP{t:aW}(h:IW t)(k:Nat):0≤rF (t.heights.take k)∧rF (t.heights.take k)≤2001:=by
 induction k with
 |zero=>simp[rF]
 |succ k ih=>
  cases hx:t.heights[k]? with
  |none=>rw[bLW,hx,Option.toList_none,bMM];exact ih
  |some r=>
   rw[LO hx];have h1:=tU (h.hts r (n5 hx));have h2:0≤fN r:=by unfold fN;omega
   have h3:=bRA ih.1 h2;omega
theorem aNT{t:aW}(h:IW t)(k:Nat){r:Int×Int}(hr:jB r=true):0≤rF (t.heights.take k)*fN r∧rF (t.heights.take k)*fN r≤200100:=by
 have h0:=XP h k;have h1:=tU hr;have h2:0≤fN r∧fN r≤100:=by unfold fN;omega
 have h3:=bRA h0.1 h2.1;have h4:=Int.mul_le_mul h0.2 h2.2 h2.1 Yd;omega
theorem y9{t:aW}{b:Bool}(h:((decide ((9:Int)<t.last)||decide ((6:Int)<(t.levels.length:Int)))||decide ((5:Int)<(t.marks.length:Int)))=b):aKE t=b:=h
theorem aUU{t:aW}(h:((decide ((9:Int)<t.last)||decide ((6:Int)<(t.levels.length:Int)))||decide ((5:Int)<(t.marks.length:Int)))=false):t.last≤9:=by
 simp only[bNG,bLV]at h;omega
theorem UQ{t:aW}{b:Bool}(h:(((((decide (t.last<0)||decide ((t.heights.length:Int)≠t.last+1))|| !t.heights.all jB)|| !fP t.step)|| !t.levels.all fP)|| !t.marks.all (wD t.last))=b):bER t= !b:=by
 subst h;unfold bER;have I:decide (t.last<0)= !decide (0≤t.last):=by by_cases h:t.last<0<;>simp[h]<;>omega
 have O:decide ((t.heights.length:Int)≠t.last+1)= !decide ((t.heights.length:Int)=t.last+1):=by simp
 rw[I,O];cases decide (0≤t.last)<;>cases decide ((t.heights.length:Int)=t.last+1)<;>cases t.heights.all jB<;>cases fP t.step<;>cases t.levels.all fP<;>cases t.marks.all (wD t.last)<;>rfl
section
variable{t:aW}(h1:((decide ((9:Int)<t.last)||decide ((6:Int)<(t.levels.length:Int)))||decide ((5:Int)<(t.marks.length:Int)))=false)
theorem aKA(h1:((decide ((9:Int)<t.last)||decide ((6:Int)<(t.levels.length:Int)))||decide ((5:Int)<(t.marks.length:Int)))=true):aX t=3:=by unfold aX;rw[bMG (y9 h1)]
include h1
theorem bLH(h2:(((((decide (t.last<0)||decide ((t.heights.length:Int)≠t.last+1))|| !t.heights.all jB)|| !fP t.step)|| !t.levels.all fP)|| !t.marks.all (wD t.last))=false):IW t:=tOk (y9 h1) (UQ h2)
theorem AQ(h2:(((((decide (t.last<0)||decide ((t.heights.length:Int)≠t.last+1))|| !t.heights.all jB)|| !fP t.step)|| !t.levels.all fP)|| !t.marks.all (wD t.last))=true):aX t=1:=by
 unfold aX;rw[bLX (by simp[y9 h1]),bMG (show bER t=false from UQ h2)]
variable(h2:(((((decide (t.last<0)||decide ((t.heights.length:Int)≠t.last+1))|| !t.heights.all jB)|| !fP t.step)|| !t.levels.all fP)|| !t.marks.all (wD t.last))=false)
include h2
theorem XG(h4:2000<rF t.heights):aX t=3:=by
 unfold aX;rw[bLX (by simp[y9 h1]),bLX (by simp[UQ h2]),bMG h4]
theorem WE(h4:¬2000<rF t.heights)(hn:eZ t=[]):aX t=9:=by
 unfold aX;rw[bLX (by simp[y9 h1]),bLX (by simp[UQ h2]),bLX h4,bMG hn]
theorem yU(h4:¬2000<rF t.heights)(hn:eZ t≠[]):aX t=0:=by
 unfold aX;rw[bLX (by simp[y9 h1]),bLX (by simp[UQ h2]),bLX h4,bLX hn]
end
theorem HM(c:List Int)(a b:Int)(D:aC)(I:c.length=10)(h0:0≤a)(h1:a≤b)(U:b≤9):Fn prog 168 #[.agg (ints c).toArray,qI a,qI b] D (fun _ v=>v=qI (jK c a b)):=by
 obtain⟨x,xs,hx,hv⟩:=PZ I h0 h1 U;refine Zw 12 func168 rfl fun h0=>aA<|Zy rfl fun Y E1 V O=>Zf rfl<|aJ<|Za rfl<|Za rfl<|Zae rfl<|aJU (l:=a.toNat) (h:=(b+1).toNat) rfl U289 aI rfl rfl rfl Yd Yd Yd Yd Yd rfl bRD<|Zd rfl (fun Z R=>aUA _ x xs _ (hx▸(aEJ (l:=a.toNat) (h:=(b+1).toNat) O I Yd Yd Yd).up RI.up (R _ Yf)))<|We ?_;exact aE rfl fun D hD=>by show Value.int _ _=_;rw[hv]
theorem HD(tv:Γ)(t:aW)(c:List Int)(D:aC)(ht:gQ D tv t)(hto:IW t)(I:c.length=10):Fn prog 163 #[tv,.agg (ints c).toArray,qN] D (fun _ v=>v=.bool (gZ t c)):=by
 obtain⟨hv,lv,mv,rfl,hh,hl,hm⟩:=ht;have hll:=hm.len;have hlast:=hto.last;refine Zw 34 func163 rfl fun h0=>aA<|Zy rfl fun q1 E1 hE O=>Zy rfl fun q2 E2 hF R=>Zf rfl<|bG<|Zj rfl nH rfl<|Zh 4 rfl H7 rfl O rfl<|Zah rfl U77 rfl hm rfl<|Za rfl<|aF<|Za0 ?_;refine bK (γ:=Nat) (fun k=>t.marks.length-k) (fun k=>k≤t.marks.length∧(t.marks.take k).all (FN c)=true) (fun k=>[(12,qI (k:Int))]) [(11,_),(10,_),(6,_),(4,_),(2,_)] (fun k=>[E2,E1,D]) 0 Yf ⟨Ya,bRD⟩ bQ (aK) ?_;rintro k ⟨h1,h2⟩;refine aA<|Zam rfl<|bW<|Zaf rfl (fun hc1=>?_) fun hc1=>?_
 ·have hk:k<t.marks.length:=by omega
  obtain⟨m,hx⟩:=cR t.marks k;have hmb:=ZO (hto.mark m (n5 hx));refine aQ<|Za2<|Za0<|aA<|Za rfl<|Zx rfl U77 lM rfl hm rfl hx fun b1 o1 U V hB Y=>?_;obtain rfl:U=[qI _,qI _,qI _,qI _]:=V;refine Zv rfl PN rfl Y lM<|Zad rfl A5 rfl fun q3=>Zf rfl<|Zz rfl lM ζ<|bW<|bS [] 5 16 8066<|Za rfl<|Za rfl<|Zd rfl (fun D1 hH=>L7.H4 _ [] (k:Int) _ Sl.nil)<|Wbr ?_;refine' bU 11 (s:=21) (p:=32) rfl (fun Z=>?_) (fun Z=>?_) ?_;rotate_left
  ·refine Zk rfl KI rfl<|dX rfl kK cN rfl Mm0 rfl rfl n4 rfl ⟨_,rfl,rfl⟩<|cU rfl pA rfl R Yc Yad n4 rfl ⟨_,rfl,rfl⟩<|Zk rfl LR rfl<|Zp rfl aH rfl Mm0 rfl<|Zk rfl JD rfl<|Zp rfl aH rfl Mm0 rfl<|Ze rfl (fun D2 hI=>HM c m.frm m.to _ I hmb.1 hmb.2.1 Yd)<|Ze rfl (fun D3 hJ=>HC (m.lo,m.hi) _ _)<|Wcc ?_;exact aN 10
  ·refine Zg rfl<|Zg rfl<|Zg rfl<|Zg rfl<|Wo ?_;exact aN 10
  refine aF<|Zag rfl (fun hc2=>?_) fun hc2=>?_
  ·refine aA<|Wh ?_;exact aE rfl fun D hD=>by show Value.bool _=_;rw[GB hx hc2]
  ·refine Wca ?_;exact aL 15 (k+1) ⟨Yd,YZ hx h2 hc2⟩ Yd ⟨Ya,bRD⟩ rfl rfl (List.Sublist.cons _ Mm5) (aK)
 ·refine Wk ?_;exact aE rfl fun D hD=>by show Value.bool _=_;rw[s5 h2 Yd]
theorem T7(tv:Γ)(t:aW)(D:aC)(ht:gQ D tv t):Fn prog 161 #[tv] D (fun _ v=>v=qI (aX t)):=by
 have ht0:=ht;obtain⟨hv,lv,mv,rfl,hh,hl,hm⟩:=ht;have hll:=hh.len;have hl2:=hl.len;have hl3:=hm.len;refine PL 82 func161 rfl rfl rfl rfl fun h0=>aA<|Zy rfl fun q1 E1 hE1 I=>Zad rfl OY rfl fun q2=>aJ<|Zv rfl lB rfl I jP<|Zax rfl<|Zf rfl<|bW<|Za0<|aA<|Zj rfl mU rfl ?_;refine Zh 0 rfl aH rfl I rfl<|Wap ?_
 refine' dQ 5 (s:=13) (p:=18) rfl (fun hE=>?_) (fun hE=>?_) ?_;rotate_left
 ·refine Zk rfl lR rfl<|Zi 3 rfl cF rfl I rfl<|eN rfl U35 rfl hl rfl rfl ⟨_,rfl,rfl⟩<|Wy ?_;exact aN 4
 ·refine Wf ?_;exact aN 4
 refine Za rfl ?_;refine' dQ 5 (s:=19) (p:=24) rfl (fun hF=>?_) (fun hF=>?_) ?_;rotate_left
 ·refine Zk rfl nH rfl<|Zi 4 rfl H7 rfl I rfl<|eN rfl U77 rfl hm rfl rfl ⟨_,rfl,rfl⟩<|Wy ?_;exact aN 4
 ·refine Wf ?_;exact aN 4
 refine Zf rfl<|aF<|Zag rfl (fun hc1=>?_) fun hc1=>?_
 ·refine aA<|Zr rfl sZ ζ rfl<|aG<|Za4<|Zaz ?_;exact wZ (vs:=[_]) rfl rfl rfl ⟨⟨_,_,_,rfl,bQO _,bMF ⟨tA,rfl⟩⟩,bRD⟩ fun D hD=>by show Value.int _ _=_;rw[aKA hc1]
 ·refine aA<|Zj rfl mU rfl<|Zh 0 rfl aH rfl I rfl<|Wcf ?_;refine' dQ 8 (s:=29) (p:=37) rfl (fun Z=>?_) (fun Z=>?_) ?_;rotate_left
  ·have hl0:0≤t.last:=by have:=Z;simp only[bLV]at this;omega
   have hl9:t.last≤9:=aUU hc1;refine Zk rfl lQ rfl<|Zi 1 rfl xU rfl I rfl<|eN rfl U76 rfl hh rfl rfl ⟨_,rfl,rfl⟩<|Zk rfl mU rfl<|Zi 0 rfl aH rfl I rfl<|wJ rfl rfl rfl Ye rfl ⟨_,rfl,rfl⟩<|IY rfl rfl rfl rfl ⟨_,rfl,rfl⟩<|Zak rfl ?_;exact aN 7
  ·refine Wal ?_;exact aN 7
  refine Za rfl ?_;refine' dQ 5 (s:=38) (p:=43) rfl (fun hH=>?_) (fun hH=>?_) ?_;rotate_left
  ·refine Zk rfl lQ rfl<|Zi 1 rfl xU rfl I rfl<|Ze rfl (fun D1 hI=>MO _ _ _ jB _ (Sl.at BL.up hI Yl Yf) (.of fun x Y=>FV x Y) rfl)<|Waf ?_;exact aN 4
  ·refine Wf ?_;exact aN 4
  refine Za rfl ?_;refine' dQ 5 (s:=44) (p:=49) rfl (fun hJ=>?_) (fun hJ=>?_) ?_;rotate_left
  ·refine Zk rfl I6 rfl<|Zi 2 rfl aH rfl I rfl<|Ze rfl (fun Y hD2=>O8 _ _)<|Waf ?_;exact aN 4
  ·refine Wf ?_;exact aN 4
  refine Za rfl ?_;refine' dQ 5 (s:=50) (p:=55) rfl (fun hK=>?_) (fun hK=>?_) ?_;rotate_left
  ·refine Zk rfl lR rfl<|Zi 3 rfl cF rfl I rfl<|Ze rfl (fun D3 hN=>Y0 _ _ _ fP _ (Sl.at RI.up hN Yl Yf) (.of fun x Y=>O8 x Y) rfl)<|Waf ?_;exact aN 4
  ·refine Wf ?_;exact aN 4
  refine Za rfl ?_;refine' dQ 6 (s:=56) (p:=62) rfl (fun hO=>?_) (fun hO=>?_) ?_;rotate_left
  ·refine Zk rfl nH rfl<|Zi 4 rfl H7 rfl I rfl<|Zb rfl<|Ze rfl (fun D4 hB=>aYZ _ _ _ (wD t.last) _ (Sl.at UB.up hB Yl Yf) ⟨_,[_],[],rfl,fun m Y hl=>aWA _ t m Y (ht0.up ((hB _ Yf).trans hl))⟩ rfl)<|Waf ?_;exact aN 5
  ·refine Zg rfl<|Wf ?_;exact aN 5
  refine Zf rfl<|aF<|Zag rfl (fun hc2=>?_) fun hc2=>?_
  ·refine aA<|Zr rfl sZ ζ rfl<|aG<|Za4<|Zaz ?_;exact wZ (vs:=[_]) rfl rfl rfl ⟨⟨_,_,_,rfl,bQO _,bMF ⟨tA,rfl⟩⟩,bRD⟩ fun D hD=>by show Value.int _ _=_;rw[AQ hc1 hc2]
  ·have hto:IW t:=bLH hc1 hc2;refine bH<|Za3<|Zay<|aA<|Zf rfl<|bG<|Zj rfl lQ rfl<|Zh 1 rfl xU rfl I rfl<|Zah rfl U76 rfl hh rfl<|Za rfl<|aF<|Za0 ?_;refine bK (γ:=Nat) (fun k=>t.heights.length-k) (fun k=>k≤t.heights.length) (fun k=>[(66,qI (k:Int)),(4,qI (rF (t.heights.take k)))]) [(65,_),(64,_),(2,_),(1,_)] (fun k=>[E1,D]) 0 Yd ⟨Ya,Ya,bRD⟩ bQ (aK) ?_;rintro k h1;refine aA<|Zam rfl<|bW<|Zaf rfl (fun hc3=>?_) (fun hc3=>?_)
   ·have hk:k<t.heights.length:=by omega
    obtain⟨r,hx⟩:=cR t.heights k;have hrb:=hto.hts r (n5 hx);have hmul:=aNT hto k hrb;refine aQ<|Za2<|Za0<|aA<|Zx rfl U76 cN rfl hh rfl hx fun b1 o1 hP hR rB hS=>?_;obtain rfl:hP=[qI _,qI _]:=hR;refine Zv rfl kK rfl hS cN<|Zad rfl iC rfl fun q3=>Zz rfl cN ζ<|aF<|aP<|Za rfl<|Zac rfl kK rfl Mm0 cN<|Zd rfl (fun D5 hD5=>aBM r hrb _)<|BT rfl rfl rfl Ye rfl bRD<|Zt rfl U35 aI cO rfl (.cons rfl rfl (.cons rfl rfl .nil)) fun b901 D901 hX R=>?_;have U:=Sl.ofInts (l:=[_,_]) (n:=2) (cap:=2) R rfl Yd Yd;refine Zd rfl (fun D6 hY=>nF _ (rF (t.heights.take k)*fN r) [2001] _ (U.up RI.up (hY _ Yf)))<|Wan ?_;exact aL 15 (k+1) Yd Yd ⟨Ya,(by rw[LO hx];rfl),bRD⟩ rfl rfl (List.Sublist.cons _ Mm5) fun D h=>⟨D,bMJ _ (h),Le.refl D⟩
   ·obtain rfl:k=t.heights.length:=by omega
    rw[bMP];refine Za5<|Za1<|Za1<|Za6<|Zay<|bZ<|Za rfl<|Zaq rfl<|aF<|Zaf rfl (fun O=>?_) fun O=>?_
    ·refine aA<|Zr rfl sZ ζ rfl<|aG<|Zaz ?_;exact wZ (vs:=[_]) rfl rfl rfl ⟨⟨_,_,_,rfl,bQO _,bMF ⟨tA,rfl⟩⟩,bRD⟩ fun D hD=>by show Value.int _ _=_;rw[XG hc1 hc2 O]
    ·refine aQ<|bZ<|Zv rfl lB rfl I jP<|Zaa rfl (fun D7 V=>RX _ t _ (ht0.up (V _ Yf)) hto) fun v7 D7 V rA=>aF<|Za0 ?_;obtain⟨br,rfl,hit⟩:=rA;refine wB (γ:=Unit) (xs:=(eZ t).map dL) (enc:=MT) (Dr:=D7) (fun pre _=>pre=[]) (fun _ c _=>c=.ret∧eZ t≠[]) (fun _=>[(q2,qC [qI 0] 27)]) () rfl rfl rfl rfl hit Yf (fun _=>rfl) rfl rfl rfl ?_ ?_ ?_
     ·rintro pre x _ ⟨us,hx⟩ hΦ l bd rec hh D7 V hst hpend;refine bH ?_;refine fun a w hhh=>O7 (A:=[(_,_)]) (B:=[(bd,.deferred (some []))]) (r:=rec) (l:=l) Ybb hst ?_ a w hhh
      refine Za0<|aA<|Zr rfl sZ ζ rfl<|aG<|Za4 ?_;exact aQW (A:=[(_,_)]) (B:=[(bd,.deferred (some []))]) .ret () ⟨rfl,fun e=>by rw[e]at hx;simp at hx⟩ rfl rfl
     ·rintro _ bd hΦ;have hn:eZ t=[]:=by simpa using hΦ
      refine Za3<|Zay<|aA<|Zr rfl sZ ζ rfl<|aG ?_;exact E9 (vs:=[_]) (A:=[(_,_)]) rfl rfl rfl ⟨⟨_,_,_,rfl,bQO _,bMF ⟨tA,rfl⟩⟩,bRD⟩ fun D hD=>by show Value.int _ _=_;rw[WE hc1 hc2 O hn]
     ·rintro _ _ _ bd ⟨rfl,hne⟩;refine JS<|Za4<|Zaz ?_;exact E9 (vs:=[_]) (A:=[(_,_)]) rfl rfl rfl ⟨⟨_,_,_,rfl,bQO _,bMF ⟨tA,rfl⟩⟩,bRD⟩ fun D hD=>by show Value.int _ _=_;rw[yU hc1 hc2 O hne]
def V1(t:aW)(pre:List (List Int))(g:Γ×aD×Array MapEntry×Nat×List (Int×Int)):Prop:=
 bM 289 10 g.1 (lF t pre.length).length (U8 (lF t pre.length)) g.2.1∧zI g.2.2.1 g.2.2.2.1 g.2.2.2.2∧U1 (lF t pre.length) t.last g.2.2.2.2
def bKG(t:aW)(D:aC)(wv:Γ)(ν:aD):Prop:=∃wb mb hv lv mv tsv es cl S,wv=qP wb∧ν=[(wb,qC [qI t.last,hv,qI t.step,lv,mv,tsv,.map (some mb)] 285),(mb,.map es cl)]∧
 gQ D (.agg #[qI t.last,hv,qI t.step,lv,mv]) t∧Sl D IF 10 tsv (bL t)∧zI es cl S∧U1 (bL t) t.last S
def j3(acc:List (List Int)):List Int:=match acc.getLast? with
 |some s=>dL s
 |none=>[]
theorem JE{acc:List (List Int)}(h:∀s∈acc,s.length≤10)(hne:acc≠[]):(j3 acc).length=10:=by
 unfold j3;rw[bPF hne];exact gL (h _ (List.getLast_mem hne))
theorem aVG{acc:List (List Int)}(h:∀s∈acc,s.length≤10)(hne:acc≠[])(junk:List Γ):((U8 acc++junk).drop (0+(((acc.length:Int)-1).toNat)*10)).take 10=ints (j3 acc):=by
 have hpos:=bPC.2 hne;unfold j3;rw[bPF hne,bOM];refine VY h ?_ junk;rw[show((acc.length:Int)-1).toNat=acc.length-1 by omega,←List.getLast?_eq_getElem?,bPF hne]
theorem aVY{s u:List Int}(h:s.length=u.length):dL s=dL u ↔ s=u:=by
 constructor
 ·intro e;have:=bLZ (List.take s.length) e;unfold dL at this
  rwa [bQS,h,bQS]at this
 ·rintro rfl;rfl
def T8(S:List (Int×Int))(s:List Int)(k:Nat):List (Int×Int):=(List.range k).foldl (fun S (j:Nat)=>VO S ((j:Int),s.getD j 0)) S
theorem LV{S:List (Int×Int)}{s:List Int}{k:Nat}:T8 S s (k+1)=VO (T8 S s k) ((k:Int),s.getD k 0):=by
 unfold T8;rw[bND,bNM];rfl
theorem aVO{S:List (Int×Int)}{s:List Int}{k:Nat}{p:Int×Int}:p∈T8 S s k ↔ p∈S∨∃j:Nat,j<k∧p=((j:Int),s.getD j 0):=by
 induction k with
 |zero=>simp[T8]
 |succ k ih=>
  rw[LV,aTU,ih];constructor
  ·rintro((h|⟨j,hj,rfl⟩)|rfl)
   ·exact bMF h
   ·exact bLY ⟨j,Yd,rfl⟩
   ·exact bLY ⟨k,Yd,rfl⟩
  ·rintro(h|⟨j,hj,rfl⟩)
   ·exact bMF (bMF h)
   ·by_cases e:j=k
    ·subst e;exact bLY rfl
    ·exact bMF (bLY ⟨j,Yd,rfl⟩)
theorem aCZ{s:List Int}{k:Nat}(h:k<s.length):(dL s)[(k:Int).toNat]?= some (s.getD k 0):=by
 unfold dL;rw[bNI,bNX h,bNR,bLR h];rfl
section
variable{t:aW}{pre:List (List Int)}{s:List Int}(hrp:gZ t (dL s)=gZ t s)(htake:(eZ t).take (pre.length+1)=(eZ t).take pre.length++[s])
include hrp htake
theorem VW{b:Bool}(hc:(!gZ t (dL s)||(decide (0<((lF t pre.length).length:Int))&&(j3 (lF t pre.length)==dL s)))=b):xM t (lF t pre.length) s=if b=true then lF t pre.length else lF t pre.length++[s]:=by
 have hsm:s∈eZ t:=bQK (i:=pre.length+1) (by rw[htake];simp);rw[hrp]at hc;subst hc;unfold xM;cases hr:gZ t s with
 |false=>simp
 |true=>
  simp only[Bool.not_true,Bool.false_or,Bool.true_eq_false,false_or];by_cases hne:lF t pre.length=[]
  ·rw[hne];simp
  ·have hpos:=bPC.2 hne;have h1:decide (0<((lF t pre.length).length:Int))=true:=by simpa using hpos
   rw[h1,bPT];unfold j3;rw[bPF hne];have h2:=rI (o7 (List.getLast_mem hne));have h3:=rI hsm;have h4:=aVY (h2.trans h3.symm);by_cases e:(lF t pre.length).getLast hne=s
   ·rw[bMG (by rw[e]),bMG (by rw[e];simp)]
   ·rw[bLX (by simpa using e),bLX (by simpa using fun h=>e (h4.1 h))]
theorem aPL{v:Γ}{ν:aD}{es:Array MapEntry}{cl:Nat}{S:List (Int×Int)}(hc:(!gZ t (dL s)||(decide (0<((lF t pre.length).length:Int))&&(j3 (lF t pre.length)==dL s)))=true)(ha:bM 289 10 v (lF t pre.length).length (U8 (lF t pre.length)) ν)(hS:zI es cl S)(hsp:U1 (lF t pre.length) t.last S):V1 t (pre++[dL s]) (v,ν,es,cl,S):=by
 have h1:=VW hrp htake hc;simp only[bOC]at h1;have h2:=JL htake;rw[h1]at h2;unfold V1;rw[bLT,bOD,h2];exact⟨ha,hS,hsp⟩
theorem bCP(hc:(!gZ t (dL s)||(decide (0<((lF t pre.length).length:Int))&&(j3 (lF t pre.length)==dL s)))=false):lF t (pre.length+1)=lF t pre.length++[s]:=by
 have h1:=VW hrp htake hc;simp only[bNN,bOO]at h1;rw[JL htake,h1]
end
theorem bHD{t:aW}{pre:List (List Int)}{s:List Int}{v:Γ}{ν:aD}{es:Array MapEntry}{cl k:Nat}{S:List (Int×Int)}(h:lF t (pre.length+1)=lF t pre.length++[s])(hk:s.length≤k)(I:(k:Int)=t.last+1)(ha:bM 289 10 v ((lF t pre.length).length+1) (U8 (lF t pre.length++[s])) ν)(hS:zI es cl (T8 S s k))(hsp:U1 (lF t pre.length) t.last S):V1 t (pre++[dL s]) (v,ν,es,cl,T8 S s k):=by
 unfold V1;rw[bLT,bOD,h,bLT,bOD];refine⟨ha,hS,fun p=>?_⟩;rw[aVO,hsp p];constructor
 ·rintro(⟨u,hu,j,hj,rfl⟩|⟨j,hj,rfl⟩)
  ·exact⟨u,bMA _ hu,j,hj,rfl⟩
  ·exact⟨s,Yf,j,Yd,rfl⟩
 ·rintro⟨u,hu,j,hj,rfl⟩;rcases bMD.1 hu with hu|hu
  ·exact bMF ⟨u,hu,j,hj,rfl⟩
  ·simp only[bMI]at hu;subst hu
   exact bLY ⟨j,Yd,rfl⟩
theorem bHZ:K2 prog 292:=⟨Yg,Yg,Yg⟩
theorem yA(tv:Γ)(t:aW)(fine:Bool)(D:aC)(ht:gQ D tv t):KH prog 96 #[tv,.bool fine] D (fun D' v ν=>∃wv,v=.tuple #[wv,qI (oB t fine)]∧(oB t fine=0→IW t∧bL t≠[]∧bKG t D' wv ν)):=by
 have ht0:=ht;obtain⟨hv,lv,mv,rfl,hh,hl,hm⟩:=ht;refine aWK 85 func96 rfl rfl rfl rfl fun h0=>aA<|Zy rfl fun q1 E1 hE1 O=>Zf rfl<|Zf rfl<|bG<|Zv rfl lB rfl O jP<|Zd rfl (fun D1 hJ=>T7 _ t _ (ht0.up (hJ _ Yf)))<|Wbg ?_;refine aF<|Zaf rfl (fun hc1=>?_) fun hc1=>?_
 ·refine Wax ?_;exact wZ (vs:=[_,_]) rfl rfl rfl bQ fun D hD=>⟨_,by rw[oB,bMG hc1];rfl,fun h=>by rw[oB,bMG hc1]at h;exact absurd h hc1⟩
 ·have U:aX t=0:=by omega
  have hto:IW t:=JN U;refine aQ<|bZ<|Za rfl<|Zas rfl<|aF<|Zag rfl (fun hc2=>?_) fun hc2=>?_
  ·refine aA<|Zf rfl<|Wi ?_;exact wZ (vs:=[_,_]) rfl rfl rfl bQ fun D hD=>⟨_,by rw[oB,bLX hc1,bMG Yat];rfl,fun h=>by rw[oB,bLX hc1,bMG Yat]at h;omega⟩
  ·refine aQ<|aA<|Zv rfl lB rfl O jP<|zG rfl rfl bRD fun qm=>iB (cs:=[qI t.last,hv,qI t.step,lv,mv,qN,.map (some qm)]) rfl bDF bCG rfl Yg rfl bRD<|FS rfl (e:=285) rfl rfl rfl bRD fun q2=>Zad rfl aZW rfl fun q3=>Zr rfl aXB ζ rfl<|bG<|Zv rfl lB rfl O jP<|Zaa rfl (fun D2 hE=>RX _ t _ (ht0.up (hE _ Yf)) hto) fun v2 D2 hE hK=>aF ?_;refine Za0 ?_;obtain⟨br,rfl,hit⟩:=hK;refine wB (γ:=Γ×aD×Array MapEntry×Nat×List (Int×Int)) (xs:=(eZ t).map dL) (enc:=MT) (Dr:=D2) (V1 t) (fun _ _ _=>False) (fun g=>[(q3,qC [qP q2] 198),(q2,qC [qI t.last,hv,qI t.step,lv,mv,g.1,.map (some qm)] 285),(qm,.map g.2.2.1 g.2.2.2.1)]++g.2.1) (qN,[],#[],0,[]) rfl rfl rfl rfl hit Yf (fun _=>rfl) rfl ⟨by simpa [lF,U8]using bM.nil,zI.nil,U1.nil⟩ rfl ?_ ?_ (fun _ _ _ _ h=>h.elim)
   ·rintro pre x ⟨v,ν,es,cl,S⟩ ⟨us,hx⟩ ⟨ha,hS,hsp⟩ l bd rec hh7 D7 hD7 hst hpend;simp only at ha hS hsp;obtain⟨s,hk,rfl,hsm,htake⟩:=WG hx;have hsl:=rI hsm;have hlast:=hto.last;have hlen:=hto.len;have hs10:s.length≤10:=by omega
    have I:=gL hs10;have hall:∀u∈lF t pre.length,u.length≤10:=fun u hu=>by have:=rI (o7 hu);omega
    have hcap:=AV U;have hacl:=SK t pre.length;have hrp:=aLJ hto (s:=s) Yd;refine aP<|Zad rfl i7 rfl fun q4=>Zz rfl jL ζ<|Zan ?_;refine fun a w hhh=>O7 (A:=[(_,_),(_,_),(_,_),(_,_)]++ν) (B:=[(bd,.deferred (some []))]) (r:=rec) (l:=l) Ybb hst ?_ a w hhh
    refine pW fun hnd=>?_;simp only[bMT,bME,bNP,bMB,bOF,bMW,bLO,bMD,bQX]at hnd;have hq4:=hnd.1.2.2.2.1;have hq3:=hnd.2.1.2.2.1;have hq2:=hnd.2.2.1.2.1;refine Za0<|Za2<|Za2<|uG [] 10 28 20905986 (fun _ _ _ h=>h)<|Zv rfl lB rfl O jP<|bI rfl pA rfl Mm0 Yad n4 rfl bRD<|Zd rfl (fun D3 hN=>HD _ t (dL s) _ (ht0.up (hN _ Yf)) hto I)<|Wbr ?_;refine' dQ 23 (s:=28) (p:=51) rfl (fun hO=>?_) (fun hO=>?_) ?_;rotate_left
    ·refine Zp rfl wU rfl Mm1 rfl<|vE rfl rfl rfl ⟨_,rfl,rfl⟩<|Zk rfl lV rfl<|Zp rfl tH rfl Mm2 rfl<|cG rfl U283 rfl ha rfl rfl ⟨_,rfl,rfl⟩<|Zar rfl<|Zb rfl ?_;refine' bU 15 (s:=35) (p:=50) rfl (fun V=>?_) (fun V=>?_) ?_;rotate_left
     ·have hne:lF t pre.length≠[]:=fun e=>by rw[e]at V;simp at V
      have hpos:=bPC.2 hne;obtain⟨b5,cap5,R,rfl,hcp5,rfl,hl51,hl52⟩:=ha.some hpos;refine Zp rfl wU rfl Mm1 rfl<|vE rfl rfl rfl ⟨_,rfl,rfl⟩<|Zk rfl lV rfl<|Zp rfl tH rfl Mm2 rfl<|Zp rfl wU rfl Mm1 rfl<|vE rfl rfl rfl ⟨_,rfl,rfl⟩<|Zk rfl lV rfl<|Zp rfl tH rfl Mm2 rfl<|lX rfl U283 rfl rfl rfl ⟨_,rfl,rfl⟩<|xF rfl rfl rfl Ye rfl ⟨_,rfl,rfl⟩<|eP rfl U283 jL rfl rfl Yd Yd rfl ⟨_,rfl,rfl⟩<|dX (vs:=U8 (lF t pre.length)++R) (us:=ints (j3 (lF t pre.length))) rfl pA jL rfl (bMJ _ Mm3) (aVG hall hne R) (by simpa using JE hall hne) n4 rfl ⟨_,rfl,rfl⟩ ?_;refine bI rfl pA rfl Mm0 Yad n4 rfl ⟨_,rfl,rfl⟩<|WU rfl Yg U289 U3 Yg (JE hall hne) I rfl rfl rfl ⟨_,rfl,rfl⟩<|oV rfl rfl rfl rfl ⟨_,rfl,rfl⟩ ?_;exact aN 14
     ·refine Wak ?_;refine Wcb ?_;exact aN 14
     refine Zak rfl ?_;exact aN 8
    ·refine Wak ?_;refine Zg rfl<|Zg rfl<|Zg rfl<|Wal ?_;exact aN 22
    refine aF<|Zag rfl (fun hc3=>?_) fun hc3=>?_
    ·have hP:V1 t (pre++[dL s]) (v,ν,es,cl,S):=aPL hrp htake hc3 ha hS hsp;refine Za5<|Za1<|Za6 ?_;exact fun a w hh=>jH (A:=[(_,_),(_,_),(_,_)]++ν) (B:=[(bd,.deferred (some []))]) (v,ν,es,cl,S) hP rfl rfl a w (hh.dropBoxes 1)
    ·have hadd:=bCP hrp htake hc3;refine aQ<|Za2<|uG (ν.map (·.1)) 2 11 254 (fun _ _ _ h=>h)<|bD rfl wU rfl Mm1 rfl Ym rfl bRD<|bD rfl wU rfl Mm1 rfl Ym rfl bRD<|Zal rfl<|Zj rfl lV rfl<|bD rfl tH rfl Mm2 rfl Ym rfl bRD<|bI rfl pA rfl Mm0 Yad Ym rfl bRD<|Zt rfl U283 jL i7 rfl (.cons rfl (by simpa using I) .nil) (fun b901 D901 hR Y=>aU (A:=[(_,_),(_,_),(_,_),(_,_)]) (B:=[(l,_),(bd,_)]) rfl U283 rfl rfl jL i7 rfl bDX rfl rfl rfl ha (lD.lit Y) Yf (by simp[I]) (VD hall) Xbb Yd (bLY fun p hp=>GE.2 ⟨p,hp,rfl⟩) rfl bRD fun v1 ν1 Z=>?_);have hX:bM 289 10 v1 ((lF t pre.length).length+1) (U8 (lF t pre.length++[s])) ν1:=by unfold U8;rw[bMZ,bOE];simpa [U8]using Z
     simp only[bOF,bMW];refine Zal rfl<|Zj rfl lV rfl<|cY rfl rfl rfl Z.cells1 aCC (.tail (.tail ζ)) Yf rfl Z.cell1 bRD<|aJ<|Zj rfl mU rfl<|Zh 0 rfl aH rfl O rfl<|Zae rfl<|Za rfl<|aF<|Za0<|Zc (Nat×Array MapEntry×Nat) (fun g=>s.length-g.1) (fun g=>g.1≤s.length∧zI g.2.1 g.2.2 (T8 S s g.1)) (fun g=>[(65,qI (g.1:Int))]) [(64,_),(8,_),(7,_),(5,_),(4,_)] (fun g=>[(q4,qC (ints (dL s)) 289)]++[(q3,qC [qP q2] 198),(q2,qC [qI t.last,hv,qI t.step,lv,mv,v1,.map (some qm)] 285),(qm,.map g.2.1 g.2.2)]++(ν1++[(l,.loop {rec with state:=.busy}),(bd,.deferred (some []))])) (fun g=>[D901,D7,D2,E1,D]) (0,es,cl) ⟨Yf,hS⟩ ⟨Ya,bRD⟩ Mm5 ?_;rintro⟨k,hF,hH⟩ ⟨h1,hB⟩;simp only at h1 hB;refine aA<|Zam rfl<|bW<|Zaf rfl (fun hY=>?_) fun hY=>?_
     ·have hks:k<s.length:=by omega
      have hxk:(dL s)[(k:Int).toNat]?= some (s.getD k 0):=aCZ hks;refine aQ<|Za2<|Za0<|aA<|Za rfl<|Zf rfl<|aF<|uG [] 3 10 496 (fun _ _ _ h=>h)<|Zo rfl wU rfl Mm1 rfl<|Zal rfl<|Zj rfl KQ rfl<|Zo rfl aFH rfl Mm2 rfl ?_;refine Za rfl<|Za rfl<|cD rfl U289 aI rfl rfl Yd Yd rfl bRD<|bD rfl aH rfl Mm0 (cW hxk) n4 rfl bRD<|Zu [qI (k:Int),qI (s.getD k 0)] rfl bBM aFN rfl<|bIF (A:=[(_,_),(_,_),(_,_)]) (B:=ν1++[(l,_),(bd,_)]) (a:=((k:Int),s.getD k 0)) rfl U282 bHZ rfl rfl rfl hB bRD fun rA rB hS3=>Zan<|Za3<|Zay<|aP<|Zae rfl<|Za rfl ?_;refine Zan ?_;exact aL 15 (k+1,rA,rB) ⟨Yn,by rw[LV];exact hS3⟩ Yn ⟨Ya,bRD⟩ rfl rfl Mm5 (aK)
     ·have hI1:V1 t (pre++[dL s]) (v1,ν1,hF,hH,T8 S s k):=bHD hadd Yd Yd hX hB hsp;refine Za5<|Za1<|Za1<|Za6<|Za3 ?_;exact fun a w hh=>jH (A:=[(_,_),(_,_),(_,_)]++ν1) (B:=[(bd,.deferred (some []))]) (v1,ν1,hF,hH,T8 S s k) hI1 rfl rfl a w (hh.dropBoxes 1)
   ·rintro⟨v,ν,es,cl,S⟩ bd ⟨ha,hS,hsp⟩;simp only[bNE]at ha hS hsp;rw[n7 t (bMH _)]at ha hsp;have hall:∀u∈bL t,u.length≤10:=fun u hu=>by rw[←n7 t (bMH _)]at hu;have:=rI (o7 hu);have:=hto.len10;omega
    have hll:(bL t).length≤2000:=by rw[←n7 t (bMH _)];have:=SK t (eZ t).length;have:=AV U;omega
    refine Za3<|Zay<|bZ<|Zo rfl wU rfl Mm0 rfl<|Zal rfl<|Zj rfl lV rfl<|Zo rfl tH rfl Mm1 rfl<|cG rfl U283 rfl ha rfl rfl bRD<|Zap rfl<|aF<|Zaf rfl (fun hI=>?_) fun hI=>?_
    ·have htn:bL t=[]:=bPD.1 Yd;have hask:oB t fine=11:=by rw[oB,bLX hc1,bLX Yat,bMG htn]
     refine aA<|Zf rfl<|Wi ?_;exact TN (vs:=[_,_]) (A:=[(_,_),(_,_),(_,_)]) (ν':=[]) (B:=ν) rfl rfl rfl bQ fun D hD=>⟨_,by rw[hask];rfl,fun h=>by rw[hask]at h;omega⟩
    ·have htn:bL t≠[]:=fun e=>hI Xaf
     have hask:oB t fine=0:=by rw[oB,bLX hc1,bLX Yat,bLX htn]
     refine aQ<|aA<|Zo rfl wU rfl Mm0 rfl<|Zf rfl<|Zf rfl<|aG<|dU (A:=[(_,_),(_,_),(_,_)]) (B:=[(bd,.deferred (some []))]) ha rfl fun D8 hD8 hF8=>?_;exact TN (vs:=[_,_]) (A:=[(_,_)]) (ν':=[(_,_),(_,_)]) (B:=[]) rfl rfl rfl bQ fun D hD=>⟨_,by rw[hask];rfl,fun _=>⟨hto,htn,q2,qm,hv,lv,mv,v,es,cl,S,rfl,rfl,⟨hv,lv,mv,rfl,hh.up BL.up (hD _ Yf),hl.up RI.up (hD _ Yf),hm.up UB.up (hD _ Yf)⟩,(hF8.seas rfl Yd hall).up IF.up (hD _ Yf),hS,hsp⟩⟩
theorem rZ{t:aW}(_ht:IW t){s:List Int}(h:s∈bL t):s.length=t.heights.length:=by
 rw[←n7 t (bMH _)]at h;exact rI (o7 h)
structure aMK(es:Array MapEntry)(S:List (Int×Int))(h:Nat)(x0:Int)(seen:Array Nat)(lo hi:Int):Prop where
 mid:lo≤x0∧x0≤hi
 all:∀e∈es.toList,seen.contains e.born=true→∀y,e.key=lE ((h:Int),y)→lo≤y∧y≤hi
 los:((h:Int),lo)∈S
 his:((h:Int),hi)∈S
theorem aMK.start{t:aW}{es:Array MapEntry}{S:List (Int×Int)}{h:Nat}{I:List Int}(hsp:U1 (bL t) t.last S)(hs:I∈bL t)(hh:(h:Int)≤t.last):aMK es S h (I.getD h 0) #[] (I.getD h 0) (I.getD h 0):=
 ⟨Yd,fun e _ hc=>by simp at hc,(hsp _).2 ⟨I,hs,h,hh,rfl⟩,(hsp _).2 ⟨I,hs,h,hh,rfl⟩⟩
theorem aED{a b:Int×Int}(h:lE a=lE b):a=b:=by
 obtain⟨I,a2⟩:=a;obtain⟨O,b2⟩:=b
 simp only[lE,Value.agg.injEq]at h;simpa using h
section
variable{t:aW}{es:Array MapEntry}{cl:Nat}{S:List (Int×Int)}{h:Nat}{x0:Int}{seen:Array Nat}{lo hi:Int}
theorem JK(hS:zI es cl S){e e':MapEntry}(h1:e∈es.toList)(h2:e'∈es.toList)(h:e'.born=e.born):e'=e:=by
 have f1:=find_born e es.toList hS.nd h1;have f2:=find_born e' es.toList hS.nd h2;rw[h]at f2;rw[f1]at f2;exact(bMQ f2).symm
theorem aMK.yes(hI:aMK es S h x0 seen lo hi)(hS:zI es cl S){e:MapEntry}(he:e∈(leftOf es seen).toList){ah ay:Int}(hek:e.key=lE (ah,ay))(haS:(ah,ay)∈S)(hc:ah=(h:Int)):aMK es S h x0 (seen.push e.born) (min lo ay) (max hi ay):=by
 subst hc;have hm:=hI.mid;refine⟨Yd,fun e' he' hc y hy=>?_,?_,?_⟩
 ·rw[contains_push,bMU]at hc;rcases hc with hc|hc
  ·have:=hI.all e' he' hc y hy;omega
  ·have:=JK hS (mem_left he).1 he' (bQR.1 hc);subst this;rw[hek]at hy;have:=aED hy;simp only[bPO,true_and]at this;omega
 ·rcases Int.le_total lo ay with h|h
  ·rw[Int.min_eq_left h];exact hI.los
  ·rw[Int.min_eq_right h];exact haS
 ·rcases Int.le_total hi ay with h|h
  ·rw[Int.max_eq_right h];exact haS
  ·rw[Int.max_eq_left h];exact hI.his
theorem aMK.no(hI:aMK es S h x0 seen lo hi)(hS:zI es cl S){e:MapEntry}(he:e∈(leftOf es seen).toList){ah ay:Int}(hek:e.key=lE (ah,ay))(_:(ah,ay)∈S)(hc:¬ah=(h:Int)):aMK es S h x0 (seen.push e.born) lo hi:=by
 refine⟨hI.mid,fun e' he' hc' y hy=>?_,hI.los,hI.his⟩;rw[contains_push,bMU]at hc';rcases hc' with hc'|hc'
 ·exact hI.all e' he' hc' y hy
 ·have:=JK hS (mem_left he).1 he' (bQR.1 hc');subst this;rw[hek]at hy;have:=aED hy;simp only[bPO]at this;exact absurd this.1 hc
theorem aMB{l:List Int}{m:Int}(hm:m∈l)(h:∀x∈l,m≤x):rC l=m:=by
 cases l with
 |nil=>cases hm
 |cons a l=>
  have key:∀(l:List Int) (a:Int),(∀x∈l,l.foldl min a≤x)∧l.foldl min a≤a∧(l.foldl min a=a∨l.foldl min a∈l):=by
   intro l;induction l with
   |nil=>intro a;simp
   |cons b l ih=>
    intro a;obtain⟨h1,h2,h3⟩:=ih (min a b);rw[bMO];refine⟨fun x hx=>?_,Yd,?_⟩
    ·rcases bLO.1 hx with rfl|hx
     ·omega
     ·exact h1 x hx
    ·rcases h3 with h3|h3
     ·rw[h3];rcases Int.le_total a b with h|h
      ·exact bMF (Int.min_eq_left h)
      ·exact bLY (by rw[Int.min_eq_right h];exact bLP)
     ·exact bLY (LE _ h3)
  obtain⟨h1,h2,h3⟩:=key l a;show l.foldl min a=m;have h4:l.foldl min a≤m:=by
   rcases bLO.1 hm with rfl|hm
   ·exact h2
   ·exact h1 m hm
  have h5:m≤l.foldl min a:=by
   rcases h3 with h3|h3
   ·rw[h3];exact h a bLP
   ·exact h _ (LE _ h3)
  omega
theorem aIW{l:List Int}{m:Int}(hm:m∈l)(h:∀x∈l,x≤m):pH l=m:=by
 cases l with
 |nil=>cases hm
 |cons a l=>
  have key:∀(l:List Int) (a:Int),(∀x∈l,x≤l.foldl max a)∧a≤l.foldl max a∧(l.foldl max a=a∨l.foldl max a∈l):=by
   intro l;induction l with
   |nil=>intro a;simp
   |cons b l ih=>
    intro a;obtain⟨h1,h2,h3⟩:=ih (max a b);rw[bMO];refine⟨fun x hx=>?_,Yd,?_⟩
    ·rcases bLO.1 hx with rfl|hx
     ·omega
     ·exact h1 x hx
    ·rcases h3 with h3|h3
     ·rw[h3];rcases Int.le_total a b with h|h
      ·exact bLY (by rw[Int.max_eq_right h];exact bLP)
      ·exact bMF (Int.max_eq_left h)
     ·exact bLY (LE _ h3)
  obtain⟨h1,h2,h3⟩:=key l a;show l.foldl max a=m;have h4:m≤l.foldl max a:=by
   rcases bLO.1 hm with rfl|hm
   ·exact h2
   ·exact h1 m hm
  have h5:l.foldl max a≤m:=by
   rcases h3 with h3|h3
   ·rw[h3];exact h a bLP
   ·exact h _ (LE _ h3)
  omega
theorem aMK.fin(hI:aMK es S h x0 seen lo hi)(hS:zI es cl S)(hsp:U1 (bL t) t.last S)(_:bL t≠[])(hh:(h:Int)≤t.last)(hz:(leftOf es seen).size=0):lE (lo,hi)=lE (B2 t h):=by
 have hall:∀y,((h:Int),y)∈S→lo≤y∧y≤hi:=fun y hy=>by
  obtain⟨e,he,hk⟩:=hS.ent hy;refine hI.all e he ?_ y hk;cases hc:seen.contains e.born with
  |true=>rfl
  |false=>
   have hm:e∈leftOf es seen:=by
    unfold leftOf;rw[Array.mem_filter];exact⟨Array.mem_toList_iff.1 he,by rw[hc];rfl⟩
   have:=Array.size_pos_of_mem hm;omega
 have hmem:∀y,y∈(bL t).map (bKQ · h)→((h:Int),y)∈S:=fun y hy=>by
  obtain⟨s,hs,rfl⟩:=GE.1 hy;exact(hsp _).2 ⟨s,hs,h,hh,rfl⟩
 have I:∀y,((h:Int),y)∈S→y∈(bL t).map (bKQ · h):=fun y hy=>by
  obtain⟨s,hs,j,hj,he⟩:=(hsp _).1 hy;simp only[bPO]at he;have:j=h:=by omega
  subst this;exact GE.2 ⟨s,hs,he.2.symm⟩
 unfold B2;rw[aMB (I _ hI.los) fun x hx=>(hall x (hmem x hx)).1,aIW (I _ hI.his) fun x hx=>(hall x (hmem x hx)).2]
end
theorem TL(t:aW)(wb mb:Nat)(hv lv mv tsv:Γ)(es:Array MapEntry)(cl:Nat)(S:List (Int×Int))(h:Nat)(D:aC)(hts:Sl D IF 10 tsv (bL t))(htn:bL t≠[])(hto:IW t)(hS:zI es cl S)(hsp:U1 (bL t) t.last S)(hh:(h:Int)≤t.last):
  HO prog 334 [qP wb,qI (h:Int)] D [(wb,qC [qI t.last,hv,qI t.step,lv,mv,tsv,.map (some mb)] 285),(mb,.map es cl)] (fun _ v ν'=>v=lE (B2 t h)∧ν'=[(wb,qC [qI t.last,hv,qI t.step,lv,mv,tsv,.map (some mb)] 285),(mb,.map es cl)]):=by
 have hll:=hts.len;have hlast:=hto.last;obtain⟨O,I⟩:∃s,(bL t)[0]?= some s:=⟨(bL t)[0]'(bPC.2 htn),bLR _⟩
 have hE:=rZ hto (n5 I);have hF:=hto.len;have hg0:(dL O)[(h:Int).toNat]?= some (O.getD h 0):=aCZ Yd;have hH:=gL (l:=O) Yd;refine jF 42 func334 rfl rfl rfl rfl fun h0 hwl hwn=>aA<|Zad rfl iC rfl fun q1=>bW<|bS [] 7 19 196400<|Za rfl<|Zal rfl<|Zj rfl lV rfl<|Zo rfl tH rfl Mm1 rfl<|Za rfl<|Zx rfl U283 jL rfl hts rfl I fun b1 o1 R U hJ V=>?_;obtain rfl:R=ints (dL _):=U;refine eX rfl U289 aI rfl rfl Yd Yd rfl bRD<|dW (o:=o1) (k:=(h:Int).toNat*1) rfl aH rfl V Ym (by rw[bNY];exact cW hg0) n4 rfl bRD<|Za rfl<|Zal rfl<|Zj rfl lV rfl<|Zo rfl tH rfl Mm1 rfl<|Za rfl<|Zx rfl U283 jL rfl hts rfl I fun b2 o2 Y Z hK hB=>?_
 obtain rfl:Y=ints (dL _):=Z;refine eX rfl U289 aI rfl rfl Yd Yd rfl bRD<|dW (o:=o2) (k:=(h:Int).toNat*1) rfl aH rfl hB Ym (by rw[bNY];exact cW hg0) n4 rfl bRD<|Zu [qI (O.getD h 0),qI (O.getD h 0)] rfl zV iC rfl<|Zad rfl iC rfl fun q2=>Zz rfl cN ζ<|bG<|Za rfl<|Zal rfl<|Zj rfl KQ rfl<|Zo rfl aFH rfl Mm2 rfl<|aNO (b:=mb) (es:=es) (clock:=cl) rfl U282 rfl Yf rfl bRD fun qr=>aF ?_;refine Za0<|Zc (Array Nat×Int×Int) (fun g=>(leftOf es g.1).size) (fun g=>aMK es S h (O.getD h 0) g.1 g.2.1 g.2.2) (fun g=>[(28,qP qr)]) [(5,_),(4,_),(1,_)] (fun g=>[(qr,.mapIter (some mb) cl g.1 cl),(q2,qC [qI g.2.1,qI g.2.2] 122),(q1,qC [qI 0,qI 0] 122)]++[(wb,qC [qI t.last,hv,qI t.step,lv,mv,tsv,.map (some mb)] 285),(mb,.map es cl)]) (fun g=>[D]) (#[],O.getD h 0,O.getD h 0) (aMK.start hsp (n5 I) hh) ⟨Ya,bRD⟩ Mm5 ?_;rintro⟨seen,lo,hi⟩ hI;simp only at hI;refine aA<|aWD (b:=mb) (r:=qr) (es:=es) (clock:=cl) (A:=[]) (B:=[(_,_),(_,_),(_,_),(_,_)]) rfl rfl Yf hS.lt (bMH _) rfl bRD fun ok vs o' hv0 hno hyes=>JG rfl rfl hv0 rfl bRD<|bW<|Zag rfl (fun hc1=>?_) fun hc1=>?_
 ·obtain⟨e,he,rfl⟩:=hyes hc1;obtain⟨⟨ah,ay⟩,haS,hek,hev⟩:=hS.key (mem_left he).1;refine aQ<|Za0<|aA<|aQD (b:=mb) (r:=qr) (es:=es) (clock:=cl) (e:=e) (since:=cl) (seen:=seen) rfl rfl Yf Yf (mem_left he).1 hS.nd rfl bRD ?_;rw[hek];refine Zao rfl<|Zad rfl aFN rfl (fun q3=>Zz rfl bCY ζ<|aJ<|Zj rfl aJT rfl<|Zo rfl aH rfl Mm0 rfl<|Za rfl<|Zap rfl<|aF<|Zaf rfl (fun hc2=>?_) fun hc2=>?_)
  ·refine aP<|Zac rfl kK rfl Mm2 cN<|Zj rfl aLX rfl<|Zo rfl aH rfl Mm0 rfl<|Zd rfl (fun D1 hN=>vF (lo,hi) ay _)<|Zz rfl cN (.tail (.tail ζ))<|Zan<|Za3 ?_;exact aL 14 (seen.push e.born,min lo ay,max hi ay) (hI.yes hS he hek haS hc2) (left_shrinks _ _ _ he) ⟨rfl,bRD⟩ rfl rfl (List.Sublist.cons _ Mm5) (aK)
  ·refine bH<|Za3 ?_;exact aL 10 (seen.push e.born,lo,hi) (hI.no hS he hek haS hc2) (left_shrinks _ _ _ he) ⟨rfl,bRD⟩ rfl rfl (List.Sublist.cons _ Mm5) (aK)
 ·obtain⟨hz,rfl⟩:=hno hc1;have hfin:=hI.fin hS hsp htn hh hz;refine Za5<|Za1<|Za1<|Za6<|Zay<|aA<|Zac rfl kK rfl Mm1 cN<|Zz rfl cN (.tail (.tail ζ))<|aG ?_;exact Zai [(_,_),(_,_),(_,_)] [] [_,_] [_] rfl ⟨⟨_,_,_,rfl,List.Mem.tail _ Mm1,Or.inr ⟨kK,cN,rfl⟩⟩,bRD⟩ rfl fun D hD=>⟨hfin,rfl⟩
theorem RD{wb mb t cl:Nat}{cs:List Γ}{es:Array MapEntry}:∀p∈[(wb,Obj.cells cs.toArray t (0,0)),(mb,.map es cl)],dE p.2:=by
 intro p hp;simp only[bLO,n4,bNV]at hp;rcases hp with rfl|rfl
 ·rfl
 ·trivial
def YB(l:List (Int×Int)):List Γ:=l.flatMap fun p=>[qI p.1,qI p.2]
theorem EO(l:List (Int×Int)):(YB l).length=l.length*2:=by
 induction l with
 |nil=>rfl
 |cons p l ih=>unfold YB at ih ⊢;rw[bMS,bLT,ih,bLU];simp;omega
theorem GI(l m:List (Int×Int)):YB (l++m)=YB l++YB m:=bMZ
theorem bCS{l:List (Int×Int)}{i:Nat}{p:Int×Int}(hi:l[i]?= some p):((YB l).drop (i*2)).take 2=[qI p.1,qI p.2]:=by
  induction l generalizing i with
  |nil=>simp at hi
  |cons d l ih=>
    have hc:YB (d::l)=[qI d.1,qI d.2]++YB l:=rfl;rw[hc];cases i with
    | zero => obtain rfl : d = p := by simpa using hi
              rfl
    |succ i=>
      rw[show(i+1)*2=([qI d.1,qI d.2]:List Γ).length+i*2 by simp;omega,bQF];exact ih Yas
theorem _root_.Go.Fs.kH.rgs{D:aC}{v:Γ}{n:Nat}{l:List (Int×Int)}(hF:kH D v n (YB l))(hn:l.length=n)(hb:n≤9223372036854775807):Sl D BL 2 v l:=
 hF.sl hn hb fun _i _t hi=>⟨_,rfl,rfl,bCS hi⟩
def PH(t:aW):List (Int×Int):=(List.range (t.last+1).toNat).map (B2 t)
theorem ZC{t:aW}{k:Nat}(h:(k:Int)=t.last+1):(List.range k).map (B2 t)=PH t:=by unfold PH;rw[show(t.last+1).toNat=k by omega]
theorem aNM(s:List Int):(dL s).take s.length=s:=by unfold dL;rw[bQS]
def xY(s:List Int)(level:Int)(k:Nat):List Int:=((List.range k).filter fun j=>decide (level<s.getD j 0)).map fun j:Nat=>(j:Int)
theorem aCV(s:List Int)(level:Int)(k:Nat):(xY s level k).length≤k:=by
 unfold xY;rw[bNE];have:=bNF (fun j=>decide (level<s.getD j 0)) (List.range k);rwa [bPQ]at this
theorem bBW{s:List Int}{level x:Int}{k:Nat}(hx:s[k]?= some x)(h:level<x):xY s level (k+1)=xY s level k++[(k:Int)]:=by
 unfold xY;rw[bND,bMY,bME,bOA,bMG (by rw[bNR,hx];simpa using h)];rfl
theorem bGN{s:List Int}{level x:Int}{k:Nat}(hx:s[k]?= some x)(h:¬level<x):xY s level (k+1)=xY s level k:=by
 unfold xY;rw[bND,bMY,bME,bOA,bLX (by rw[bNR,hx];simpa using h)];simp
theorem FJ(s:List Int)(level:Int):∃m:Nat,C0 s level=(m:Int)∧m≤s.length∧(∀j,j<m→s.getD j 0≤level)∧(m<s.length→level<s.getD m 0):=by
 refine⟨(s.takeWhile fun n=>decide (n≤level)).length,rfl,?_⟩;induction s with
 |nil=>exact⟨Yf,fun j h=>Xad,fun h=>Xad⟩
 |cons a s ih=>
  obtain⟨h1,h2,h3⟩:=ih;by_cases h:a≤level
  ·rw[List.takeWhile_cons,bMG Yax,bLU,bLU];refine⟨Yd,fun j hj=>?_,fun hj=>?_⟩
   ·cases j with
    |zero=>simpa using h
    |succ j=>simpa using h2 j Yd
   ·simpa using h3 Yd
  ·rw[List.takeWhile_cons,bLX Yax];exact⟨Yf,fun j hj=>by simp at hj,fun _=>Yap⟩
theorem UG{s:List Int}{level:Int}{m:Nat}(h1:m<s.length)(h2:∀j,j<m→s.getD j 0≤level)(h3:level<s.getD m 0):(xY s level s.length)[0]?= some (m:Int):=by
 unfold xY;obtain⟨n,hn⟩:∃n,s.length=m+(n+1):=⟨s.length-m-1,Yd⟩
 rw[hn,List.range_add,bMY,List.filter_eq_nil_iff.2 fun j hj=>by have:=h2 j (by simpa using hj);simpa using this,bMW,List.range_succ_eq_map,bMT,bOA,bMG (by simpa using h3)];simp
theorem aPV{s:List Int}{level:Int}(h:0<(xY s level s.length).length):(xY s level s.length)[(0:Int).toNat]?= some (C0 s level):=by
 obtain⟨m,hm,h1,h2,h3⟩:=FJ s level;rw[hm];by_cases hlt:m<s.length
 ·exact UG hlt h2 (h3 hlt)
 ·exfalso
  obtain rfl:m=s.length:=by omega
  unfold xY at h;rw[List.filter_eq_nil_iff.2 (fun j hj=>by have:=h2 j (by simpa using hj);simpa using this)]at h
  simp at h
theorem bBB{s:List Int}{level:Int}(h:¬0<(xY s level s.length).length):C0 s level=(s.length:Int):=by
 obtain⟨m,hm,h1,h2,h3⟩:=FJ s level;by_cases hlt:m<s.length
 ·exfalso
  have:=UG hlt h2 (h3 hlt);have:=(bLS.1 this).1;omega
 ·rw[hm,show m=s.length by omega]
theorem yZ(tv:Γ)(t:aW)(D:aC)(ht:gQ D tv t):Fn prog 293 #[tv] D (fun D' v=>∃lv,v=.tuple #[lv,qI (oB t true)]∧Sl D' BL 2 lv (if oB t true=0 then PH t else [])):=by
 have ht0:=ht;obtain⟨hv,lv,mv,rfl,hh,hl,hm⟩:=ht;refine Zw 30 func293 rfl fun h0=>aA<|Zy rfl fun q1 E1 hK O=>Zf rfl<|Zf rfl<|aJ<|Zv rfl lB rfl O jP<|gI rfl rfl rfl (fun D2 Y=>yA _ t true _ (ht0.up (Y _ Yf))) rfl bRD fun v2 D3 ν2 hN Z=>?_;obtain⟨wv,rfl,hwk⟩:=Z;refine Za rfl<|Zao rfl<|Zao rfl<|Zf rfl<|Zf rfl<|bG<|Za rfl<|Zaw rfl<|aF<|Zaf rfl (fun hc1=>?_) fun hc1=>?_
 ·refine Wax ?_;exact Zq [_,_] rfl bQ fun D hD=>⟨_,rfl,by rw[bLX hc1];exact Sl.nil⟩
 ·have he0:oB t true=0:=by omega
  obtain⟨hto,htn,wb,mb,R,U,V,tsv,es,cl,S,rfl,rfl,htw,hts,hS,hsp⟩:=hwk he0;have hlast:=hto.last;refine aQ<|aA<|Zf rfl<|bG<|Zj rfl mU rfl<|Zh 0 rfl aH rfl O rfl<|Zae rfl<|Za rfl<|aF<|Za0<|Zc (Nat×Γ×aD) (fun g=>(t.last+1).toNat-g.1) (fun g=>(g.1:Int)≤t.last+1∧bM 122 2 g.2.1 g.1 (YB ((List.range g.1).map (B2 t))) g.2.2) (fun g=>[(19,qI (g.1:Int)),(6,g.2.1)]) [(18,_),(4,_),(3,_),(2,_)] (fun g=>g.2.2++[(wb,qC [qI t.last,R,qI t.step,U,V,tsv,.map (some mb)] 285),(mb,.map es cl)]) (fun g=>[D3,E1,D]) (0,qN,[]) ⟨Yap,by simpa [YB]using bM.nil⟩ ⟨Ya,Ya,bRD⟩ Mm5 ?_
  rintro⟨k,v,ν⟩ ⟨h1,ha⟩;simp only at h1 ha;refine aA<|Zam rfl<|bW<|Zaf rfl (fun hc2=>?_) fun hc2=>?_
  ·have hk:(k:Int)≤t.last:=by simp only at hc2;omega
   refine aQ<|Za2<|Za0<|aA<|Za rfl<|Zf rfl<|aF<|aP<|Za rfl<|Za rfl<|Za rfl<|EP (A:=ν) (ν:=[(_,_),(_,_)]) rfl rfl rfl rfl (bMF rfl) (RD (cs:=[_,_,_,_,_,_,_])) (fun D5 hB=>TL t wb mb R U V tsv es cl S k _ (hts.up IF.up (hB _ Yf)) htn hto hS hsp Yd) rfl bRD fun v5 D6 _ hO hp5=>?_;obtain⟨rfl,rfl⟩:=hp5;refine Zt rfl U76 cN iC rfl (.cons rfl rfl .nil) fun hJ D901 hE I=>aU (A:=[]) (B:=[(_,_),(_,_)]) rfl U76 rfl rfl cN iC rfl OL rfl rfl rfl ha (lD.lit I) Yf rfl (by rw[EO];simp) Yk Yd (bMF rfl) rfl bRD fun v1 ν1 hF=>?_
   have hH:bM 122 2 v1 (k+1) (YB ((List.range (k+1)).map (B2 t))) ν1:=by rw[bND,bME,GI];exact hF
   refine Wan ?_;exact aL 14 (k+1,v1,ν1) ⟨Yn,hH⟩ Yn ⟨Ya,rfl,bRD⟩ rfl rfl Mm5 fun D h=>⟨D,bMJ _ (bMJ _ (h)),Le.refl D⟩
  ·have hk:(k:Int)=t.last+1:=by simp only at hc2 h1;omega
   refine Za5<|Za1<|Za1<|Za6<|Zay<|aA<|Za rfl<|Zf rfl<|Zf rfl<|aG<|dU (A:=[]) (B:=[(_,_),(_,_)]) ha rfl fun D8 hP hI=>?_;exact Zq [_,_] rfl bQ fun D hD=>⟨_,by rw[he0];rfl,by rw[bMG he0];exact(ZC Yd▸hI.rgs Yf Yd).up BL.up (hD _ Yf)⟩
theorem bIK(last step:Int)(hv lv mv:Γ)(s:List Int)(level:Int)(D:aC)(hs:(s.length:Int)=last+1)(R:s.length≤10):
  Fn prog 165 #[.agg #[qI last,hv,qI step,lv,mv],.agg (ints (dL s)).toArray,qI level] D (fun D' v=>Sl D' RI 1 v (xY s level s.length)):=by
 have O:=gL R;refine Zw 28 func165 rfl fun h0=>aA<|Zy rfl fun q1 E1 hI U=>Zy rfl fun q2 E2 hJ V=>Zf rfl<|bW<|Za2 ?_;have hsl:Sl E2 RI 1 (qS q2 s.length 10) s:=by have h:=aEJ (l:=0) (h:=s.length) V O Yd Yd Yd;rw[bPN,bPU,bPU]at h;rw[aNM]at h;exact h
 refine aP<|Zj rfl mU rfl<|Zh 0 rfl aH rfl U rfl<|Zae rfl<|aPP (h:=s.length) rfl U289 aI rfl rfl Yd Yd rfl bRD<|lX rfl U35 rfl rfl rfl bRD<|Za rfl<|aF<|Za0<|Zc (Nat×Γ×aD) (fun g=>s.length-g.1) (fun g=>g.1≤s.length∧bM 3 1 g.2.1 (xY s level g.1).length (ints (xY s level g.1)) g.2.2) (fun g=>[(14,qI (g.1:Int)),(6,g.2.1)]) [(13,_),(12,_),(2,_)] (fun g=>g.2.2++[]) (fun g=>[E2,E1,D]) (0,qN,[]) ⟨Yf,by simpa [ints,xY]using bM.nil⟩ ⟨Ya,Ya,bRD⟩ Mm5 ?_;rintro⟨k,v,ν⟩ ⟨h1,ha⟩;simp only at h1 ha;refine aA<|Zam rfl<|bW<|Zaf rfl (fun hc1=>?_) fun hc1=>?_
 ·have hk:k<s.length:=by simp only at hc1;omega
  obtain⟨x,hx⟩:=cR s k;have hwl:=aCV s level k;refine aQ<|Za2<|Za0<|aA<|Za rfl<|jA rfl hsl rfl hx fun b1 o1=>Zf rfl<|Zf rfl<|aJ<|Za rfl<|Za rfl<|Zaq rfl ?_;refine aF<|Zaf rfl (fun hc2=>?_) fun hc2=>?_
  ·refine aP<|Za rfl<|Za rfl<|Zt rfl U35 aI cO rfl (.cons rfl rfl .nil) fun hH D901 Y I=>?_;have Z:=Sl.ofInts (l:=[_]) (n:=1) (cap:=1) I rfl Yd Yd;refine aU (A:=[]) (B:=_) rfl U35 rfl rfl aI cO rfl kD rfl rfl rfl ha (lD.lit I) Yf rfl (by simp[ints]) Yk Yd (bMF rfl) rfl bRD fun v1 ν1 hB=>?_;have hE:bM 3 1 v1 (xY s level (k+1)).length (ints (xY s level (k+1))) ν1:=by rw[bBW hx hc2,bLT,←eV];exact hB
   refine Wan ?_;exact aL 18 (k+1,v1,ν1) ⟨Yn,hE⟩ Yn ⟨Ya,rfl,bRD⟩ rfl rfl Mm5 fun D h=>⟨D,bMJ _ (h),Le.refl D⟩
  ·refine Wca ?_;exact aL 13 (k+1,v,ν) ⟨Yn,by rw[bGN hx hc2];exact ha⟩ Yn ⟨Ya,rfl,bRD⟩ rfl rfl Mm5 (aK)
 ·obtain rfl:k=s.length:=by simp only at hc1;omega
  have hwl:=aCV s level s.length;refine Za5<|Za1<|Za1<|Za6<|Zay<|aA<|Za rfl<|Zf rfl<|aG<|dU (A:=[]) (B:=[]) ha rfl fun D8 hK hF=>?_;exact aE rfl fun D hD=>(hF.ints Yf Yd).up RI.up (hD _ Yf)
theorem XC(t:aW)(wb mb:Nat)(hv lv mv tsv:Γ)(es:Array MapEntry)(cl:Nat)(s:List Int)(level y:Int)(D:aC)(hs:(s.length:Int)=t.last+1)(I:s.length≤10):
  HO prog 98 [qP wb,.agg (ints (dL s)).toArray,qI level,qI y] D [(wb,qC [qI t.last,hv,qI t.step,lv,mv,tsv,.map (some mb)] 285),(mb,.map es cl)] (fun _ v ν'=>v=qI (C0 s level)∧ν'=[(wb,qC [qI t.last,hv,qI t.step,lv,mv,tsv,.map (some mb)] 285),(mb,.map es cl)]):=by
 have Z:=gL I;refine jF 29 func98 rfl rfl rfl rfl fun h0 hwl hwn=>aA<|Zy rfl fun q1 E1 hB R=>Zf rfl<|bW<|Za2<|bS [] 4 8 48<|Za rfl<|Zal rfl<|Zj rfl JI rfl<|dX (us:=[qI t.last,hv,qI t.step,lv,mv]) rfl lB jP rfl Mm0 Ybb rfl n4 rfl bRD<|cU rfl pA rfl R Yc Yad n4 rfl bRD ?_;refine Za rfl<|Zaa rfl (fun D1 U=>bIK t.last t.step hv lv mv s level _ hs I) fun v1 D1 U O=>Zf rfl<|aJ<|Za rfl<|Zah rfl U35 rfl O rfl<|Zaq rfl<|aF<|Zaf rfl (fun hc1=>?_) fun hc1=>?_
 ·have V:=aPV (s:=s) (level:=level) Yd;refine aA<|Za rfl<|jA rfl O rfl V fun b1 o1=>Wi ?_;exact Zai [] [] [_,_] [_] rfl ⟨rfl,bRD⟩ rfl fun D hD=>⟨rfl,rfl⟩
 ·have Y:=bBB (s:=s) (level:=level) Yd;refine aQ<|aA<|Za rfl<|Zal rfl<|Zj rfl JI rfl<|Zj rfl mU rfl<|Zo rfl aH rfl Mm0 rfl<|Zae rfl<|We ?_;exact Zai [] [] [_,_] [_] rfl ⟨rfl,bRD⟩ rfl fun D hD=>⟨by show Value.int _ _=_;rw[Y,hs],rfl⟩
theorem bFO(t:aW)(wb mb:Nat)(hv lv mv tsv:Γ)(es:Array MapEntry)(cl:Nat)(s:List Int)(a b:Int)(D:aC)(hs:(s.length:Int)=t.last+1)(R:s.length≤10)(I:0≤a)(hab:a≤b)(hbl:b≤t.last):
  HO prog 101 [qP wb,.agg (ints (dL s)).toArray,qI a,qI b] D [(wb,qC [qI t.last,hv,qI t.step,lv,mv,tsv,.map (some mb)] 285),(mb,.map es cl)] (fun _ v ν'=>v=qI (jK s a b)∧ν'=[(wb,qC [qI t.last,hv,qI t.step,lv,mv,tsv,.map (some mb)] 285),(mb,.map es cl)]):=by
 have O:=gL R;refine jF 13 func101 rfl rfl rfl rfl fun h0 hwl hwn=>aA<|Zy rfl fun Z E1 V U=>Zf rfl<|aJ<|cU rfl pA rfl U Yc Yad n4 rfl bRD<|Za rfl<|Za rfl<|Zd rfl (fun D1 Y=>HM (dL s) a b _ O I hab Yd)<|We ?_;exact Zai [] [] [_,_] [_] rfl ⟨rfl,bRD⟩ rfl fun D hD=>⟨by show Value.int _ _=_;rw[N2 I hab Yd],rfl⟩
def aAL(F:List Int→Int)(n:Int)(l:List (List Int)):Int×Int:=l.foldl (fun p s=>(min p.1 (F s),max p.2 (F s))) (n,n)
theorem aRA{t:aW}{F:List Int→Int}{n:Int}{k:Nat}{u:List Int}(hx:(bL t)[k]?= some u):aAL F n ((bL t).take (k+1))=(min (aAL F n ((bL t).take k)).1 (F u),max (aAL F n ((bL t).take k)).2 (F u)):=by
 unfold aAL;rw[bLW,hx,bNM];rfl
theorem VJ(F:List Int→Int):∀(l:List (List Int)) (p:Int×Int),l.foldl (fun p s=>(min p.1 (F s),max p.2 (F s))) p=((l.map F).foldl min p.1,(l.map F).foldl max p.2)
 | [],_=>rfl
 |s::l,p=>by rw[bMO,VJ F l];rfl
theorem bDL{t:aW}{F:List Int→Int}{O:List Int}{lo hi:Int}(I:(bL t)[0]?= some O)(h:(lo,hi)=aAL F (F O) (bL t)):lE (lo,hi)=lE (rC ((bL t).map F),pH ((bL t).map F)):=by
 rw[h];cases ht:bL t with
 |nil=>rw[ht]at I;simp at I
 |cons a l=>
  rw[ht]at I;obtain rfl:a=O:=by simpa using I
  unfold aAL;rw[VJ,bMT,bMO,bMO,Int.min_self,Int.max_self];rfl
theorem l4{t:aW}{fine:Bool}(h:oB t fine=0):fine=true:=by
 unfold oB at h;split at h
 ·rename_i hf;exact absurd h hf
 ·split at h
  ·omega
  ·rename_i hf;simpa using hf
theorem XF{last a b:Int}(h:tD last a b=true):0≤a∧a≤b∧b≤last:=by
 unfold tD FO at h;simp only[bLQ,LT,bN]at h;omega
theorem DU(t:aW)(wb mb:Nat)(hv lv mv tsv:Γ)(es:Array MapEntry)(cl:Nat)(F:List Int→Int)(fid:Nat)(x y:Int)(D:aC)(hts:Sl D IF 10 tsv (bL t))(htn:bL t≠[])(hto:IW t)
  (hf:∀s∈bL t,∀D',Le D D'→HO prog fid [qP wb,.agg (ints (dL s)).toArray,qI x,qI y] D' [(wb,qC [qI t.last,hv,qI t.step,lv,mv,tsv,.map (some mb)] 285),(mb,.map es cl)] fun _ v ν'=>v=qI (F s)∧ν'=[(wb,qC [qI t.last,hv,qI t.step,lv,mv,tsv,.map (some mb)] 285),(mb,.map es cl)]):
  HO prog 99 [.agg #[.func (.func fid) #[] #[]],qP wb,qI x,qI y] D [(wb,qC [qI t.last,hv,qI t.step,lv,mv,tsv,.map (some mb)] 285),(mb,.map es cl)] (fun _ v ν'=>v=lE (rC ((bL t).map F),pH ((bL t).map F))∧ν'=[(wb,qC [qI t.last,hv,qI t.step,lv,mv,tsv,.map (some mb)] 285),(mb,.map es cl)]):=by
 have hll:=hts.len;have hlast:=hto.last;have hN:=hto.len;obtain⟨I,O⟩:∃s,(bL t)[0]?= some s:=⟨(bL t)[0]'(bPC.2 htn),bLR _⟩
 have hs0m:=n5 O;have hO:=rZ hto hs0m;have U:=gL (l:=I) Yd;refine jF 48 func99 rfl rfl rfl rfl fun h0 hwl hwn=>aA<|Zy rfl fun q1 E1 hX R=>Zad rfl iC rfl fun q2=>bW<|bS [] 6 13 2044<|Zj rfl IU rfl<|Zh 0 rfl aES rfl R rfl<|Za rfl<|Za rfl<|Zal rfl<|Zj rfl lV rfl ?_;refine Zo rfl tH rfl Mm1 rfl<|Zx rfl U283 jL rfl hts rfl O fun b1 o1 V Y hP Z=>?_;obtain rfl:V=ints (dL _):=Y;refine cU rfl pA rfl Z Yc Xci n4 rfl bRD<|Za rfl<|Za rfl<|EP (A:=[(_,_)]) (ν:=[(_,_),(_,_)]) rfl rfl rfl rfl Ybd (RD (cs:=[_,_,_,_,_,_,_])) (fun D5 hB=>hf I hs0m _ (hB _ Yf)) rfl bRD fun v5 D6 _ hY hp5=>?_
 obtain⟨rfl,rfl⟩:=hp5;refine Zf rfl<|aJ<|Za rfl<|Za rfl<|Zu [qI (F I),qI (F I)] rfl zV iC rfl<|Zad rfl iC rfl fun q3=>Zz rfl cN ζ<|bG<|Za rfl<|Zal rfl<|Zj rfl lV rfl<|Zo rfl tH rfl Mm2 rfl ?_;refine Zah rfl U283 rfl hts rfl<|Za rfl<|aF<|Za0<|Zc (Nat×Int×Int) (fun g=>(bL t).length-g.1) (fun g=>g.1≤(bL t).length∧g.2=aAL F (F I) ((bL t).take g.1)) (fun g=>[(33,qI (g.1:Int))]) [(32,_),(31,_),(10,_),(8,_),(4,_),(1,_),(2,_),(3,_)] (fun g=>[(q3,qC [qI g.2.1,qI g.2.2] 122),(q2,qC [qI 0,qI 0] 122)]++[(wb,qC [qI t.last,hv,qI t.step,lv,mv,tsv,.map (some mb)] 285),(mb,.map es cl)]) (fun g=>[D6,E1,D]) (0,F I,F I) ⟨Yf,rfl⟩ ⟨Ya,bRD⟩ Mm5 ?_;rintro⟨k,lo,hi⟩ ⟨h1,hI⟩;simp only at h1 hI;refine aA<|Zam rfl<|bW<|Zaf rfl (fun hc1=>?_) fun hc1=>?_
 ·have hk:k<(bL t).length:=by simp only at hc1;omega
  obtain⟨u,hx⟩:=cR (bL t) k;have hum:=n5 hx;have hul:=rZ hto hum;have hR:=gL (l:=u) Yd;refine aQ<|Za2<|Za0<|aA<|Zx rfl U283 jL rfl hts rfl hx fun b2 o2 hE hF hS hH=>?_;obtain rfl:hE=ints (dL _):=hF;refine cU rfl pA rfl hH Yc Xci n4 rfl bRD<|Zad rfl i7 rfl fun q4=>bE rfl rfl rfl rfl jL Yao Yb ζ Yh bRD<|aF<|fD R Yf fun hq1k=>?_
  have rA:q1∉[wb,mb]:=fun h=>hq1k (LE _ (LE _ (LE _ h)))
  refine pW fun hnd=>?_;simp only[bMT,bQB,bNP,bLO,n4,bNV,bQX,bOF,bMW]at hnd;have rB:q3∉[wb,mb]:=by simp only[bLO,n4,bNV,bQX];exact⟨hnd.2.1.2.1,hnd.2.1.2.2⟩
  have hq4:q4∉[wb,mb]:=by simp only[bLO,n4,bNV,bQX];exact⟨hnd.1.2.2.1,hnd.1.2.2.2⟩
  refine iK [wb,mb] 3 [0,1,2,3,4,5,6,7,8,9] [false,true,true,true,true,true,true,true,false,false] [(false,0),(true,1),(true,2),(true,3),(true,4),(true,5),(true,6),(true,7),(false,8),(false,9)] bB (fun _ _ _ h=>jV (P:=prog) (fn:=f99) _ _ _ h) Yg rfl<|bI rfl kK rfl Mm1 cN Ym rfl bRD<|Zj rfl IU rfl<|dW rfl (k:=0) aES rfl R Yc rfl Ym rfl bRD<|Za rfl<|bI rfl pA rfl Mm0 Xci Ym rfl bRD<|Za rfl<|Za rfl<|EP (A:=[(_,_),(_,_),(_,_)]) (ν:=[(_,_),(_,_)]) rfl rfl rfl rfl Ybd (RD (cs:=[_,_,_,_,_,_,_])) (fun D7 hJ=>hf u hum _ (hJ _ Yf)) rfl bRD fun v7 D8 _ hD8 hK=>?_;obtain⟨rfl,rfl⟩:=hK;refine Zd rfl (fun D1 hD1=>vF (lo,hi) (F u) _)<|Zz rfl cN (.tail ζ)<|Zan<|Wc ?_;exact aL 16 (k+1,min lo (F u),max hi (F u)) ⟨Yn,by rw[aRA hx,←hI]⟩ Yn ⟨Ya,bRD⟩ rfl rfl (List.Sublist.cons _ Mm5) fun D h=>⟨D,bMJ _ (h),Le.refl D⟩
 ·obtain rfl:k=(bL t).length:=by simp only at hc1;omega
  rw[bMP]at hI;have hfin:=bDL O hI;refine Za5<|Za1<|Za1<|Za6<|Zay<|aA<|Zac rfl kK rfl Mm0 cN<|Zz rfl cN (.tail ζ)<|aG ?_;exact Zai [(_,_),(_,_)] [] [_,_] [_] rfl ⟨⟨_,_,_,rfl,List.Mem.tail _ Mm0,Or.inr ⟨kK,cN,rfl⟩⟩,bRD⟩ rfl fun D hD=>⟨hfin,rfl⟩
theorem aNX(tv:Γ)(t:aW)(row:Int)(D:aC)(ht:gQ D tv t):Fn prog 46 #[tv,qI row] D (fun _ v=>v=.tuple #[lE (if oB t (gU row 0 ((t.levels.length:Int)-1))=0 then aNK t (t.levels.getD row.toNat 0)else(0,0)),qI (oB t (gU row 0 ((t.levels.length:Int)-1)))]):=by
 have ht0:=ht;obtain⟨hv,lv,mv,rfl,hh,hl,hm⟩:=ht;refine Zw 28 func46 rfl fun h0=>aA<|Zy rfl fun q1 E1 hF I=>Zad rfl iC rfl fun q2=>Zf rfl<|bW<|bS [] 4 10 398<|Zv rfl lB rfl I jP<|Zv rfl lB rfl I jP<|Za rfl<|Zd rfl (fun D1 V=>bFY _ t row _ (ht0.up (V _ Yf)))<|gI rfl rfl rfl (fun D3 Y=>yA _ t (gU row 0 ((t.levels.length:Int)-1)) _ (ht0.up (Y _ Yf))) rfl bRD fun v3 D4 ν3 hH Z=>?_;obtain⟨wv,rfl,hwk⟩:=Z;refine Za rfl<|Zao rfl<|Zao rfl<|Zf rfl<|Zf rfl<|bG<|Za rfl<|Zaw rfl<|aF<|Zaf rfl (fun hc1=>?_) fun hc1=>?_
 ·refine aA<|Zu [qI 0,qI 0] rfl zV iC rfl<|Za rfl<|Zz rfl cN (.app ζ)<|Wi ?_;exact Zq [_,_] rfl ⟨⟨_,_,_,rfl,(GT _ Mm0),Or.inr ⟨kK,Xcg,rfl⟩⟩,rfl,bRD⟩ fun D hD=>Xcj
 ·have he0:oB t (gU row 0 ((t.levels.length:Int)-1))=0:=by omega
  obtain⟨hto,htn,wb,mb,O,R,U,tsv,es,cl,S,rfl,rfl,htw,hts,hS,hsp⟩:=hwk he0;have hrow:=l4 he0;rw[bN]at hrow;have hlev:t.levels[row.toNat]?= some (t.levels.getD row.toNat 0):=by rw[bNR,bLR Yd];rfl
  refine aQ<|aA<|Zu [.func (.func 98) #[] #[]] rfl aBI aEK rfl<|Za rfl<|Zj rfl lR rfl<|Zh 3 rfl cF rfl I rfl<|Za rfl<|jA rfl hl rfl hlev (fun b1 o1=>gH (A:=[]) (ν:=[(_,_),(_,_)]) (B:=[(_,_)]) rfl rfl rfl rfl Ybd (RD (cs:=[_,_,_,_,_,_,_])) (fun D7 hB=>DU t wb mb O R U tsv es cl (C0 · (t.levels.getD row.toNat 0)) _ _ _ _ (hts.up IF.up (hB _ Yf)) htn hto fun s hsm D' hD'=>XC t wb mb O R U tsv es cl s _ _ D' (by have:=rZ hto hsm;have:=hto.len;omega) (by have:=rZ hto hsm;have:=hto.len10;omega)) rfl bRD fun v7 D8 _ hI hE=>?_);obtain⟨rfl,rfl⟩:=hE;refine Zz rfl cN (.tail (.tail ζ))<|We ?_;exact Zq [_,_] rfl ⟨⟨_,_,_,rfl,Mm2,Or.inr ⟨kK,Xcg,rfl⟩⟩,rfl,bRD⟩ fun D hD=>Xbr
theorem bHT(tv:Γ)(t:aW)(a b:Int)(D:aC)(ht:gQ D tv t):Fn prog 47 #[tv,qI a,qI b] D (fun _ v=>v=.tuple #[qI (if oB t (tD t.last a b)=0 then bJP t a b else 0),qI (oB t (tD t.last a b))]):=by
 have ht0:=ht;obtain⟨hv,lv,mv,rfl,hh,hl,hm⟩:=ht;refine Zw 28 func47 rfl fun h0=>aA<|Zy rfl fun q1 E1 hF I=>Zf rfl<|Zf rfl<|bW<|bS [] 4 11 798<|Zv rfl lB rfl I jP<|Zv rfl lB rfl I jP<|Za rfl<|Za rfl<|Zd rfl (fun D1 V=>QV _ t a b _ (ht0.up (V _ Yf))) ?_;refine gI rfl rfl rfl (fun D3 Y=>yA _ t (tD t.last a b) _ (ht0.up (Y _ Yf))) rfl bRD fun v3 D4 ν3 hH Z=>?_;obtain⟨wv,rfl,hwk⟩:=Z;refine Za rfl<|Zao rfl<|Zao rfl<|Zf rfl<|Zf rfl<|bG<|Za rfl<|Zaw rfl<|aF<|Zaf rfl (fun hc1=>?_) fun hc1=>?_
 ·refine Wax ?_;exact Zq [_,_] rfl bQ fun D hD=>by show Value.tuple _=_;rw[bLX hc1]
 ·have he0:oB t (tD t.last a b)=0:=by omega
  obtain⟨hto,htn,wb,mb,O,R,U,tsv,es,cl,S,rfl,rfl,htw,hts,hS,hsp⟩:=hwk he0;have hrow:=XF (l4 he0);refine aQ<|aA<|Zu [.func (.func 101) #[] #[]] rfl aBI aEK rfl<|Za rfl<|Za rfl<|Za rfl<|gH (A:=[]) (ν:=[(_,_),(_,_)]) (B:=[]) rfl rfl rfl rfl Ybd (RD (cs:=[_,_,_,_,_,_,_])) (fun D7 hB=>DU t wb mb O R U tsv es cl (jK · a b) _ _ _ _ (hts.up IF.up (hB _ Yf)) htn hto fun s hsm D' hD'=>bFO t wb mb O R U tsv es cl s _ _ D' (by have:=rZ hto hsm;have:=hto.len;omega) (by have:=rZ hto hsm;have:=hto.len10;omega) hrow.1 hrow.2.1 hrow.2.2) rfl bRD fun v7 D8 _ hI hE=>?_
  obtain⟨rfl,rfl⟩:=hE;refine bCN rfl U122 rfl aH rfl rfl rfl bRD<|Zf rfl<|We ?_;exact Zq [_,_] rfl bQ fun D hD=>Xbr
end L2
open Go.Proofs
namespace L3
open L1
open C1
end L3
namespace L3
open L1
open C3
def ZK(lo:Int)(k:Nat):List Int:=(List.range k).map fun i:Nat=>lo+(i:Int)
theorem aPM{s n lo hi:Int}(h:s≠n):gC s n lo hi=[s]:=by unfold gC;rw[bMG h]
theorem aQM{s n lo hi:Int}(h:¬s≠n):gC s n lo hi=ZK lo (hi+1-lo).toNat:=by unfold gC;rw[bLX h];rfl
theorem lI(n lo hi:Int)(D:aC):Fn prog 71 #[qI n,qI lo,qI hi] D (fun _ v=>v=.bool (C1.gU n lo hi)):=by
 refine Zw 15 func71 rfl fun h0=>Wab ?_;refine' bU 4 (s:=10) (p:=14) rfl (fun I=>?_) (fun I=>?_) ?_;rotate_left
 ·refine Wbe ?_;exact aN 3
 ·refine Wb ?_;exact aN 3
 refine We ?_;exact aE rfl fun D hD=>rfl
theorem L9(sv:Γ)(x:Int)(xs:List Int)(D:aC)(hS:Sl D RI 1 sv (x::xs)):
  Fn prog 173 #[sv] D (fun _ v=>v=qI (xs.foldl min x)):=by
 refine Zw 5 func173 rfl fun h0=>War ?_;exact aE rfl fun D hD=>rfl
theorem bCR(r:Int×Int)(n:Int)(D:aC):Fn prog 295 #[lE r,qI n] D (fun _ v=>v=.bool (C1.gU n r.1 r.2)):=by
 refine Zw 11 func295 rfl fun h0=>aA<|Zy rfl fun U E1 O I=>Zf rfl<|aJ<|Za rfl<|Zj rfl yS rfl<|Zh 0 rfl aH rfl I rfl<|Zj rfl yX rfl<|Zh 1 rfl aH rfl I rfl<|Zd rfl (fun V R=>lI _ _ _ _)<|Zf rfl ?_;refine aG ?_;exact aE rfl fun D hD=>rfl
theorem LG(r:Int×Int)(n:Int)(D:aC):Fn prog 142 #[lE r,qI n] D (fun _ v=>v=lE (min r.1 n,max r.2 n)):=by
 refine Zw 15 func142 rfl fun h0=>aA<|Zy rfl fun q1 E1 Z R=>Zad rfl lL rfl fun q2=>bW<|iK [] 4 [0,1,2,5,6,7,8,3,4,9,10] [false,false,true,true,true,true,true,true,true,false,false] [(false,0),(false,1),(true,2),(true,5),(true,6),(true,7),(true,8),(true,3),(true,4),(false,9),(false,10)] bB (fun _ _ _ h=>fM (P:=prog) (fn:=f142) _ _ _ h) Yg rfl<|Zj rfl yS rfl<|Zh 0 rfl aH rfl R rfl<|Za rfl<|Zj rfl yX rfl<|Zh 1 rfl aH rfl R rfl<|Za rfl ?_;refine nZ rfl rfl rfl rfl bRD<|Zt rfl U35 aI cO rfl (.cons rfl rfl (.cons rfl rfl .nil)) fun Y D901 U I=>?_;have O:=Sl.ofInts (l:=[_,_]) (n:=2) (cap:=2) I rfl Yd Yd;refine Zd rfl (fun D1 V=>L9 _ r.1 [n] _ (O.up RI.up (V _ Yf)))<|Zu [qI (min r.1 n),qI (max r.2 n)] rfl A2 lL rfl<|Zz rfl eF ζ<|aG ?_;exact Zq [_] rfl ⟨⟨_,_,_,rfl,Mm0,Or.inr ⟨lZ,Xbd,rfl⟩⟩,bRD⟩ fun D hD=>rfl
theorem HX(sv fv:Γ)(xs:List cB)(p:cB→Bool)(D:aC)(hS:Sl D kE 3 sv xs)(hp:dB prog D GJ fv p):
  Fn prog 308 #[sv,fv] D (fun _ v=>v=qI (idxOf p xs)):=by
 have hl:=hS.len;obtain⟨f,c1,c2,rfl,hf⟩:=hp;refine Zw 19 func308 rfl fun h0=>aA<|Zf rfl<|bG<|Za rfl<|eN rfl U80 rfl Yl rfl rfl bRD<|Wd ?_;rintro k ⟨h1,h2⟩;refine aA<|Zam rfl<|bW<|Zaf rfl (fun hc1=>?_) fun hc1=>?_
 ·have hk:k<xs.length:=by omega
  obtain⟨x,hx⟩:=cR xs k;refine aQ<|Za2<|Za0<|aA<|Za rfl<|Zf rfl<|aJ<|Za rfl<|Za rfl<|Za rfl<|eA rfl U80 cS rfl Yl rfl Yd Yl rfl bRD fun Y Z I O V R=>?_;obtain rfl:I=[qI _,qI _,qI _]:=O;refine Zv rfl nM rfl R cS<|Zd rfl (fun D1 U=>hf x _ (U _ Yf))<|aF<|Zag rfl (fun hc2=>?_) fun hc2=>?_
  ·refine Wbc ?_;exact aE rfl fun D hD=>Xam
  ·refine Wca ?_;have hpx:p x=false:=hc2;have h3:(xs.take (k+1)).any p=false:=by rw[bLW,hx,bPJ,h2];simp[hpx]
   exact aL 12 (k+1) ⟨Yd,h3⟩ Yd ⟨Ya,bRD⟩ rfl rfl Mm5 (aK)
 ·refine Wk ?_;exact aE rfl fun D hD=>Xah
theorem AK(sv fv:Γ)(xs:List cB)(p:cB→Bool)(D:aC)(hS:Sl D kE 3 sv xs)(hp:dB prog D GJ fv p):
  Fn prog 237 #[sv,fv] D (fun _ v=>v=.bool (xs.any p)):=by
 refine Zw 9 func237 rfl fun h0=>aA<|Zf rfl<|aJ<|Za rfl<|Za rfl<|Zd rfl (fun O I=>HX _ _ xs p _ (Sl.at kE.up I Yl Yf) (hp.up (I _ Yf)))<|Ww ?_;exact aE rfl fun D hD=>Xai
theorem aUO(b:Nat)(fv:Γ)(p:cB→Bool)(x:cB)(D:aC)(hp:dB prog D GJ fv p)(hB:At D b 0 [fv]):
  Fn prog 238 #[GJ x,qP b] D (fun _ v=>v=.bool (!p x)):=by
 obtain⟨f,c1,c2,rfl,hf⟩:=hp;refine Zw 8 func238 rfl fun h0=>aA<|Zy rfl fun U E1 R I=>Zf rfl<|aJ<|Zh 0 rfl aWS rfl hB rfl<|Zv rfl nM rfl I cS<|Wv ?_;exact aE rfl fun D hD=>rfl
theorem bCL(sv fv:Γ)(xs:List cB)(p:cB→Bool)(D:aC)(hS:Sl D kE 3 sv xs)(hp:dB prog D GJ fv p)(h1:fv.cells=#[fv]):
  Fn prog 171 #[sv,fv] D (fun _ v=>v=.bool (xs.all p)):=by
 refine Zw 9 func171 rfl fun h0=>aA<|sW (vs:=[fv]) rfl rfl h1 rfl bRD fun b O I hB=>Zf rfl<|aJ<|Za rfl<|Zax rfl<|Zd rfl (fun O I=>AK _ _ xs (fun x=> !p x) _ (Sl.at kE.up I Yl Yf) ⟨_,[],[qP b],rfl,fun x R hl=>aUO b fv p x R (hp.up ((I _ Yf).trans hl)) (hB.up ((I _ Yf).trans hl))⟩)<|Zas rfl<|We ?_;exact aE rfl fun D hD=>Xan
theorem HW(sv fv:Γ)(xs:List Cn)(p:Cn→Bool)(D:aC)(hS:Sl D vY 3 sv xs)(hp:dB prog D bFC fv p):
  Fn prog 309 #[sv,fv] D (fun _ v=>v=qI (idxOf p xs)):=by
 have hl:=hS.len;obtain⟨f,c1,c2,rfl,hf⟩:=hp;refine Zw 19 func309 rfl fun h0=>aA<|Zf rfl<|bG<|Za rfl<|eN rfl U81 rfl Yl rfl rfl bRD<|Wd ?_;rintro k ⟨h1,h2⟩;refine aA<|Zam rfl<|bW<|Zaf rfl (fun hc1=>?_) fun hc1=>?_
 ·have hk:k<xs.length:=by omega
  obtain⟨x,hx⟩:=cR xs k;refine aQ<|Za2<|Za0<|aA<|Za rfl<|Zf rfl<|aJ<|Za rfl<|Za rfl<|Za rfl<|eA rfl U81 wO rfl Yl rfl Yd Yl rfl bRD fun Y Z I O V R=>?_;obtain rfl:I=[qI _,qI _,qI _]:=O;refine Zv rfl NO rfl R wO<|Zd rfl (fun D1 U=>hf x _ (U _ Yf))<|aF<|Zag rfl (fun hc2=>?_) fun hc2=>?_
  ·refine Wbc ?_;exact aE rfl fun D hD=>Xam
  ·refine Wca ?_;have hpx:p x=false:=hc2;have h3:(xs.take (k+1)).any p=false:=by rw[bLW,hx,bPJ,h2];simp[hpx]
   exact aL 12 (k+1) ⟨Yd,h3⟩ Yd ⟨Ya,bRD⟩ rfl rfl Mm5 (aK)
 ·refine Wk ?_;exact aE rfl fun D hD=>Xah
theorem AF(sv fv:Γ)(xs:List Cn)(p:Cn→Bool)(D:aC)(hS:Sl D vY 3 sv xs)(hp:dB prog D bFC fv p):
  Fn prog 239 #[sv,fv] D (fun _ v=>v=.bool (xs.any p)):=by
 refine Zw 9 func239 rfl fun h0=>aA<|Zf rfl<|aJ<|Za rfl<|Za rfl<|Zd rfl (fun O I=>HW _ _ xs p _ (Sl.at vY.up I Yl Yf) (hp.up (I _ Yf)))<|Ww ?_;exact aE rfl fun D hD=>Xai
theorem aUD(b:Nat)(fv:Γ)(p:Cn→Bool)(x:Cn)(D:aC)(hp:dB prog D bFC fv p)(hB:At D b 0 [fv]):
  Fn prog 240 #[bFC x,qP b] D (fun _ v=>v=.bool (!p x)):=by
 obtain⟨f,c1,c2,rfl,hf⟩:=hp;refine Zw 8 func240 rfl fun h0=>aA<|Zy rfl fun U E1 R I=>Zf rfl<|aJ<|Zh 0 rfl bBE rfl hB rfl<|Zv rfl NO rfl I wO<|Wv ?_;exact aE rfl fun D hD=>rfl
theorem aDL(sv fv:Γ)(xs:List Cn)(p:Cn→Bool)(D:aC)(hS:Sl D vY 3 sv xs)(hp:dB prog D bFC fv p)(h1:fv.cells=#[fv]):
  Fn prog 172 #[sv,fv] D (fun _ v=>v=.bool (xs.all p)):=by
 refine Zw 9 func172 rfl fun h0=>aA<|sW (vs:=[fv]) rfl rfl h1 rfl bRD fun b O I hB=>Zf rfl<|aJ<|Za rfl<|Zax rfl<|Zd rfl (fun O I=>AF _ _ xs (fun x=> !p x) _ (Sl.at vY.up I Yl Yf) ⟨_,[],[qP b],rfl,fun x R hl=>aUD b fv p x R (hp.up ((I _ Yf).trans hl)) (hB.up ((I _ Yf).trans hl))⟩)<|Zas rfl<|We ?_;exact aE rfl fun D hD=>Xan
theorem aSB(bv:Γ)(b:bA)(l:cB)(D:aC)(hb:gD D bv b)(hn:0≤b.chairs∧b.chairs≤100):Fn prog 169 #[bv,GJ l] D (fun _ v=>v=.bool (rN b.chairs l)):=by
 obtain⟨lv,cv,rfl,hl,hc⟩:=hb;refine Zw 24 func169 rfl fun h0=>aA<|Zy rfl fun q1 E1 V O=>Zy rfl fun q2 E2 Y I=>Zf rfl<|aJ<|Zj rfl t6 rfl<|Zh 0 rfl aH rfl I rfl<|Zd rfl (fun D1 Z=>lI _ _ _ _)<|Za rfl ?_;refine' bU 7 (s:=8) (p:=15) rfl (fun R=>?_) (fun R=>?_) ?_;rotate_left
 ·refine Zk rfl rU rfl<|Zi 1 rfl aH rfl I rfl<|Zk rfl vP rfl<|Zi 0 rfl aH rfl O rfl<|xF rfl rfl rfl Ye rfl ⟨_,rfl,rfl⟩<|Ze rfl (fun D2 hB=>lI _ _ _ _)<|Zaj rfl ?_;exact aN 6
 ·refine Wo ?_;exact aN 6
 refine Za rfl ?_;refine' bU 7 (s:=16) (p:=23) rfl (fun U=>?_) (fun U=>?_) ?_;rotate_left
 ·refine Zk rfl nR rfl<|Zi 2 rfl aH rfl I rfl<|Zk rfl vP rfl<|Zi 0 rfl aH rfl O rfl<|xF rfl rfl rfl Ye rfl ⟨_,rfl,rfl⟩<|Ze rfl (fun D3 hE=>lI _ _ _ _)<|Zaj rfl ?_;exact aN 6
 ·refine Wo ?_;exact aN 6
 refine We ?_;exact aE rfl fun D hD=>rfl
theorem aKF(bv:Γ)(b:bA)(c:Cn)(D:aC)(hb:gD D bv b):Fn prog 170 #[bv,bFC c] D (fun _ v=>v=.bool (sS b.lines.length c)):=by
 obtain⟨lv,cv,rfl,hl,hc⟩:=hb;refine Zw 31 func170 rfl fun h0=>aA<|Zy rfl fun q1 E1 Y O=>Zy rfl fun q2 E2 Z I=>Zf rfl<|aJ<|Zj rfl s8 rfl<|dY rfl (k:=1) lZ eF rfl I Yc rfl rfl n4 rfl bRD<|Zad rfl lL rfl fun q3=>Zz rfl eF ζ<|aJ<|Zj rfl R1 rfl ?_;refine Zh 0 rfl aH rfl I rfl<|Zj rfl dN rfl<|Zh 3 rfl hG rfl O rfl<|Zah rfl U80 rfl hl rfl<|Zd rfl (fun D1 hB=>lI _ _ _ _)<|Za rfl ?_;refine' bU 4 (s:=14) (p:=18) rfl (fun R=>?_) (fun R=>?_) ?_;rotate_left
 ·refine Zk rfl yS rfl<|Zp rfl aH rfl Mm0 rfl<|Wj ?_;exact aN 3
 ·refine Wb ?_;exact aN 3
 refine Za rfl ?_;refine' bU 6 (s:=19) (p:=25) rfl (fun U=>?_) (fun U=>?_) ?_;rotate_left
 ·refine Zk rfl yS rfl<|Zp rfl aH rfl Mm0 rfl<|Zk rfl yX rfl<|Zp rfl aH rfl Mm0 rfl<|Wj ?_;exact aN 5
 ·refine Wbf ?_;exact aN 5
 refine Za rfl ?_;refine' bU 4 (s:=26) (p:=30) rfl (fun V=>?_) (fun V=>?_) ?_;rotate_left
 ·refine Zk rfl yX rfl<|Zp rfl aH rfl Mm0 rfl<|Wj ?_;exact aN 3
 ·refine Wb ?_;exact aN 3
 refine We ?_;exact aE rfl fun D hD=>rfl
theorem NY(s n lo hi:Int)(D:aC)(h1: -10≤lo∧lo≤10)(h2: -10≤hi∧hi≤100):Fn prog 241 #[qI s,qI n,qI lo,qI hi] D (fun D' v=>Sl D' RI 1 v (gC s n lo hi)):=by
 refine Zw 26 func241 rfl fun h0=>aA<|Zf rfl<|bG<|Za rfl<|Za rfl<|Zaw rfl<|aF<|Zaf rfl (fun hc1=>?_) fun hc1=>?_
 ·refine aA<|Za rfl<|Zt rfl U35 aI cO rfl (.cons rfl rfl .nil) fun hH D901 U O=>?_;have R:=Sl.ofInts (l:=[_]) (n:=1) (cap:=1) O rfl Yd Yd;refine Wi ?_;exact aE rfl fun D hD=>by rw[aPM hc1];exact R.up RI.up (hD _ Yf)
 ·refine aQ<|bZ<|Za rfl<|Zf rfl<|aF<|Za0<|fZ (γ:=Nat×Γ×aD) (fun g=>(hi+1-lo).toNat-g.1) (fun g=>g.1≤(hi+1-lo).toNat∧bM 3 1 g.2.1 g.1 (ints (ZK lo g.1)) g.2.2) (fun g=>[(8,g.2.1),(9,qI (lo+(g.1:Int)))]) [(3,_)] (fun g=>g.2.2++[]) (fun g=>[D]) (0,qN,[]) ⟨Yf,by simpa [ints,ZK]using bM.nil⟩ ⟨Ya,Ya,bRD⟩ ⟨rfl,bRD⟩ Mm5 (aK) ?_;rintro⟨k,v,ν⟩ ⟨V,ha⟩;simp only at V ha;refine bZ<|Za rfl<|Za rfl<|gX rfl rfl rfl rfl bRD<|aF<|Zaf rfl (fun hc2=>?_) (fun hc2=>?_)
  ·simp only at hc2;refine aQ<|Za2<|Za0<|aP<|Za rfl<|Za rfl<|Zt rfl U35 aI cO rfl (.cons rfl rfl .nil) fun hI hJ Y I=>?_;have Z:=Sl.ofInts (l:=[_]) (n:=1) (cap:=1) I rfl Yd Yd;refine aU (A:=[]) (B:=_) rfl U35 rfl rfl aI cO rfl kD rfl rfl rfl ha (lD.lit I) Yf rfl (by simp[ZK]) Yk Yd (bMF rfl) rfl bRD fun v1 ν1 hB=>?_;have hE:bM 3 1 v1 (k+1) (ints (ZK lo (k+1))) ν1:=by unfold ZK;rw[bND,bME,bPA,←eV];exact hB
   refine Wt ?_;exact aL 13 (k+1,v1,ν1) ⟨Yn,hE⟩ Yn ⟨rfl,(by show some (Value.int _ _)=some (Value.int _ _);congr 2;push_cast;omega),bRD⟩ rfl rfl Mm5 fun D h=>⟨D,bMJ _ (h),Le.refl D⟩
  ·have hk:k=(hi+1-lo).toNat:=by simp only at hc2;omega
   rw[hk]at ha;refine Za5<|Za1<|Za1<|Za6<|Zay<|aA<|Za rfl<|Zf rfl<|aG<|dU (A:=[]) (B:=[]) ha rfl fun D2 hK hF=>?_;exact aE rfl fun D hD=>by rw[aQM hc1];exact(hF.ints (by simp[ZK]) Yd).up RI.up (hD _ Yf)
def bJE(n:Int)(l:cB)(x c:Int):List cB:=(gC l.token (-1) 0 (n-1)).map fun t=>⟨x,c,t⟩
def bKR(n:Int)(l:cB)(x:Int):List cB:=(gC l.chair (-1) 0 (n-1)).flatMap (bJE n l x)
def aVV(n:Int)(l:cB)(k:Nat):List cB:=((gC l.kind 0 1 2).take k).flatMap (bKR n l)
def aTR(n:Int)(l:cB)(k:Nat)(x:Int)(j:Nat):List cB:=aVV n l k++((gC l.chair (-1) 0 (n-1)).take j).flatMap (bJE n l x)
def aKI(n:Int)(l:cB)(k:Nat)(x:Int)(j:Nat)(c:Int)(i:Nat):List cB:=aTR n l k x j++((gC l.token (-1) 0 (n-1)).take i).map fun t=>⟨x,c,t⟩
theorem aEQ{n:Int}{l:cB}:aVV n l (gC l.kind 0 1 2).length=cK n l:=by unfold aVV;rw[bMP];rfl
theorem aPG{n:Int}{l:cB}{k:Nat}{x:Int}:aTR n l k x 0=aVV n l k:=by unfold aTR;simp
theorem aOV{n:Int}{l:cB}{k:Nat}{x:Int}{j:Nat}{c:Int}:aKI n l k x j c 0=aTR n l k x j:=by unfold aKI;simp
theorem aVX{n:Int}{l:cB}{k:Nat}{x:Int}(h:(gC l.kind 0 1 2)[k]?= some x):aTR n l k x (gC l.chair (-1) 0 (n-1)).length=aVV n l (k+1):=by
 unfold aTR aVV;rw[bMP,bLW,h,bMR,bMZ,bOE];rfl
theorem bBA{n:Int}{l:cB}{k:Nat}{x:Int}{j:Nat}{c:Int}(h:(gC l.chair (-1) 0 (n-1))[j]?= some c):aKI n l k x j c (gC l.token (-1) 0 (n-1)).length=aTR n l k x (j+1):=by
 unfold aKI aTR;rw[bMP,bLW,h,bMR,bMZ,bOE,bMC];rfl
theorem aSS{n:Int}{l:cB}{k:Nat}{x:Int}{j:Nat}{c:Int}{i:Nat}{t:Int}(h:(gC l.token (-1) 0 (n-1))[i]?= some t):aKI n l k x j c (i+1)=aKI n l k x j c i++[⟨x,c,t⟩]:=by
 unfold aKI;rw[bLW,h,bMR,bME,←bMC];rfl
theorem yK{s none lo hi:Int}{m:Nat}(h:hi+1-lo≤m)(h1:1≤m):(gC s none lo hi).length≤m:=by
 unfold gC;split
 ·simpa using h1
 ·simp;omega
theorem jW{α β:Type}{f:α→List β}{m:Nat}:∀(l:List α),(∀x∈l,(f x).length≤m)→(l.flatMap f).length≤l.length*m
 | [],_=>by simp
 |x::l,h=>by
  rw[bMS,bLT,bLU,bOK];have:=jW l fun y hy=>h y (LE _ hy)
  have:=h x bLP;omega
theorem aDY{n:Int}{l:cB}(hn:n≤4)(x c:Int):(bJE n l x c).length≤4:=by unfold bJE;rw[bNE];exact yK Yd Yd
theorem bDV{n:Int}{l:cB}(hn:n≤4)(x:Int):(bKR n l x).length≤16:=by
 unfold bKR;have h1:=jW (m:=4) (f:=bJE n l x) (gC l.chair (-1) 0 (n-1)) fun c _=>aDY hn x c
 have h2:=yK (s:=l.chair) (none:= -1) (lo:=0) (hi:=n-1) (m:=4) Yd Yd;omega
theorem aFR{n:Int}{l:cB}(hn:n≤4)(k:Nat):(aVV n l k).length≤32:=by
 unfold aVV;have h1:=jW (m:=16) (f:=bKR n l) ((gC l.kind 0 1 2).take k) fun x _=>bDV hn x
 have h2:=yK (s:=l.kind) (none:=0) (lo:=1) (hi:=2) (m:=2) Yd Yd;have h3:((gC l.kind 0 1 2).take k).length≤(gC l.kind 0 1 2).length:=by rw[bNT];omega
 omega
theorem aAG{n:Int}{l:cB}(hn:n≤4):(cK n l).length≤32:=by rw[←aEQ];exact aFR hn _
theorem bAA{n:Int}{l:cB}{k:Nat}{x:Int}{j:Nat}{c:Int}{i:Nat}(hn:n≤4):(aKI n l k x j c i).length≤60:=by
 unfold aKI aTR;rw[bLT,bLT,bNE];have h0:=aFR (l:=l) hn k;have h1:=jW (m:=4) (f:=bJE n l x) ((gC l.chair (-1) 0 (n-1)).take j) fun c _=>aDY hn x c
 have h2:=yK (s:=l.chair) (none:= -1) (lo:=0) (hi:=n-1) (m:=4) Yd Yd;have h3:=yK (s:=l.token) (none:= -1) (lo:=0) (hi:=n-1) (m:=4) Yd Yd;have h4:((gC l.chair (-1) 0 (n-1)).take j).length≤4:=by rw[bNT];omega
 have h5:((gC l.token (-1) 0 (n-1)).take i).length≤4:=by rw[bNT];omega
 omega
def uC(l:List cB):List Γ:=l.flatMap fun x=>[qI x.kind,qI x.chair,qI x.token]
theorem Y9(l:List cB):(uC l).length=l.length*3:=by
 induction l with
 |nil=>rfl
 |cons c l ih=>unfold uC at ih ⊢;rw[bMS,bLT,ih];simp only[bLU,bNU];omega
theorem aNE{l:List cB}{i:Nat}{c:cB}(hi:l[i]?= some c):((uC l).drop (i*3)).take 3=[qI c.kind,qI c.chair,qI c.token]:=by
  induction l generalizing i with
  |nil=>simp at hi
  |cons d l ih=>
    unfold uC at ih ⊢
    rw[bMS];cases i with
    | zero => obtain rfl : d = c := by simpa using hi
              rfl
    |succ i=>
      rw[bPZ,bNK Yap,bMW];have:(i+1)*3- [Value.int .i64 d.kind,Value.int .i64 d.chair,Value.int .i64 d.token].length=i*3:=by simp;omega
      rw[this];exact ih Yas
theorem _root_.Go.Fs.kH.lins{D:aC}{v:Γ}{n:Nat}{l:List cB}(hF:kH D v n (uC l))(hn:l.length=n)(hb:n≤9223372036854775807):Sl D kE 3 v l:=
 hF.sl hn hb fun _i _t hi=>⟨_,rfl,rfl,aNE hi⟩
theorem I2(bv:Γ)(b:bA)(l:cB)(D:aC)(hb:gD D bv b)(hn:1≤b.chairs∧b.chairs≤4):Fn prog 174 #[bv,GJ l] D (fun D' v=>Sl D' kE 3 v (cK b.chairs l)):=by
 obtain⟨lv,cv,rfl,hl,hc⟩:=hb;refine Zw 52 func174 rfl fun h0=>aA<|Zy rfl fun q1 E1 rB Z=>Zy rfl fun q2 E2 hE2 O=>Zf rfl<|bG<|Zj rfl t6 rfl<|Zh 0 rfl aH rfl O rfl<|Zaa rfl (fun D1 hH=>NY _ _ _ _ _ Yd Yd) fun v1 D1 hH hI=>?_;have R:=hI;refine Zah rfl U35 rfl R rfl<|Za rfl<|aF<|Za0<|Zc (Nat×Γ×aD) (fun g=>(gC l.kind 0 1 2).length-g.1) (fun g=>g.1≤(gC l.kind 0 1 2).length∧bM 298 3 g.2.1 (aVV b.chairs l g.1).length (uC (aVV b.chairs l g.1)) g.2.2) (fun g=>[(4,g.2.1),(15,qI (g.1:Int))]) [(14,_),(13,_),(3,_),(2,_)] (fun g=>g.2.2++[]) (fun g=>[D1,E2,E1,D]) (0,qN,[]) ⟨Yf,bM.nil⟩ ⟨Ya,Ya,bRD⟩ Mm5 ?_;rintro⟨k,v,ν⟩ ⟨h1,I⟩;simp only at h1 I;refine aA<|Zam rfl<|bW<|Zaf rfl (fun hc1=>?_) fun hc1=>?_
 ·simp only at hc1;have hS:=R.len;obtain⟨x,hx1⟩:=cR (gC l.kind 0 1 2) k;refine aQ<|Za2<|Za0<|aA<|jA rfl R rfl hx1 fun b1 o1=>Zf rfl<|aJ<|Zj rfl rU rfl<|Zh 1 rfl aH rfl O rfl<|Zj rfl vP rfl<|Zh 0 rfl aH rfl Z rfl<|Zau rfl ?_;refine Zaa rfl (fun D2 hB=>NY _ _ _ _ _ Yd Yd) fun v2 D2 hB hJ=>?_;have U:=hJ;refine Zah rfl U35 rfl U rfl<|Za rfl<|aF<|Za0<|Zc (Nat×Γ×aD) (fun g=>(gC l.chair (-1) 0 (b.chairs-1)).length-g.1) (fun g=>g.1≤(gC l.chair (-1) 0 (b.chairs-1)).length∧bM 298 3 g.2.1 (aTR b.chairs l k x g.1).length (uC (aTR b.chairs l k x g.1)) g.2.2) (fun g=>[(4,g.2.1),(26,qI (g.1:Int))]) [(25,_),(24,_),(23,_),(22,_),(21,_),(20,_),(19,_),(6,_),(18,_),(17,_),(16,_),(15,_),(14,_),(13,_),(3,_),(2,_)] (fun g=>g.2.2++[]) (fun g=>[D2,D1,E2,E1,D]) (0,v,ν) ⟨Yf,by rw[aPG];exact I⟩ ⟨Ya,Ya,bRD⟩ Mm5 ?_
  rintro⟨j,w,ν2⟩ ⟨h2,haJ⟩;simp only at h2 haJ;refine aA<|Zam rfl<|bW<|Zaf rfl (fun hc2=>?_) fun hc2=>?_
  ·simp only at hc2;have hX:=U.len;obtain⟨c,hx2⟩:∃x,(gC l.chair (-1) 0 (b.chairs-1))[j]?= some x:=⟨_,bLR Yd⟩
   refine aQ<|Za2<|Za0<|aA<|jA rfl U rfl hx2 fun b2 o2=>Zf rfl<|aJ<|Zj rfl nR rfl<|Zh 2 rfl aH rfl O rfl<|Zj rfl vP rfl<|Zh 0 rfl aH rfl Z rfl<|Zau rfl ?_;refine Zaa rfl (fun D3 hK=>NY _ _ _ _ _ Yd Yd) fun v3 D3 hK hN=>?_;have V:=hN;refine Zah rfl U35 rfl V rfl<|Za rfl<|aF<|Za0<|Zc (Nat×Γ×aD) (fun g=>(gC l.token (-1) 0 (b.chairs-1)).length-g.1) (fun g=>g.1≤(gC l.token (-1) 0 (b.chairs-1)).length∧bM 298 3 g.2.1 (aKI b.chairs l k x j c g.1).length (uC (aKI b.chairs l k x j c g.1)) g.2.2) (fun g=>[(4,g.2.1),(37,qI (g.1:Int))]) [(36,_),(35,_),(34,_),(33,_),(32,_),(31,_),(30,_),(8,_),(29,_),(28,_),(27,_),(26,_),(25,_),(24,_),(23,_),(22,_),(21,_),(20,_),(19,_),(6,_),(18,_),(17,_),(16,_),(15,_),(14,_),(13,_),(3,_),(2,_)] (fun g=>g.2.2++[]) (fun g=>[D3,D2,D1,E2,E1,D]) (0,w,ν2) ⟨Yf,by rw[aOV];exact haJ⟩ ⟨Ya,Ya,bRD⟩ Mm5 ?_
   rintro⟨i,u,ν3⟩ ⟨h3,haI⟩;simp only at h3 haI;refine aA<|Zam rfl<|bW<|Zaf rfl (fun hc3=>?_) fun hc3=>?_
   ·simp only at hc3;have hY:=V.len;obtain⟨t,hE⟩:∃x,(gC l.token (-1) 0 (b.chairs-1))[i]?= some x:=⟨_,bLR Yd⟩
    refine aQ<|Za2<|Za0<|aA<|jA rfl V rfl hE fun b3 o3=>Zf rfl<|aF<|aP<|Za rfl<|Za rfl<|Waw ?_;refine Zu [qI x,qI c,qI t] rfl aBW kQ rfl<|Zt rfl U80 cS kQ rfl (.cons rfl rfl .nil) fun rA D901 hO Y=>?_;have hli:=bAA (n:=b.chairs) (l:=l) (k:=k) (x:=x) (j:=j) (c:=c) (i:=i) Yd;refine aU (A:=[]) (B:=[]) rfl U80 rfl rfl cS kQ rfl n9 rfl rfl rfl haI (lD.lit Y) Yf rfl (Y9 _) Yk Yd (bMF rfl) rfl bRD fun v7 ν7 hP=>?_;have hR:bM 298 3 v7 (aKI b.chairs l k x j c (i+1)).length (uC (aKI b.chairs l k x j c (i+1))) ν7:=by rw[aSS hE];simpa [uC]using hP
    refine Wan ?_;exact aL 16 (i+1,v7,ν7) ⟨Yn,hR⟩ Yn ⟨Ya,Ya,bRD⟩ rfl rfl Mm5 fun D h=>⟨D,bMJ _ (h),Le.refl D⟩
   ·have hi:i=(gC l.token (-1) 0 (b.chairs-1)).length:=by simp only at hc3;omega
    rw[hi,bBA hx2]at haI;refine Za5<|Za1<|Za1<|Za6<|Wc ?_;exact aL 17 (j+1,u,ν3) ⟨Yn,haI⟩ Yn ⟨Ya,Ya,bRD⟩ rfl rfl Mm5 fun D h=>⟨D,bMJ _ (h),Le.refl D⟩
  ·have hj:j=(gC l.chair (-1) 0 (b.chairs-1)).length:=by simp only at hc2;omega
   rw[hj,aVX hx1]at haJ;refine Za5<|Za1<|Za1<|Za6<|Wc ?_;exact aL 17 (k+1,w,ν2) ⟨Yn,haJ⟩ Yn ⟨Ya,Ya,bRD⟩ rfl rfl Mm5 fun D h=>⟨D,bMJ _ (h),Le.refl D⟩
 ·have hk:k=(gC l.kind 0 1 2).length:=by simp only at hc1;omega
  rw[hk,aEQ]at I;refine Za5<|Za1<|Za1<|Za6<|Zay<|aA<|Za rfl<|Zf rfl<|aG<|dU (A:=[]) (B:=[]) I rfl fun D2 hB hF=>?_;exact aE rfl fun D hD=>(hF.lins rfl (by have:=aAG (l:=l) hn.2;omega)).up kE.up (hD _ Yf)
theorem bKI{b:bA}(h:((!C1.gU b.chairs 1 4|| !C1.gU b.coin 1 99)|| !C1.gU b.box 0 999)=false):1≤b.chairs∧b.chairs≤4:=by
 simp only[bNG,bQH,C1.bN]at h;exact h.1.1
theorem bKL{b:bA}(h:((((!C1.gU b.chairs 1 4|| !C1.gU b.coin 1 99)|| !C1.gU b.box 0 999)|| !b.lines.all (rN b.chairs))|| !b.counts.all (sS b.lines.length))=false):sY b=true∧1≤b.chairs∧b.chairs≤4:=by
 simp only[bNG,bQH]at h;obtain⟨⟨⟨⟨h1,h2⟩,h3⟩,h4⟩,h5⟩:=h;exact⟨by unfold sY;rw[h1,h2,h3,h4,h5];rfl,(C1.bN.1 h1)⟩
theorem YS{b:bA}(h:(decide ((8:Int)<b.lines.length)||decide ((4:Int)<b.counts.length))=false):¬(8<b.lines.length∨4<b.counts.length):=by
 simp only[bNG,bLV]at h;omega
theorem aRJ{b:bA}(h:(decide ((8:Int)<b.lines.length)||decide ((4:Int)<b.counts.length))=true):aX b=3:=by
 simp only[bMU,LT]at h;unfold aX;rw[bMG Yd]
theorem bHV{b:bA}(h:(decide ((8:Int)<b.lines.length)||decide ((4:Int)<b.counts.length))=false)(h2:((((!C1.gU b.chairs 1 4|| !C1.gU b.coin 1 99)|| !C1.gU b.box 0 999)|| !b.lines.all (rN b.chairs))|| !b.counts.all (sS b.lines.length))=true):aX b=1:=by
 unfold aX;rw[bLX (YS h),bMG]
 revert h2;unfold sY
 generalize C1.gU b.chairs 1 4=x,C1.gU b.coin 1 99=y,C1.gU b.box 0 999=z,b.lines.all (rN b.chairs)=u,b.counts.all (sS b.lines.length)=w;cases x<;>cases y<;>cases z<;>cases u<;>cases w<;>decide
theorem aYR{b:bA}(h:(decide ((8:Int)<b.lines.length)||decide ((4:Int)<b.counts.length))=false)(h2:sY b=true)(h3:tE b.chairs b.lines>4096):aX b=3:=by
 unfold aX;rw[bLX (YS h),bLX (by rw[h2];simp),bMG h3]
theorem aYE{b:bA}(h:(decide ((8:Int)<b.lines.length)||decide ((4:Int)<b.counts.length))=false)(h2:sY b=true)(h3:¬tE b.chairs b.lines>4096):aX b=0:=by
 unfold aX;rw[bLX (YS h),bLX (by rw[h2];simp),bLX h3]
theorem WZ{n:Int}{ls:List cB}{i:Nat}{x:cB}(hx:ls[i]?= some x):tE n (ls.take (i+1))=min (tE n (ls.take i)*(cK n x).length) 4097:=by
 unfold tE;rw[bLW,hx,bMR,bNM];rfl
theorem aRN(n:Int)(ls:List cB):0≤tE n ls∧tE n ls≤4097:=by
 unfold tE;have key:∀(l:List cB) (m:Int),0≤m∧m≤4097→0≤l.foldl (fun(m:Int) l=>min (m*((cK n l).length:Int)) 4097) m∧l.foldl (fun(m:Int) l=>min (m*((cK n l).length:Int)) 4097) m≤4097:=by
  intro l;induction l with
  |nil=>intro m h;exact h
  |cons x l ih=>
   intro m h;rw[bMO];refine ih _ ⟨?_,Yd⟩;have:0≤m*((cK n x).length:Int):=bRA h.1 Yd;omega
 exact key ls 1 Yd
theorem bFW{m:Int}{k:Nat}(h:0≤m∧m≤4097)(hk:k≤32):tQ .i64 (m*(k:Int)):=by
 have h1:0≤m*(k:Int):=bRA h.1 Yd;have h2:m*(k:Int)≤4097*32:=Int.mul_le_mul h.2 Yd Yd Yd;simp only[tQ];omega
theorem B0(bv:Γ)(b:bA)(D:aC)(hb:gD D bv b):Fn prog 102 #[bv] D (fun _ v=>v=qI (aX b)):=by
 have O:=hb;obtain⟨lv,cv,rfl,hl,hc⟩:=hb;have hll:=hl.len;refine Zw 72 func102 rfl fun h0=>aA<|Zy rfl fun q1 E1 hE1 I=>Zf rfl<|bW<|bS [] 1 6 28<|Zv rfl gO rfl I fG<|Zax rfl<|Zv rfl gO rfl I fG<|Zax rfl<|Zf rfl<|Zf rfl ?_;refine bW<|Za0<|aA<|Zj rfl dN rfl<|Zh 3 rfl hG rfl I rfl<|Zah rfl U80 rfl hl rfl<|Wap ?_;refine' dQ 5 (s:=17) (p:=22) rfl (fun hF=>?_) (fun hF=>?_) ?_;rotate_left
 ·refine Zk rfl uX rfl<|Zi 4 rfl HH rfl I rfl<|eN rfl U81 rfl hc rfl rfl ⟨_,rfl,rfl⟩<|Wy ?_;exact aN 4
 ·refine Wf ?_;exact aN 4
 refine Zf rfl<|aF<|Zag rfl (fun hc1=>?_) fun hc1=>?_
 ·refine Wm ?_;exact aE rfl fun D hD=>by show Value.int _ _=_;rw[aRJ hc1]
 ·refine aA<|Zj rfl vP rfl<|Zh 0 rfl aH rfl I rfl<|Zd rfl (fun D1 hD1=>lI _ _ _ _)<|Wbr ?_;refine' dQ 5 (s:=28) (p:=33) rfl (fun hH=>?_) (fun hH=>?_) ?_;rotate_left
  ·refine Zk rfl K0 rfl<|Zi 1 rfl aH rfl I rfl<|Ze rfl (fun D2 hD2=>lI _ _ _ _)<|Waf ?_;exact aN 4
  ·refine Wf ?_;exact aN 4
  refine Za rfl ?_;refine' dQ 5 (s:=34) (p:=39) rfl (fun hI=>?_) (fun hI=>?_) ?_;rotate_left
  ·refine Zk rfl GY rfl<|Zi 2 rfl aH rfl I rfl<|Ze rfl (fun D3 hD3=>lI _ _ _ _)<|Waf ?_;exact aN 4
  ·refine Wf ?_;exact aN 4
  refine Za rfl ?_;refine' dQ 6 (s:=40) (p:=46) rfl (fun Y=>?_) (fun Y=>?_) ?_;rotate_left
  ·have hch:=bKI Y;refine Zk rfl dN rfl<|Zi 3 rfl hG rfl I rfl<|Zb rfl<|Ze rfl (fun D4 Z=>bCL _ _ _ (rN b.chairs) _ (Sl.at kE.up Z Yl Yf) ⟨_,[_],[],rfl,fun r D2 hl=>aSB _ b r D2 (O.up ((Z _ Yf).trans hl)) Yd⟩ rfl)<|Waf ?_;exact aN 5
  ·refine Zg rfl<|Wf ?_;exact aN 5
  refine Za rfl ?_;refine' dQ 6 (s:=47) (p:=53) rfl (fun hJ=>?_) (fun hJ=>?_) ?_;rotate_left
  ·refine Zk rfl uX rfl<|Zi 4 rfl HH rfl I rfl<|Zb rfl<|Ze rfl (fun D5 hB=>aDL _ _ _ (sS b.lines.length) _ (Sl.at vY.up hB Yl Yf) ⟨_,[_],[],rfl,fun r D2 hl=>aKF _ b r D2 (O.up ((hB _ Yf).trans hl))⟩ rfl)<|Waf ?_;exact aN 5
  ·refine Zg rfl<|Wf ?_;exact aN 5
  refine Zf rfl<|aF<|Zag rfl (fun hc2=>?_) fun hc2=>?_
  ·refine Wm ?_;exact aE rfl fun D hD=>by show Value.int _ _=_;rw[bHV hc1 hc2]
  ·obtain⟨hok,hY⟩:=bKL hc2;refine bH<|Za3<|Zay<|aA<|Zf rfl<|bG<|Zj rfl dN rfl<|Zh 3 rfl hG rfl I rfl<|Zah rfl U80 rfl hl rfl<|Za rfl<|aF<|Za0 ?_;refine bK (γ:=Nat) (fun i=>b.lines.length-i) (fun i=>i≤b.lines.length) (fun i=>[(57,qI (i:Int)),(5,qI (tE b.chairs (b.lines.take i)))]) [(56,_),(55,_),(2,_),(1,_)] (fun i=>[E1,D]) 0 Yd ⟨Ya,Ya,bRD⟩ bQ (aK) ?_;rintro i h1;refine aA<|Zam rfl<|bW<|Zaf rfl (fun hc3=>?_) (fun hc3=>?_)
   ·have hi:i<b.lines.length:=by omega
    obtain⟨x,hx⟩:=cR b.lines i;refine aQ<|Za2<|Za0<|aA<|Zx rfl U80 cS rfl hl rfl hx fun b1 o1 hK hN rA hO=>?_;obtain rfl:hK=[qI _,qI _,qI _]:=hN;refine Zv rfl nM rfl hO cS<|Zad rfl kQ rfl fun q2=>Zz rfl cS ζ<|aF<|aP<|Za rfl<|Zv rfl gO rfl I fG<|Zac rfl nM rfl Mm0 cS<|Zaa rfl (fun D6 hE=>I2 _ b x _ (O.up (hE _ Yf)) Yd) fun v6 D6 hE hP=>?_;have hR:=hP;have hrl:=aAG (l:=x) (n:=b.chairs) Yd;have hmk:=aRN b.chairs (b.lines.take i);refine Zah rfl U80 rfl hR rfl<|BT rfl rfl rfl (bFW hmk hrl) rfl bRD<|Zt rfl U35 aI cO rfl (.cons rfl rfl (.cons rfl rfl .nil)) fun rB D901 hS R=>?_;have U:=Sl.ofInts (l:=[_,_]) (n:=2) (cap:=2) R rfl Yd Yd;refine Zd rfl (fun D7 hX=>L9 _ _ [4097] _ (U.up RI.up (hX _ Yf)))<|Wan ?_;exact aL 17 (i+1) Yd Yd ⟨Ya,(by rw[WZ hx];rfl),bRD⟩ rfl rfl (List.Sublist.cons _ Mm5) fun D h=>⟨D,bMJ _ (bMJ _ (h)),Le.refl D⟩
   ·obtain rfl:i=b.lines.length:=by omega
    rw[bMP];refine Za5<|Za1<|Za1<|Za6<|Zay<|bZ<|Za rfl<|Zaq rfl<|aF<|Zaf rfl (fun V=>?_) fun V=>?_
    ·refine aA<|Wi ?_;exact aE rfl fun D hD=>by show Value.int _ _=_;rw[aYR hc1 hok V]
    ·refine aQ<|aA<|We ?_;exact aE rfl fun D hD=>by show Value.int _ _=_;rw[aYE hc1 hok V]
end L3
namespace L3
open L1
section
variable{P:Program}{X:Cx}{γb:Type}[Membership Nat γb]{bad:γb}{all:Array Oper}{K:Act→Δ→Prop}{Q:Exit→Act→Δ→Prop}
variable{σ:bX}{μ:aD}{Ds:List aC}{os:List (Bool×Nat)}{fl:Bool}{ix:Nat}
variable{d:Nat}{x y z:Operand}{u v:Γ}{ty:Θ}{pos:String}{aft:Array Edge}{g:Option (Nat×Bool)}
theorem uS{t:Θ}{b k:Nat}{l:List Int}{n:Int}{e:Θ}{μ':aD}(ho:all[ix]?= some ⟨none,.store t x y,ty,pos,aft,g⟩)(hs:TS P t 1)(hx:ev σ x=some (.pointer (some ⟨b,k,none⟩)))(hy:ev σ y=some (qI n))
  (hm:bR μ b (qC (ints l) e) (qC (ints (l.set k n)) e) μ') (hl:k<l.length) (hfl:fl=false∨b∈bad) (hg:cZ all σ g)
  (kk:WL P X bad all K Q os σ μ' Ds):WL P X bad all K Q ((fl,ix)::os) σ μ Ds:=by
 have hil:(ints l).length=l.length:=aM l;refine nE (off:=k) (us:=[qI n]) (vs:=ints l) (ws:=ints (l.set k n)) ho hx hy rfl hs hm (by simp[hil];omega) ?_ (fun u hu=>by simp at hu;subst hu;rfl) hfl hg kk
 rw[show ints (l.set k n)=(ints l).set k (qI n) by simp[ints,List.map_set],List.set_eq_take_append_cons_drop,bMG (by rw[hil];exact hl)];simp
end
open C3
theorem xV{q a b:Nat}(h:a=b):some (Value.pointer (some ⟨q,a,none⟩))=some (Value.pointer (some ⟨q,b,none⟩)):=by rw[h]
theorem P7{s:Sc}(h4:s.ch.length=4)(h5:s.tk.length=4):(rD s).length=10:=by unfold rD;simp[h4,h5]
theorem bEN{s:Sc}(h4:s.ch.length=4){c:Int}(hc:0≤c∧c<4):(ints (rD s))[0+c.toNat*1]?= some (qI (oC s.ch c)):=by
 rw[bOM,bNY];refine cW ?_;unfold rD oC;rw[bMC,bNX Yd,bNR,bLR Yd];rfl
theorem bEX{s:Sc}(h4:s.ch.length=4)(h5:s.tk.length=4){c:Int}(hc:0≤c∧c<4):(ints (rD s))[0+4+c.toNat*1]?= some (qI (oC s.tk c)):=by
 rw[bNY];refine cW ?_;unfold rD oC;rw[bMC,bOV Yd,bNX Yd,bNR,show 0+4+c.toNat-s.ch.length=c.toNat by omega,bLR Yd];rfl
theorem NH{l:List Int}(h:l.length=4):∃a b c d,l=[a,b,c,d]:=by
 match l,h with
 | [a,b,c,d],_=>exact⟨a,b,c,d,rfl⟩
theorem N3{s:Sc}(h4:s.ch.length=4)(h5:s.tk.length=4):(rD s)[8]?= some s.money:=by
 obtain⟨a,b,c,d,e⟩:=NH h4;obtain⟨a',b',c',d',e'⟩:=NH h5;unfold rD;rw[e,e'];rfl
theorem VI{s:Sc}(h4:s.ch.length=4)(h5:s.tk.length=4):(rD s)[9]?= some s.mixed:=by
 obtain⟨a,b,c,d,e⟩:=NH h4;obtain⟨a',b',c',d',e'⟩:=NH h5;unfold rD;rw[e,e'];rfl
theorem aDS{s:Sc}(h4:s.ch.length=4)(h5:s.tk.length=4){c t:Int}(hc:0≤c∧c<4)(ht:0≤t∧t<4)(x y m:Int):
  (((rD s).set c.toNat x).set (4+t.toNat) y).set 8 m=rD ⟨s.ch.set c.toNat x,s.tk.set t.toNat y,m,s.mixed⟩∧∀z,((((rD s).set 9 z).set c.toNat x).set (4+t.toNat) y).set 8 m=rD ⟨s.ch.set c.toNat x,s.tk.set t.toNat y,m,z⟩:=by
 obtain⟨a,b,c',d,e⟩:=NH h4;obtain⟨a',b',c'',d',e'⟩:=NH h5;unfold rD;rw[e,e'];have hc':c.toNat=0∨c.toNat=1∨c.toNat=2∨c.toNat=3:=by omega
 have ht':t.toNat=0∨t.toNat=1∨t.toNat=2∨t.toNat=3:=by omega
 rcases hc' with h|h|h|h<;>rcases ht' with h'|h'|h'|h'<;>rw[h,h']<;>exact⟨rfl,fun _=>rfl⟩
theorem bHB{s:Sc}{l:cB}(h:((!(decide (oC s.ch l.chair≠0)==decide (l.kind=2)))||(!(decide (oC s.tk l.token≠0)==decide (l.kind=2))))=true):jZ s l=false:=by
 unfold jZ
 revert h
 generalize decide (oC s.ch l.chair≠0)=a,decide (oC s.tk l.token≠0)=c,decide (l.kind=2)=e;cases a<;>cases c<;>cases e<;>decide
theorem NI{s:Sc}{l:cB}(h:((!(decide (oC s.ch l.chair≠0)==decide (l.kind=2)))||(!(decide (oC s.tk l.token≠0)==decide (l.kind=2))))=false):jZ s l=true:=by
 unfold jZ
 revert h
 generalize decide (oC s.ch l.chair≠0)=a,decide (oC s.tk l.token≠0)=c,decide (l.kind=2)=e;cases a<;>cases c<;>cases e<;>decide
theorem bGT{b:bA}{s:Sc}{i:Int}{l:cB}(h:jZ s l=false):Value.tuple #[.agg (ints (rD s)).toArray,.bool false]=.tuple #[aBB (if jZ s l=true then eM b s i l else s),.bool (jZ s l)]:=by rw[h];rfl
theorem PE{b:bA}{s:Sc}{i:Int}{l:cB}{L:List Int}(h:jZ s l=true)(hL:L=rD (eM b s i l)):Value.tuple #[.agg (ints L).toArray,.bool true]=.tuple #[aBB (if jZ s l=true then eM b s i l else s),.bool (jZ s l)]:=by rw[h,hL];rfl
theorem KZ{b:bA}{s:Sc}{i:Int}{l:cB}{L:List Int}(h4:s.ch.length=4)(h5:s.tk.length=4)(hc:0≤l.chair∧l.chair<4)(ht:0≤l.token∧l.token<4)(hk:l.kind=2)
  (h:(oC s.ch l.chair≠oC s.tk l.token∧L=(rD s).set 9 (s.mixed+1))∨(oC s.ch l.chair=oC s.tk l.token∧L=rD s)):((L.set l.chair.toNat 0).set (4+l.token.toNat) 0).set 8 (s.money-b.coin)=rD (eM b s i l):=by
 obtain⟨g1,g2⟩:=aDS h4 h5 hc ht 0 0 (s.money-b.coin);unfold eM;rw[bMG hk];rcases h with⟨e,rfl⟩|⟨e,rfl⟩
 ·rw[g2,bMG e]
 ·rw[g1,bLX (by rw[e];simp)]
theorem aUF{b:bA}{s:Sc}{i:Int}{l:cB}(h4:s.ch.length=4)(h5:s.tk.length=4)(hc:0≤l.chair∧l.chair<4)(ht:0≤l.token∧l.token<4)(hk:l.kind≠2):
  (((rD s).set l.chair.toNat (i+1)).set (4+l.token.toNat) (i+1)).set 8 (s.money+b.coin)=rD (eM b s i l):=by
 rw[(aDS h4 h5 hc ht (i+1) (i+1) (s.money+b.coin)).1];unfold eM;rw[bLX hk]
theorem DN(bv:Γ)(b:bA)(s:Sc)(i:Int)(l:cB)(D:aC)(hb:gD D bv b)(h4:s.ch.length=4)(h5:s.tk.length=4)(hc:0≤l.chair∧l.chair<4)(ht:0≤l.token∧l.token<4)(hi:0≤i∧i≤100)(hm: -100000≤s.money∧s.money≤100000)(hx:0≤s.mixed∧s.mixed≤1000)(hn:0≤b.coin∧b.coin≤99):
  Fn prog 213 #[bv,aBB s,qI i,GJ l] D (fun _ v=>v=.tuple #[aBB (if jZ s l=true then eM b s i l else s),.bool (jZ s l)]):=by
 obtain⟨lv,cv,rfl,hl,hcn⟩:=hb;have hs10:=P7 h4 h5;refine Zw 83 func213 rfl fun h0=>aA<|Zy rfl fun q1 E1 Y R=>FS rfl (e:=161) rfl rfl rfl bRD fun q2=>Zy rfl fun U E3 Z I=>Zad rfl wE rfl fun q4=>Zf rfl<|aJ<|Zj rfl t6 rfl<|Zh 0 rfl aH rfl I rfl<|Zap rfl<|Zf rfl ?_;refine bG<|Zj rfl rU rfl<|Zh 1 rfl aH rfl I rfl<|Zj rfl uL rfl<|eX rfl U159 aI rfl rfl Yd Yd rfl bRD<|bD (v:=qI (oC s.ch l.chair)) rfl aH rfl Mm1 (bEN h4 hc) n4 rfl bRD<|Zaw rfl<|Za rfl<|u0 rfl U4 rfl rfl rfl bRD<|Za rfl ?_;refine' dQ 9 (s:=22) (p:=31) rfl (fun V=>?_) (fun V=>?_) ?_;rotate_left
 ·refine Zk rfl nR rfl<|Zi 2 rfl aH rfl I rfl<|Zk rfl uN rfl<|eX rfl U159 aI rfl rfl Yd Yd rfl ⟨_,rfl,rfl⟩<|bD (v:=qI (oC s.tk l.token)) rfl aH rfl Mm1 (bEX h4 h5 ht) n4 rfl ⟨_,rfl,rfl⟩<|IY rfl rfl rfl rfl ⟨_,rfl,rfl⟩<|Zb rfl<|u0 rfl U4 rfl rfl rfl ⟨_,rfl,rfl⟩<|Zak rfl ?_;exact aN 8
 ·refine Zg rfl<|Wal ?_;exact aN 8
 refine aF<|Zag rfl (fun hc1=>?_) fun hc1=>?_
 ·refine aA<|Wad ?_;exact Zq [_,_] rfl ⟨⟨_,_,_,rfl,Mm0,Or.inr ⟨kN,Xbt,rfl⟩⟩,rfl,bRD⟩ fun D hD=>bGT (bHB hc1)
 ·have hcan:jZ s l=true:=NI hc1;refine aQ<|bZ<|Za rfl<|aF<|Zaf rfl (fun hc2=>?_) (fun hc2=>?_)
  ·have O:l.kind=2:=by simpa using hc2
   refine Za2<|Za2<|bS [] 4 11 996<|Zj rfl rU rfl<|Zh 1 rfl aH rfl I rfl<|Zj rfl uL rfl<|eX rfl U159 aI rfl rfl Yd Yd rfl bRD<|bD (v:=qI (oC s.ch l.chair)) rfl aH rfl Mm1 (bEN h4 hc) n4 rfl bRD<|Zj rfl nR rfl<|Zh 2 rfl aH rfl I rfl<|Zj rfl uN rfl<|eX rfl U159 aI rfl rfl Yd Yd rfl bRD ?_;refine bD (v:=qI (oC s.tk l.token)) rfl aH rfl Mm1 (bEX h4 h5 ht) n4 rfl bRD<|Zaw rfl<|aF<|Zaf rfl (fun hc3=>?_) fun hc3=>?_
   ·refine aP<|Zj rfl u5 rfl<|bD (v:=qI s.mixed) rfl aH rfl Mm1 (cW (VI h4 h5)) n4 rfl bRD<|Zae rfl<|Zj rfl u5 rfl<|yF (k:=9) rfl aI rfl rfl (.tail ζ) Yab bRD<|bW<|iK (dC.mk [U]) 2 [0,1,2,3,4,5,7,6,8,9] [false,false,true,true,true,true,true,true,false,false] [(false,0),(false,1),(true,2),(true,3),(true,4),(true,5),(true,7),(true,6),(false,8),(false,9)] bB (fun _ _ _ h=>fM (P:=prog) (fn:=f213) _ _ _ h) Yg rfl<|Zj rfl rU rfl<|dW rfl (k:=1) aH rfl I Yc rfl (dC.out Yf) rfl bRD<|Zj rfl nR rfl<|dW rfl (k:=2) aH rfl I Yc rfl (dC.out Yf) rfl bRD ?_;refine Zj rfl uL rfl<|eX rfl U159 aI rfl rfl Yd Yd rfl bRD<|Zj rfl uN rfl<|kJ I Yf fun hap=>uS (k:=l.chair.toNat) rfl aI (xV Yd) rfl (.tail ζ) Yab (bLY (dC.in_ Yaa)) bRD<|eX rfl U159 aI rfl rfl Yd Yd rfl bRD<|kJ I Yf fun hap=>uS (k:=4+l.token.toNat) rfl aI (xV Yd) rfl (.tail ζ) Yab (bLY (dC.in_ Yaa)) bRD<|aJ<|Zj rfl pT rfl<|bD (v:=qI s.money) rfl aH rfl Mm1 (cW Yaj) n4 rfl bRD<|Zj rfl K0 rfl ?_;refine Zh 1 rfl aH rfl R rfl<|Zau rfl<|Zj rfl pT rfl<|yF (k:=8) rfl aI rfl rfl (.tail ζ) Yab bRD<|aJ<|Wad ?_
    exact Zq [_,_] rfl ⟨⟨_,_,_,rfl,Mm0,bLY ⟨kN,Xbt,rfl⟩⟩,rfl,bRD⟩ fun D hD=>PE hcan (KZ h4 h5 hc ht O (bMF ⟨Xao,rfl⟩))
   ·refine aQ<|Za2<|iK (dC.mk [U]) 2 [0,1,2,3,4,5,7,6,8,9] [false,false,true,true,true,true,true,true,false,false] [(false,0),(false,1),(true,2),(true,3),(true,4),(true,5),(true,7),(true,6),(false,8),(false,9)] bB (fun _ _ _ h=>fM (P:=prog) (fn:=f213) _ _ _ h) Yg rfl<|Zj rfl rU rfl<|dW rfl (k:=1) aH rfl I Yc rfl (dC.out Yf) rfl bRD<|Zj rfl nR rfl<|dW rfl (k:=2) aH rfl I Yc rfl (dC.out Yf) rfl bRD<|Zj rfl uL rfl<|eX rfl U159 aI rfl rfl Yd Yd rfl bRD<|Zj rfl uN rfl<|kJ I Yf fun hap=>uS (k:=l.chair.toNat) rfl aI (xV Yd) rfl (.tail ζ) Yab (bLY (dC.in_ Yaa)) bRD ?_;refine eX rfl U159 aI rfl rfl Yd Yd rfl bRD<|kJ I Yf fun hap=>uS (k:=4+l.token.toNat) rfl aI (xV Yd) rfl (.tail ζ) Yab (bLY (dC.in_ Yaa)) bRD<|aJ<|Zj rfl pT rfl<|bD (v:=qI s.money) rfl aH rfl Mm1 (cW Yaj) n4 rfl bRD<|Zj rfl K0 rfl<|Zh 1 rfl aH rfl R rfl<|Zau rfl<|Zj rfl pT rfl<|yF (k:=8) rfl aI rfl rfl (.tail ζ) Yab bRD<|aJ ?_;refine Wad ?_
    exact Zq [_,_] rfl ⟨⟨_,_,_,rfl,Mm0,bLY ⟨kN,Xbt,rfl⟩⟩,rfl,bRD⟩ fun D hD=>PE hcan (KZ h4 h5 hc ht O (bLY ⟨Xao,rfl⟩))
  ·have O:l.kind≠2:=by simpa using hc2
   refine aQ<|Za2<|iK (dC.mk [U]) 2 [0,1,2,3,4,5,6,7,8,9,11,10,12,13] [false,false,true,true,true,true,true,true,true,true,true,true,false,false] [(false,0),(false,1),(true,2),(true,3),(true,4),(true,5),(true,6),(true,7),(true,8),(true,9),(true,11),(true,10),(false,12),(false,13)] bB (fun _ _ _ h=>fM (P:=prog) (fn:=f213) _ _ _ h) Yg rfl<|Zj rfl rU rfl<|dW rfl (k:=1) aH rfl I Yc rfl (dC.out Yf) rfl bRD<|Zj rfl nR rfl<|dW rfl (k:=2) aH rfl I Yc rfl (dC.out Yf) rfl bRD<|Za rfl<|Zae rfl<|Za rfl<|Zae rfl<|Zj rfl uL rfl ?_;refine eX rfl U159 aI rfl rfl Yd Yd rfl bRD<|Zj rfl uN rfl<|kJ I Yf fun hap=>uS (k:=l.chair.toNat) rfl aI (xV Yd) rfl (.tail ζ) Yab (bLY (dC.in_ Yaa)) bRD<|eX rfl U159 aI rfl rfl Yd Yd rfl bRD<|kJ I Yf fun hap=>uS (k:=4+l.token.toNat) rfl aI (xV Yd) rfl (.tail ζ) Yab (bLY (dC.in_ Yaa)) bRD<|aJ<|Zj rfl pT rfl<|bD (v:=qI s.money) rfl aH rfl Mm1 (cW Yaj) n4 rfl bRD<|Zj rfl K0 rfl<|Zh 1 rfl aH rfl R rfl ?_;refine Zae rfl<|Zj rfl pT rfl<|yF (k:=8) rfl aI rfl rfl (.tail ζ) Yab bRD<|aJ<|bI (e:=161) (fz:=(0,0)) rfl kN rfl Mm1 Xbs n4 rfl bRD<|bE rfl rfl rfl rfl eD (by simp[hs10]) Ybb .head (dS _) bRD<|We ?_
   exact Zq [_,_] rfl ⟨⟨_,_,_,rfl,Mm0,bLY ⟨kN,Xbt,rfl⟩⟩,rfl,bRD⟩ fun D hD=>PE hcan (aUF h4 h5 hc ht O)
theorem RN(c:Cn)(ba bs:Nat)(a:Int)(s:Sc)(D:aC)(h4:s.ch.length=4)(h5:s.tk.length=4)(hA:At D ba 0 [qI a])(hS:At D bs 0 (ints (rD s))):
  Fn prog 294 #[bFC c,qP ba,qP bs] D (fun _ v=>v=.bool (decide (c.after≠a)||C1.gU s.money c.lo c.hi)):=by
 refine Zw 16 func294 rfl fun h0=>aA<|Zy rfl fun V E1 R I=>Zf rfl<|aJ<|Zj rfl R1 rfl<|Zh 0 rfl aH rfl I rfl<|Zh 0 rfl aH rfl hA rfl<|Zaw rfl<|Za rfl ?_;refine' dQ 6 (s:=9) (p:=15) rfl (fun O=>?_) (fun O=>?_) ?_;rotate_left
 ·refine Zk rfl s8 rfl<|dY rfl (k:=1) lZ eF rfl I Yc rfl rfl n4 rfl ⟨_,rfl,rfl⟩<|Zk rfl pT rfl<|dW (v:=qI s.money) rfl (k:=8) aH rfl hS Yc (cW (N3 h4 h5)) n4 rfl ⟨_,rfl,rfl⟩<|Ze rfl (fun Y U=>bCR (c.lo,c.hi) _ _)<|Zak rfl ?_;exact aN 5
 ·refine Zg rfl<|Wf ?_;exact aN 5
 refine We ?_;exact aE rfl fun D hD=>rfl
theorem FR(bv:Γ)(b:bA)(s:Sc)(a:Int)(D:aC)(hb:gD D bv b)(h4:s.ch.length=4)(h5:s.tk.length=4):Fn prog 212 #[bv,aBB s,qI a] D (fun _ v=>v=.bool (fU b s a)):=by
 obtain⟨lv,cv,rfl,hl,hc⟩:=hb;refine Zw 11 func212 rfl fun h0=>aA<|Zy rfl fun q1 E1 V O=>Zy rfl fun q2 E2 Y R=>Zy rfl fun q3 E3 Z U=>Zf rfl<|aJ<|Zj rfl uX rfl<|Zh 4 rfl HH rfl O rfl<|Zax rfl<|Zd rfl (fun D1 I=>aDL _ _ _ (fun c=>decide (c.after≠a)||C1.gU s.money c.lo c.hi) _ (Sl.at vY.up I Yl Yf) ⟨_,[],[_,_],rfl,fun c D2 hl=>RN c _ _ a s D2 h4 h5 (U.up ((I _ Yf).trans hl)) (R.up ((I _ Yf).trans hl))⟩ rfl)<|Zf rfl ?_;refine aG ?_;exact aE rfl fun D hD=>rfl
theorem yR(bv:Γ)(b:bA)(D:aC)(hb:gD D bv b):Fn prog 177 #[bv] D (fun _ v=>v=aBB (fH b)):=by
 obtain⟨lv,cv,rfl,hl,hc⟩:=hb;refine Zw 6 func177 rfl fun h0=>aA<|Zy rfl fun R E1 O I=>Zad rfl wE rfl fun U=>aJ<|Zj rfl GY rfl<|Zh 2 rfl aH rfl I rfl<|Zu [qI 0,qI 0,qI 0,qI 0,qI 0,qI 0,qI 0,qI 0,qI b.box,qI 0] rfl aXS wE rfl<|Zz rfl eD ζ<|aG ?_;exact Zq [_] rfl ⟨⟨_,_,_,rfl,Mm0,Or.inr ⟨kN,(by first|exact eD|(simp only[bNA,aM, *];exact eD)),rfl⟩⟩,bRD⟩ fun D hD=>rfl
structure aIR(b:bA):Prop where
 ch:1≤b.chairs∧b.chairs≤4
 co:1≤b.coin∧b.coin≤99
 bx:0≤b.box∧b.box≤999
 l8:b.lines.length≤8
 c4:b.counts.length≤4
 ln:∀l∈b.lines,rN b.chairs l=true
theorem bJW{b:bA}(h:aX b=0):aIR b:=by
 unfold aX at h;split at h
 ·omega
 ·rename_i h1;split at h
  ·omega
  ·rename_i h2;have h3:sY b=true:=by simpa using h2
   unfold sY at h3;simp only[bLQ,C1.bN,bMK]at h3;exact⟨h3.1.1.1.1,h3.1.1.1.2,h3.1.1.2,Yd,Yd,h3.1.2⟩
def p4(b:bA)(t:List cB):Nat→Sc
 |0=>fH b
 |k+1=>match t[k]? with
  |some l=>eM b (p4 b t k) k l
  |none=>p4 b t k
def gN(l:List Sc):List Γ:=l.flatMap fun s=>ints (rD s)
structure bKC(b:bA)(s:Sc)(k:Nat):Prop where
 lc:s.ch.length=4
 lt:s.tk.length=4
 mo:b.box-99*(k:Int)≤s.money∧s.money≤b.box+99*(k:Int)
 mi:0≤s.mixed∧s.mixed≤k
theorem aUS{b:bA}(hb:aIR b){s:Sc}{k:Nat}(h:bKC b s k)(l:cB)(i:Int):bKC b (eM b s i l) (k+1):=by
 have:=hb.co;have:=h.mo;have:=h.mi;unfold eM;split
 ·refine⟨by simp[h.lc],by simp[h.lt],?_,?_⟩
  ·simp only;push_cast;omega
  ·simp only;split<;>push_cast<;>omega
 ·refine⟨by simp[h.lc],by simp[h.lt],?_,?_⟩
  ·simp only;push_cast;omega
  ·simp only;push_cast;omega
theorem V7{l:List Sc}(h:∀s∈l,(rD s).length=10){i:Nat}{s:Sc}(hi:l[i]?= some s):((gN l).drop (i*10)).take 10=ints (rD s):=by
 induction l generalizing i with
 |nil=>simp at hi
 |cons u l ih=>
  have hu:(ints (rD u)).length=10:=by rw[aM,h u bLP]
  have e:gN (u::l)=ints (rD u)++gN l:=rfl;rw[e];cases i with
  |zero=>
   obtain rfl:u=s:=by simpa using hi
   rw[bPY,bPN,bNH Yd,bMV Yd]
  |succ i=>
   rw[bPZ,bNK Yd,bMW,hu,show(i+1)*10-10=i*10 by omega];exact ih (fun t ht=>h t (LE _ ht)) Yas
theorem aRW{b:bA}{t:List cB}{k:Nat}{x:cB}(hx:t[k]?= some x):eM b (p4 b t k) k x=p4 b t (k+1):=by rw[p4,hx]
theorem aNW(b:bA)(t:List cB)(j:Nat):(p4 b t j).ch.length=4∧(p4 b t j).tk.length=4:=by
 induction j with
 |zero=>exact⟨rfl,rfl⟩
 |succ j ih=>
  rw[p4];split
  ·unfold eM;split<;>simp[ih.1,ih.2]
  ·exact ih
def aMN(l:List Int)(k:Nat):List Int:=(List.range 4).map fun j=>if j<k then min (l.getD j 0) 1 else 0
theorem aRH{l:List Int}{k:Nat}{x:Int}(hx:l[k]?= some x):(aMN l k).set k (min x 1)=aMN l (k+1):=by
 apply List.ext_getElem?;intro i;unfold aMN;rw[List.getElem?_set,bNB,bNB];simp only[bNE,bPQ];by_cases hi:i<4
 ·rw[bPW hi];simp only[bNL];by_cases e:k=i
  ·subst e;rw[bMG rfl,bMG hi,bMG Yd,bNR,hx];rfl
  ·rw[bLX e];by_cases h:i<k
   ·rw[bMG h,bMG Yd]
   ·rw[bLX h,bLX Yd]
 ·rw[bOP Yas];by_cases e:k=i
  ·subst e;rw[bMG rfl,bLX hi];rfl
  ·rw[bLX e];rfl
theorem bAY{l:List Int}(h:l.length=4):aMN l 4=G8 l:=by
 obtain⟨a,b,c,d,rfl⟩:=NH h;rfl
theorem EW(l:List Int)(D:aC)(h4:l.length=4):Fn prog 243 #[.agg (ints l).toArray] D (fun _ v=>v=.agg (ints (G8 l)).toArray):=by
 refine Zw 17 func243 rfl (fun h0=>aA<|Zy rfl fun q1 E1 Z R=>Zad rfl aXR rfl fun q2=>bG<|cU rfl tN rfl R Ym (by rw[show(ints _).length=4 by simp[h4]];exact oS) n4 rfl bRD<|Za rfl<|aF<|Za0<|fZ (γ:=Nat) (fun k=>4-k) (fun k=>k≤4) (fun k=>[(6,qI (k:Int))]) [(5,_),(2,_)] (fun k=>[(q2,qC (ints (aMN l k)) 159)]) (fun k=>[E1,D]) 0 Yd ⟨Ya,bRD⟩ bQ Mm5 (aK) ?_);rintro k h1;refine aA<|Zam rfl<|bW<|Zaf rfl (fun hc1=>?_) fun hc1=>?_
 ·have hk:k<4:=by omega
  obtain⟨x,hx0⟩:=cR l k;have hx:l[((k:Nat):Int).toNat]?= some x:=by simpa using hx0
  have hstep:=aRH hx0;refine aQ<|Za2<|Za0<|aA<|Za rfl<|GV (l:=l) rfl U159 aH aI rfl rfl Yd Yd hx rfl bRD<|Zf rfl<|Zf rfl<|aF<|aP<|Waw ?_;refine Zt rfl U35 aI cO rfl (.cons rfl rfl (.cons rfl rfl .nil)) fun Y D901 U I=>?_;have O:=Sl.ofInts (l:=[_,_]) (n:=2) (cap:=2) I rfl Yd Yd;refine Zd rfl (fun D1 V=>L9 _ x [1] _ (O.up RI.up (V _ Yf)))<|eX rfl U159 aI rfl rfl Yd Yd rfl bRD<|yF (k:=k) rfl aI (xV Yd) rfl .head (by simp[aMN];omega) bRD ?_
  rw[show(aMN l k).set k (List.foldl min x [1])=aMN l (k+1)from hstep];refine Zan<|Wc ?_;exact aL 13 (k+1) Yd Yd ⟨Ya,bRD⟩ rfl rfl Mm5 fun D h=>⟨D,bMJ _ (h),Le.refl D⟩
 ·obtain rfl:k=4:=by omega
  refine Za5<|Za1<|Za1<|Za6<|Zay<|aA<|bI (e:=159) (fz:=(0,0)) rfl tN rfl Mm0 (by rw[show(ints _).length=4 by simp[aMN]];exact oS) n4 rfl bRD<|bE rfl rfl rfl rfl oS (by simp[aMN]) (by simp[aMN]) .head (dS _) bRD<|aG ?_;exact Zq [_] rfl ⟨⟨_,_,_,rfl,Mm0,Or.inr ⟨tN,(by rw[show(ints _).toArray.size=4 by simp[aMN]];exact oS),rfl⟩⟩,bRD⟩ fun D hD=>by show Value.agg _=_;rw[bAY h4]
theorem bGI:KS prog 383 9:=by
 have hf:(prog.fieldsOf 383).toList=[(prog.fieldsOf 383)[0]!,(prog.fieldsOf 383)[1]!,(prog.fieldsOf 383)[2]!]:=by kernel_rfl
 refine⟨Yg,Yg,Yg,?_⟩;rw[hf];refine .cons (H6.int Xaa Yg Yg) (.cons (n:=4) (H6.arr (e:=3) Xaa Yg Yg Yg Yg ?_ ?_) (.cons (n:=4) (H6.arr (e:=3) Xaa Yg Yg Yg Yg ?_ ?_) .nil))
 ·rw[show((prog.fieldsOf 383)[1]!).type=159 by kernel_rfl];exact tN
 ·rw[show((prog.fieldsOf 383)[1]!).type=159 by kernel_rfl];exact oS
 ·rw[show((prog.fieldsOf 383)[2]!).type=159 by kernel_rfl];exact tN
 ·rw[show((prog.fieldsOf 383)[2]!).type=159 by kernel_rfl];exact oS
theorem bHH:KM prog 383 4:=⟨(prog.fieldsOf 383)[0]!,(prog.fieldsOf 383)[1]!,(prog.fieldsOf 383)[2]!,3,Yg,Yg,Xaa,Xaa,Xaa,Yg,Yg,Yg,Yg,Yg,Yg,Yg,
 by rw[show((prog.fieldsOf 383)[1]!).type=159 by kernel_rfl];exact tN,by rw[show((prog.fieldsOf 383)[1]!).type=159 by kernel_rfl];exact oS,by rw[show((prog.fieldsOf 383)[2]!).type=159 by kernel_rfl];exact tN,by rw[show((prog.fieldsOf 383)[2]!).type=159 by kernel_rfl];exact oS,aI⟩
theorem aPT:HP prog 383 (BH (n:=9)):=KM.key bHH bGI
end L3
namespace L3
open L1
section
variable{P:Program}{X:Cx}{γb:Type}[Membership Nat γb]{bad:γb}{all:Array Oper}{K:Act→Δ→Prop}{Q:Exit→Act→Δ→Prop}
variable{σ:bX}{μ:aD}{Ds:List aC}{os:List (Bool×Nat)}
theorem bGC(k:(μ.map fun p=>p.1).Nodup→WL P X bad all K Q os σ μ Ds):WL P X bad all K Q os σ μ Ds:=fun a w hh=>by
 obtain⟨_,_,_,D,hs,_⟩:=id hh;exact k hs.nd a w hh
end
theorem bFV{w V I O:Nat}{o U:Obj}{R:aD}(h1:w∉aD.ks ((O,o)::(I,U)::R))(h2:V∉aD.ks ((O,o)::(I,U)::R))(h3:(((O,o)::(I,U)::R).map fun p=>p.1).Nodup):O∉[w,V,I]:=by
 simp only[bMT,bNP,bLO,bQX]at h1 h2 h3;intro h;simp only[bLO,n4,bNV]at h;rcases h with rfl|rfl|rfl
 ·exact h1.1 rfl
 ·exact h2.1 rfl
 ·exact h3.1.1 rfl
open C3
def CB(b:bA)(Mm:List (xI 9×Bool)):Prop:=∀p∈Mm,∀(i:Nat) (s:Sc),FL b s→aMM s→s.ch.length=4→p.1.l=aTK s i→p.2=nC b (b.lines.drop i) i s
theorem CB.nil{b:bA}:CB b []:=fun p hp=>by cases hp
theorem CB.add{b:bA}{Mm M':List (xI 9×Bool)}{i:Nat}{s:Sc}{a:xI 9}{r:Bool}(h:CB b Mm)(hm:∀p∈M',p∈Mm∨p=(a,r))(ha:a.l=aTK s i)(hi:FL b s)(hp:aMM s)(h4:s.ch.length=4)(hr:r=nC b (b.lines.drop i) i s):CB b M':=by
 intro p hp' i' s' hi' hps' h4' he;rcases hm p hp' with h1|h1
 ·exact h p h1 i' s' hi' hps' h4' he
 ·subst h1;simp only at he ⊢
  rw[ha]at he;obtain⟨I,O⟩:=aVJ (ls:=b.lines.drop i) he hi hi' hp hps' h4 h4';rw[hr,←I];exact O.trans (by rw[←I])
theorem QG{a c d:Γ}{lv cv lv' cv':Γ}(h:Value.agg #[a,c,d,lv,cv]=.agg #[a,c,d,lv',cv']):lv=lv'∧cv=cv':=by
 simp at h;exact h
theorem aZC{b:bA}{ls:List cB}{i:Nat}{s:Sc}(h:fU b s i=false):nC b ls i s=false:=by
 cases ls with
 |nil=>exact h
 |cons l ls=>unfold nC;rw[h];rfl
theorem aOL{b:bA}{i:Nat}{s:Sc}(h:fU b s i=true)(hi:(i:Int)=(b.lines.length:Int)):nC b (b.lines.drop i) i s=true:=by
 rw[bNK Yd];exact h
def bFJ(b:bA)(i:Nat)(s:Sc)(r:cB):Bool:=jZ s r&&nC b (b.lines.drop (i+1)) (i+1) (eM b s i r)
theorem bFP{b:bA}{i:Nat}{s:Sc}{r:cB}(h:jZ s r=true):nC b (b.lines.drop (i+1)) (i+1) (eM b s i r)=bFJ b i s r:=by unfold bFJ;rw[h];rfl
theorem bJN{b:bA}{i:Nat}{s:Sc}{r:cB}(h:jZ s r=false):false=bFJ b i s r:=by unfold bFJ;rw[h];rfl
theorem ZR{b:bA}{s:Sc}{i:Int}{r:cB}(h4:s.ch.length=4)(h5:s.tk.length=4):(rD (eM b s i r)).length=10:=by
 unfold eM;split
 ·exact P7 (by simp[h4]) (by simp[h5])
 ·exact P7 (by simp[h4]) (by simp[h5])
theorem aCK{mb cl:Nat}{es:Array MapEntry}:∀p∈[(mb,Obj.map es cl)],dE p.2:=by
 intro p hp;simp only[bLO,n4,bNV]at hp;subst hp;trivial
set_option maxHeartbeats 1000000 in
theorem OP{b:bA}{bv lv cv:Γ}{wb mb:Nat}(hbo:aIR b)(hbv:bv=.agg #[qI b.chairs,qI b.coin,qI b.box,lv,cv]):
  ∀(j i:Nat) (s:Sc) (es:Array MapEntry) (cl:Nat) (Mm:List (xI 9×Bool)) (D:aC),i+j=b.lines.length→bKC b s i→aMM s→FL b s→R8 BH Value.bool es Mm→CB b Mm→gD D bv b→At D wb 0 [qI b.chairs,qI b.coin,qI b.box,lv,cv,.map (some mb)]→
  HO prog 176 [qP wb,aBB s,qI (i:Int)] D [(mb,.map es cl)] (fun _ v ν'=>v=.bool (nC b (b.lines.drop i) i s)∧∃es' cl' M',ν'=[(mb,.map es' cl')]∧R8 BH Value.bool es' M'∧CB b M'):=by
 subst hbv;intro j;induction j using Nat.strongRecOn with
 |_ j ih=>
 intro i s es cl Mm D hij hsb hsp hsi hM hok hb0 hA;obtain⟨ch,tk,mo,mi⟩:=s;obtain⟨c0,c1,c2,c3,rfl⟩:=NH hsb.lc;obtain⟨k0,k1,k2,k3,rfl⟩:=NH hsb.lt;have hb:=hb0;obtain⟨lv',cv',he,hl,hc⟩:=hb;obtain⟨rfl,rfl⟩:=QG he;have hl8:=hbo.l8;have hch:=hbo.ch;have hco:=hbo.co;have hbx:=hbo.bx;have hmo:=hsb.mo;have hmi:=hsb.mi;simp only at hmo hmi;show HO _ _ [qP wb,.agg #[qI c0,qI c1,qI c2,qI c3,qI k0,qI k1,qI k2,qI k3,qI mo,qI mi],qI (i:Int)] _ _ _;refine jF 94 func176 rfl rfl rfl rfl fun h0 hwl hwn=>aA<|Zy rfl fun q1 E1 hE1 hB1=>Zf rfl<|bW<|Za2<|bS [] 5 8 48<|Za rfl<|Zal rfl<|Zj rfl zD rfl<|dY rfl (k:=0) gO fG rfl hA Yc rfl rfl n4 rfl bRD<|Zv rfl kN rfl hB1 eD ?_;refine Za rfl<|Zd rfl (fun D1 hD1=>FR _ b (⟨[c0,c1,c2,c3],[k0,k1,k2,k3],mo,mi⟩:Sc) i _ (hb0.up (hD1 _ Yf)) rfl rfl)<|Zas rfl<|aF<|Zag rfl (fun hc1=>?_) fun hc1=>?_
 ·refine aA<|Wi ?_;exact Zai [] [] [_] [_] rfl ⟨rfl,bRD⟩ rfl fun D' hD=>⟨bLZ Value.bool (aZC Xbe).symm,es,cl,Mm,rfl,hM,hok⟩
 ·have hcd:fU b (⟨[c0,c1,c2,c3],[k0,k1,k2,k3],mo,mi⟩:Sc) i=true:=by simpa using hc1
  refine aQ<|bZ<|Za rfl<|Za rfl<|Zal rfl<|Zj rfl zD rfl<|Zj rfl dN rfl<|Zh 3 rfl hG rfl hA rfl<|Zah rfl U80 rfl hl rfl<|Zap rfl<|aF<|Zaf rfl (fun hc2=>?_) fun hc2=>?_
  ·refine aA<|Wi ?_;exact Zai [] [] [_] [_] rfl ⟨rfl,bRD⟩ rfl fun D' hD=>⟨bLZ Value.bool (aOL hcd hc2).symm,es,cl,Mm,rfl,hM,hok⟩
  ·have hil:i<b.lines.length:=by omega
   obtain⟨z,hz⟩:=cR b.lines i;have hdr:b.lines.drop i=z::b.lines.drop (i+1):=by rw[bNC hil];congr 1;exact bMQ ((bLR hil).symm.trans hz)
   refine aQ<|Za2<|oT [] 3 [false,true,true,true,true,true,true,false,true,false] [.fork [0,1,2,4,5] 3 (.fork [] 6 (.fin [7,8]) 8 (.fin [6,7])) 8 (.fin [3,6,7]),.fin [9]] bB (fun _ _ _ h=>jV (P:=prog) (fn:=f176) _ _ _ h) Yg ?_;apply AC (γ:=Nat) (fun _=>True) _ _ _ [.fork [0,1,2,4,5] 3 (.fork [] 6 (.fin [7,8]) 8 (.fin [6,7])) 8 (.fin [3,6,7])] [.fin [9]] rfl
   ·refine sX<|bP [(false,0),(true,1),(true,2),(true,4),(true,5)] rfl<|Za rfl<|Zj rfl uL rfl<|dY rfl (k:=0) tN oS rfl hB1 Yc rfl rfl n4 rfl bRD<|Zj rfl uN rfl<|dY rfl (k:=4) tN oS rfl hB1 Yc rfl rfl n4 rfl bRD<|Zan (dV true true rfl rfl ?_ ?_)
    ·refine Zd rfl (fun D2 hD2=>EW [c0,c1,c2,c3] _ rfl)<|Zan<|bP [] rfl<|Zan (dV true true rfl rfl ?_ ?_)
     ·refine Zd rfl (fun D3 hD3=>EW [k0,k1,k2,k3] _ rfl)<|Zan<|aT [(false,7),(true,8)] rfl<|iB (cs:=[qI (i:Int),qI (min c0 1),qI (min c1 1),qI (min c2 1),qI (min c3 1),qI (min k0 1),qI (min k1 1),qI (min k2 1),qI (min k3 1)]) rfl NC R4 rfl Yg rfl bRD<|Zad rfl R4 rfl fun q2=>Zan ?_;exact fun a w hh=>⟨q2,bRD,hh⟩
     ·refine Zad rfl R4 rfl fun q2=>Zan<|aT [(true,6),(false,7)] rfl<|Wai ?_;exact fun a w hh=>⟨q2,bRD,hh.weak bQ Mm5 aK⟩
    ·refine Zad rfl R4 rfl fun q2=>Zan<|aT [(true,3),(true,6),(false,7)] rfl<|Zd rfl (fun D2 hD2=>EW [c0,c1,c2,c3] _ rfl)<|Wai ?_;exact fun a w hh=>⟨q2,bRD,hh.weak bQ Mm5 aK⟩
   rintro q2 -;refine nT [(false,9)] rfl<|Zz rfl DM ζ<|Zan<|pQ<|Zay<|Za2<|bS [] 6 11 784<|Za rfl<|Zal rfl<|Zj rfl x4 rfl<|Zh 5 rfl OA rfl hA rfl<|Zac rfl NQ rfl Mm0 DM ?_;refine LL (val:=BH (n:=9)) (wal:=Value.bool) (a:=⟨[(i:Int),min c0 1,min c1 1,min c2 1,min c3 1,min k0 1,min k1 1,min k2 1,min k3 1],rfl⟩) rfl U305 aPT pO rfl rfl Mm1 n4 hM rfl bRD fun nv ok hin hout=>Za rfl<|Zao rfl<|Zao rfl<|Zf rfl<|Zf rfl<|bG<|Za rfl<|aF<|Zag rfl (fun hc3=>?_) fun hc3=>?_
   ·obtain⟨r,rfl,hmem⟩:=hin hc3;refine aA<|Za rfl<|Wi ?_;exact Zai [(_,_)] [] [_] [_] rfl ⟨rfl,bRD⟩ rfl fun D' hD=>⟨bLZ Value.bool (hok _ hmem i (⟨[c0,c1,c2,c3],[k0,k1,k2,k3],mo,mi⟩:Sc) hsi hsp rfl rfl),es,cl,Mm,rfl,hM,hok⟩
   ·obtain rfl:=hout hc3;refine aQ<|Za2<|Za2<|iK [] 3 [0,1,2,3,4,5,6,7,8,9,10,11,14,12,13] [false,false,false,false,true,true,true,true,true,true,true,true,true,true,true] [(false,0),(false,1),(false,2),(false,3),(true,4),(true,5),(true,6),(true,7),(true,8),(true,9),(true,10),(true,11),(true,14),(true,12),(true,13)] bB (fun _ _ _ h=>jV (P:=prog) (fn:=f176) _ _ _ h) Yg rfl<|Za rfl<|Zal rfl<|Zj rfl zD rfl<|dY rfl (k:=0) gO fG rfl hA Yc rfl rfl n4 rfl bRD<|Za rfl<|Zal rfl<|Zj rfl zD rfl<|Zj rfl dN rfl ?_;refine Zh 3 rfl hG rfl hA rfl<|Za rfl<|Zx rfl U80 cS rfl hl rfl hz fun b1 o1 cs1 hr1 hcl1 hA1=>?_;obtain rfl:cs1=[qI _,qI _,qI _]:=hr1;refine Zv rfl nM rfl hA1 cS<|Za rfl<|Zaa rfl (fun D4 hD4=>I2 _ b z _ (hb0.up (hD4 _ Yf)) Yd) fun v4 D4 hD4 hp4=>?_;have hr:=hp4;have hrl:=hr.len;refine eN rfl U80 rfl Yl rfl rfl bRD<|aF<|Za0<|Zc (Nat×Array MapEntry×Nat×List (xI 9×Bool)) (fun g=>(cK b.chairs z).length-g.1) (fun g=>g.1≤(cK b.chairs z).length∧((cK b.chairs z).take g.1).any (fun r=>bFJ b i (⟨[c0,c1,c2,c3],[k0,k1,k2,k3],mo,mi⟩:Sc) r)=false∧R8 BH Value.bool g.2.1 g.2.2.2∧CB b g.2.2.2) (fun g=>[(63,qI (g.1:Int)),(8,.bool false)]) [(62,_),(61,_),(7,_),(6,_),(4,_),(0,_),(2,_)] (fun g=>[(q2,qC [qI (i:Int),qI (min c0 1),qI (min c1 1),qI (min c2 1),qI (min c3 1),qI (min k0 1),qI (min k1 1),qI (min k2 1),qI (min k3 1)] 383),(mb,.map g.2.1 g.2.2.1)]) (fun g=>[D4,E1,D]) (0,es,cl,Mm) ⟨Yf,rfl,hM,hok⟩ ⟨Ya,Ya,bRD⟩ Mm5 ?_;rintro⟨k,es2,cl2,M2⟩ ⟨h1,hno,hM2,hok2⟩;simp only at h1 hno hM2 hok2;refine aA<|Zam rfl<|bW<|Zaf rfl (fun hc4=>?_) (fun hc4=>?_)
    ·simp only at hc4;obtain⟨x,hx⟩:=cR (cK b.chairs z) k;have hin:=((tV (hbo.ln z (n5 hz))).1 (n5 hx)).1;refine aQ<|Za2<|Za0<|aA<|Zx rfl U80 cS rfl hr rfl hx fun b2 o2 cs2 hr2 hcl2 hA2=>?_;obtain rfl:cs2=[qI _,qI _,qI _]:=hr2;refine Zv rfl nM rfl hA2 cS<|Zad rfl kQ rfl fun q3=>Zz rfl cS ζ<|bW ?_;have hif:(rD (if jZ (⟨[c0,c1,c2,c3],[k0,k1,k2,k3],mo,mi⟩:Sc) x=true then(eM b (⟨[c0,c1,c2,c3],[k0,k1,k2,k3],mo,mi⟩:Sc) i x)else(⟨[c0,c1,c2,c3],[k0,k1,k2,k3],mo,mi⟩:Sc))).length=10:=by split;exact ZR rfl rfl;rfl
     have hnl:(rD (eM b (⟨[c0,c1,c2,c3],[k0,k1,k2,k3],mo,mi⟩:Sc) i x)).length=10:=ZR rfl rfl;refine oT (dC.mk [wb,q1,q3]) 6 [false,false,false,false,true,true,true,true,false,false,true,true,true,false] [.fork [0,1,2,3,4,5,6] 7 (.fin [8,9,10,11]) 11 (.fin [7,8,9,10]),.fin [12,13]] bB (fun _ _ _ h=>jV (P:=prog) (fn:=f176) _ _ _ h) Yg ?_;apply AC (γ:=Nat) (fun _=>True) _ _ _ [.fork [0,1,2,3,4,5,6] 7 (.fin [8,9,10,11]) 11 (.fin [7,8,9,10])] [.fin [12,13]] rfl
     ·refine sX<|bP [(false,0),(false,1),(false,2),(false,3),(true,4),(true,5),(true,6)] rfl<|Za rfl<|Zal rfl<|Zj rfl zD rfl<|dY rfl (k:=0) gO fG rfl hA Yc rfl rfl (dC.out Yf) rfl bRD<|cU rfl kN rfl hB1 Ym eD (dC.out Yf) rfl bRD<|Za rfl<|bI rfl nM rfl Mm0 cS (dC.out Yf) rfl bRD<|Zan (dV true true rfl rfl ?_ ?_)
      ·refine Zd rfl (fun D5 hD5=>DN _ b (⟨[c0,c1,c2,c3],[k0,k1,k2,k3],mo,mi⟩:Sc) i x _ (hb0.up (hD5 _ Yf)) rfl rfl Ya9 Ya9 Yd (by show -100000≤mo∧mo≤100000;omega) (by show 0≤mi∧mi≤1000;omega) Yd)<|Zan<|aT [(false,8),(false,9),(true,10),(true,11)] rfl<|Za rfl<|Zao rfl<|Zao rfl<|Zad rfl wE rfl fun q4=>Zan ?_;exact fun a w hh=>⟨q4,bRD,hh⟩
      ·refine Zad rfl wE rfl (fun q4=>Zan<|aT [(true,7),(false,8),(false,9),(true,10)] rfl<|Zd rfl (fun D5 hD5=>DN _ b (⟨[c0,c1,c2,c3],[k0,k1,k2,k3],mo,mi⟩:Sc) i x _ (hb0.up (hD5 _ Yf)) rfl rfl Ya9 Ya9 Yd (by show -100000≤mo∧mo≤100000;omega) (by show 0≤mi∧mi≤1000;omega) Yd)<|Za rfl<|Zao rfl<|Zao rfl<|Zan ?_);exact fun a w hh=>⟨q4,bRD,hh.weak bQ Mm5 aK⟩
     rintro q4 -;refine nT [(true,12),(false,13)] rfl<|kJ hA Yf (fun hap1=>kJ hB1 Yf fun hap2=>bGC fun hnd=>nE (off:=0) (us:=ints (rD (if jZ (⟨[c0,c1,c2,c3],[k0,k1,k2,k3],mo,mi⟩:Sc) x=true then(eM b (⟨[c0,c1,c2,c3],[k0,k1,k2,k3],mo,mi⟩:Sc) i x)else(⟨[c0,c1,c2,c3],[k0,k1,k2,k3],mo,mi⟩:Sc)))) (ws:=ints (rD (if jZ (⟨[c0,c1,c2,c3],[k0,k1,k2,k3],mo,mi⟩:Sc) x=true then(eM b (⟨[c0,c1,c2,c3],[k0,k1,k2,k3],mo,mi⟩:Sc) i x)else(⟨[c0,c1,c2,c3],[k0,k1,k2,k3],mo,mi⟩:Sc)))) rfl rfl rfl rfl (by rw[show(ints _).length=10 by simp[hif]];exact eD) .head (by simp[hif]) (by simp[hif]) (dS _) (bLY (dC.in_ (bFV hap1 hap2 hnd))) bRD<|Zf rfl<|Zan<|pQ<|Zay<|aA<|Waw ?_);refine bIU (γ:=Bool×Array MapEntry×Nat×List (xI 9×Bool)) (fun g=>g.1=bFJ b i (⟨[c0,c1,c2,c3],[k0,k1,k2,k3],mo,mi⟩:Sc) x∧R8 BH Value.bool g.2.1 g.2.2.2∧CB b g.2.2.2) (fun g=>g.1) (fun g=>[(q4,qC (ints (rD (if jZ (⟨[c0,c1,c2,c3],[k0,k1,k2,k3],mo,mi⟩:Sc) x=true then(eM b (⟨[c0,c1,c2,c3],[k0,k1,k2,k3],mo,mi⟩:Sc) i x)else(⟨[c0,c1,c2,c3],[k0,k1,k2,k3],mo,mi⟩:Sc)))) 161),(q3,qC [qI x.kind,qI x.chair,qI x.token] 298),(q2,qC [qI (i:Int),qI (min c0 1),qI (min c1 1),qI (min c2 1),qI (min c3 1),qI (min k0 1),qI (min k1 1),qI (min k2 1),qI (min k3 1)] 383),(mb,.map g.2.1 g.2.2.1)]) [(false,2),(false,3),(false,4),(false,5),(false,6),(false,7)] [] (s:=79) (p:=85) rfl rfl (fun hg1=>?_) (fun hg1=>?_) ?_
     ·have hgc:=hg1;rw[bMG hgc];refine Zb rfl<|bI (e:=161) (fz:=(0,0)) rfl kN rfl Mm0 (by rw[show(ints _).length=10 by simp[hnl]];exact eD) n4 rfl ⟨_,rfl,rfl⟩<|Zb rfl<|wJ rfl rfl rfl Ye rfl ⟨_,rfl,rfl⟩<|aY ([(_,_),(_,_),(_,_)]++[(_,_)]++([])) rfl<|gH (A:=[(_,_),(_,_),(_,_)]) (ν:=[(_,_)]) (B:=[]) rfl rfl rfl rfl (bMF rfl) aCK (fun D9 hD9=>ih (j-1) Yd (i+1) (eM b (⟨[c0,c1,c2,c3],[k0,k1,k2,k3],mo,mi⟩:Sc) i x) es2 cl2 M2 _ Yd (aUS hbo hsb x i) (HI hsp i x) (aTS hsi rfl hgc hin.2.1 (by have:=hin.2.2.1;omega)) hM2 hok2 (hb0.up (hD9 _ Yf)) (hA.up (hD9 _ Yf))) rfl ⟨_,rfl,rfl⟩ (fun v9 D10 _ hD10 hp9=>?_)
      obtain⟨rfl,es3,cl3,M3,rfl,hM3,hok3⟩:=hp9;refine Zaj rfl ?_;exact BJ fun a w hh=>⟨(_,es3,cl3,M3),⟨bFP Yl,hM3,hok3⟩,(hh.cutK 5 rfl).ds fun _ h=>bMJ _ (h)⟩
     ·refine Wbf ?_;exact BJ fun a w hh=>⟨(false,es2,cl2,M2),⟨bJN Yl,hM2,hok2⟩,hh.cutK 5 rfl⟩
     rintro⟨bm,es3,cl3,M3⟩ ⟨hbm,hM3,hok3⟩;simp only at hbm hM3 hok3;refine aF<|Zag rfl (fun hc5=>?_) fun hc5=>?_
     ·obtain rfl:bm=true:=hc5;have hres:true=nC b (b.lines.drop i) i (⟨[c0,c1,c2,c3],[k0,k1,k2,k3],mo,mi⟩:Sc):=by rw[hdr,nC,hcd,bPT];exact(bQA.2 ⟨x,n5 hx,hbm.symm⟩).symm
      refine aA<|Zf rfl<|aF<|Za5<|wH rfl<|Za1<|Za1<|Za6<|Zay<|Za2<|bS [] 3 7 48<|Za rfl ?_;refine Zal rfl<|Zj rfl x4 rfl<|Zh 5 rfl OA rfl hA rfl<|Zac rfl NQ rfl Mm2 DM<|Za rfl<|y8 (val:=BH (n:=9)) (wal:=Value.bool) (A:=[(_,_),(_,_),(_,_)]) (B:=[]) (a:=⟨[(i:Int),min c0 1,min c1 1,min c2 1,min c3 1,min k0 1,min k1 1,min k2 1,min k3 1],rfl⟩) (n:=true) rfl U305 aPT rfl rfl rfl hM3 bRD fun es9 cl9 M9 hM9 hm9=>aJ<|Za rfl<|We ?_;exact Zai [(_,_),(_,_),(_,_)] [] [_] [_] rfl ⟨rfl,bRD⟩ rfl fun D' hD=>⟨bLZ Value.bool hres,es9,cl9,M9,rfl,hM9,hok3.add hm9 rfl hsi hsp rfl hres⟩
     ·obtain rfl:bm=false:=hc5;have hgo:bFJ b i (⟨[c0,c1,c2,c3],[k0,k1,k2,k3],mo,mi⟩:Sc) x=false:=hbm.symm;refine Wca ?_;exact aL 24 (k+1,es3,cl3,M3) ⟨Yn,by simp only;rw[bLW,hx,bPJ,hno];simp[hgo],hM3,hok3⟩ Yn ⟨Ya,Ya,bRD⟩ rfl rfl (List.Sublist.cons _ (List.Sublist.cons _ Mm5)) (aK)
    ·obtain rfl:k=(cK b.chairs z).length:=by simp only at hc4;omega
     rw[bMP]at hno;have hres:false=nC b (b.lines.drop i) i (⟨[c0,c1,c2,c3],[k0,k1,k2,k3],mo,mi⟩:Sc):=by rw[hdr,nC,hcd];exact hno.symm
     refine Za5<|Za1<|Za1<|Za6<|Zay<|Za2<|bS [] 3 7 48<|Za rfl<|Zal rfl<|Zj rfl x4 rfl<|Zh 5 rfl OA rfl hA rfl<|Zac rfl NQ rfl Mm0 DM ?_;refine Za rfl<|y8 (val:=BH (n:=9)) (wal:=Value.bool) (A:=[(_,_)]) (B:=[]) (a:=⟨[(i:Int),min c0 1,min c1 1,min c2 1,min c3 1,min k0 1,min k1 1,min k2 1,min k3 1],rfl⟩) (n:=false) rfl U305 aPT rfl rfl rfl hM2 bRD fun es9 cl9 M9 hM9 hm9=>aJ<|Za rfl<|We ?_;exact Zai [(_,_)] [] [_] [_] rfl ⟨rfl,bRD⟩ rfl fun D' hD=>⟨bLZ Value.bool hres,es9,cl9,M9,rfl,hM9,hok2.add hm9 rfl hsi hsp rfl hres⟩
theorem CS(b:bA):bKC b (fH b) 0:=⟨rfl,rfl,by simp[fH],by simp[fH]⟩
theorem AO(b:bA):aMM (fH b):=⟨fun x hx=>by simp[fH]at hx;omega,fun x hx=>by simp[fH]at hx;omega⟩
theorem AT(bv:Γ)(b:bA)(D:aC)(hb:gD D bv b)(hbo:aIR b):Fn prog 105 #[bv] D (fun _ v=>v=.bool (decide (truths b≠[]))):=by
 have O:=hb;obtain⟨lv,cv,rfl,hl,hc⟩:=hb;refine Zw 10 func105 rfl fun h0=>aA<|Zy rfl fun q1 E1 hJ hB=>Zf rfl<|bW<|oT [] 3 [false,true,true,true,true,true,false,false] [.fork [0,4] 1 (.fork [2] 3 (.fin [5]) 5 (.fin [3])) 5 (.fin [1,2,3]),.fin [6,7]] bB (fun _ _ _ h=>fM (P:=prog) (fn:=f105) _ _ _ h) Yg<|sX<|bP [(false,0),(true,4)] rfl<|Zv rfl gO rfl hB fG<|Zv rfl gO rfl hB fG<|Zan (dV true true rfl rfl ?_ ?_)
 ·refine zG rfl rfl bRD (fun qm=>Zan<|bP [(true,2)] rfl<|iB (cs:=[qI b.chairs,qI b.coin,qI b.box,lv,cv,.map (some qm)]) rfl aEY aEW rfl Yg rfl bRD<|Zan (dV true true rfl rfl ?_ ?_))
  ·refine Zy rfl fun q2 E2 hE R=>Zan<|aT [(true,5)] rfl<|Zd rfl (fun D1 U=>yR _ b _ (O.up (U _ Yf)))<|Zan<|nT [(false,6),(false,7)] rfl<|gH (A:=[]) (ν:=[(_,_)]) (B:=[]) rfl rfl rfl rfl (bMF rfl) aCK (fun D9 I=>OP hbo rfl b.lines.length 0 (fH b) #[] 0 [] _ Yd (CS b) (AO b) (u7 b) rfl CB.nil (O.up (I _ Yf)) (R.up (I _ Yf))) rfl bRD fun v9 D10 _ Y V=>?_;obtain⟨rfl,hF,hH,M3,rfl,hI,Z⟩:=V;refine Zf rfl<|Zan<|pQ<|Zay<|JS ?_;exact aE rfl fun D hD=>Xck
  ·refine Zd rfl (fun D1 U=>yR _ b _ (O.up (U _ Yf)))<|Zan<|aT [(true,3)] rfl<|Zy rfl fun q2 E2 hE R=>Zan<|nT [(false,6),(false,7)] rfl<|gH (A:=[]) (ν:=[(_,_)]) (B:=[]) rfl rfl rfl rfl (bMF rfl) aCK (fun D9 I=>OP hbo rfl b.lines.length 0 (fH b) #[] 0 [] _ Yd (CS b) (AO b) (u7 b) rfl CB.nil (O.up (I _ Yf)) (R.up (I _ Yf))) rfl bRD fun v9 D10 _ Y V=>?_;obtain⟨rfl,hF,hH,M3,rfl,hI,Z⟩:=V;refine Zf rfl<|Zan<|pQ<|Zay<|JS ?_;exact aE rfl fun D hD=>Xck
 ·refine Zd rfl (fun D1 U=>yR _ b _ (O.up (U _ Yf)))<|Zan<|aT [(true,1),(true,2),(true,3)] rfl<|zG rfl rfl bRD fun qm=>iB (cs:=[qI b.chairs,qI b.coin,qI b.box,lv,cv,.map (some qm)]) rfl aEY aEW rfl Yg rfl bRD<|Zy rfl fun q2 E2 hE R=>Zan<|nT [(false,6),(false,7)] rfl<|gH (A:=[]) (ν:=[(_,_)]) (B:=[]) rfl rfl rfl rfl (bMF rfl) aCK (fun D9 I=>OP hbo rfl b.lines.length 0 (fH b) #[] 0 [] _ Yd (CS b) (AO b) (u7 b) rfl CB.nil (O.up (I _ Yf)) (R.up (I _ Yf))) rfl bRD fun v9 D10 _ Y V=>?_;obtain⟨rfl,hF,hH,M3,rfl,hI,Z⟩:=V;refine Zf rfl<|Zan<|pQ<|Zay<|JS ?_;exact aE rfl fun D hD=>Xck
theorem MB(bv:Γ)(b:bA)(fine:Bool)(D:aC)(hb:gD D bv b):Fn prog 70 #[bv,.bool fine] D (fun _ v=>v=qI (A0 b fine)):=by
 have I:=hb;obtain⟨lv,cv,rfl,hl,hc⟩:=hb;refine Zw 19 func70 rfl fun h0=>aA<|Zy rfl fun Z E1 Y O=>Zf rfl<|bG<|Zv rfl gO rfl O fG<|Zd rfl (fun D1 R=>B0 _ b _ (I.up (R _ Yf)))<|Zf rfl<|aF<|Za0<|aA<|Za rfl ?_;refine Zaw rfl<|Zf rfl<|aF<|Zag rfl (fun hc1=>?_) fun hc1=>?_
 ·refine aA<|Za rfl<|Zf rfl<|aG<|Za4<|Zaz ?_;exact aE rfl fun D hD=>by show Value.int _ _=_;rw[A0,bMG Xbe]
 ·have U:aX b=0:=by simpa using hc1
  have hbo:=bJW U;refine aA<|Za rfl<|Zas rfl<|Zf rfl<|aF<|Zag rfl (fun hc2=>?_) fun hc2=>?_
  ·refine Wm ?_;exact aE rfl fun D hD=>by show Value.int _ _=_;rw[A0,bLX Yd,bMG Yat]
  ·refine aA<|Zv rfl gO rfl O fG<|Zd rfl (fun D2 V=>AT _ b _ (I.up (V _ Yf)) hbo)<|Zas rfl<|Zf rfl<|aF<|Zag rfl (fun hc3=>?_) (fun hc3=>?_)
   ·refine Wm ?_;exact aE rfl fun D hD=>by show Value.int _ _=_;rw[A0,bLX Yd,bLX Yat,bMG Xao]
   ·refine bH<|Wz ?_;exact aE rfl fun D hD=>by show Value.int _ _=_;rw[A0,bLX Yd,bLX Yat,bLX Xao]
def p5(f:cB→Int)(t:List cB)(c:Int):Nat→Int
 |0=> -1
 |k+1=>match t[k]? with
  |some l=>if f l=c then(if l.kind=1 then(k:Int)else -1)else p5 f t c k
  |none=>p5 f t c k
theorem aFQ{f:cB→Int}{t:List cB}{c:Int}{k:Nat}{x:cB}(hx:t[k]?= some x)(h:f x=c)(h2:x.kind=1):p5 f t c (k+1)=k:=by rw[p5,hx];simp only;rw[bMG h,bMG h2]
theorem CV{f:cB→Int}{t:List cB}{c:Int}{k:Nat}{x:cB}(hx:t[k]?= some x)(h:f x=c)(h2:¬x.kind=1):p5 f t c (k+1)= -1:=by rw[p5,hx];simp only;rw[bMG h,bLX h2]
theorem zA{f:cB→Int}{t:List cB}{c:Int}{k:Nat}{x:cB}(hx:t[k]?= some x)(h:¬f x=c):p5 f t c (k+1)=p5 f t c k:=by rw[p5,hx];simp only;rw[bLX h]
def mL(b:bA)(t:List cB):Nat→Int
 |0=>b.box
 |k+1=>match t[k]? with
  |some l=>if l.kind=1 then mL b t k+b.coin else mL b t k-b.coin
  |none=>mL b t k
theorem aBH{b:bA}{t:List cB}{k:Nat}{x:cB}(hx:t[k]?= some x)(h:x.kind=1):mL b t (k+1)=mL b t k+b.coin:=by rw[mL,hx];simp only;rw[bMG h]
theorem aCY{b:bA}{t:List cB}{k:Nat}{x:cB}(hx:t[k]?= some x)(h:¬x.kind=1):mL b t (k+1)=mL b t k-b.coin:=by rw[mL,hx];simp only;rw[bLX h]
theorem aAX{b:bA}{t:List cB}(hc:0≤b.coin∧b.coin≤1000):∀k:Nat,b.box-1000*(k:Int)≤mL b t k∧mL b t k≤b.box+1000*(k:Int)
 |0=>by simp[mL]
 |k+1=>by
  have:=aAX (t:=t) hc k;rw[mL]
  push_cast
  split
  ·split<;>omega
  ·omega
theorem aUV{b:bA}{t:List cB}{k:Nat}(hc:0≤b.coin∧b.coin≤1000)(hb:0≤b.box∧b.box≤1000)(hk:k≤1000):tQ .i64 (mL b t k+b.coin)∧tQ .i64 (mL b t k-b.coin):=by
 have:=aAX (t:=t) hc k;simp only[tQ];omega
def KT(t:List cB)(j:Nat):Bool:=match t[j]? with
 |some l=>(decide (p5 cB.chair t l.chair j≥0)==decide (l.kind=2))&&(decide (p5 cB.token t l.token j≥0)==decide (l.kind=2))
 |none=>true
def sV(t:List cB)(k:Nat):Bool:=(List.range k).all (KT t)
theorem aAR(t:List cB)(k:Nat):sV t (k+1)=(sV t k&&KT t k):=by unfold sV;rw[bND,List.all_append];simp
theorem bCT{t:List cB}{k:Nat}{x:cB}(hx:t[k]?= some x)(hp:sV t k=true)(h:((!(decide (p5 cB.chair t x.chair k≥0)==decide (x.kind=2)))||(!(decide (p5 cB.token t x.token k≥0)==decide (x.kind=2))))=false):sV t (k+1)=true:=by
 rw[aAR,hp,bPT];unfold KT;rw[hx]
 revert h
 simp only;generalize decide (p5 cB.chair t x.chair k≥0)=a,decide (p5 cB.token t x.token k≥0)=c,decide (x.kind=2)=e;cases a<;>cases c<;>cases e<;>decide
theorem aWM{t:List cB}{k:Nat}{x:cB}(hx:t[k]?= some x)(hk:k<t.length)(h:((!(decide (p5 cB.chair t x.chair k≥0)==decide (x.kind=2)))||(!(decide (p5 cB.token t x.token k≥0)==decide (x.kind=2))))=true):sV t t.length=false:=by
 rw[Bool.eq_false_iff];intro e;unfold sV at e;rw[bMK]at e;have h2:=e k (bNJ.2 hk);unfold KT at h2;rw[hx]at h2
 revert h h2
 simp only;generalize decide (p5 cB.chair t x.chair k≥0)=a,decide (p5 cB.token t x.token k≥0)=c,decide (x.kind=2)=e;cases a<;>cases c<;>cases e<;>decide
theorem XA(l x:cB)(D:aC):Fn prog 150 #[GJ l,GJ x] D (fun _ v=>v=.bool (tX l x)):=by
 refine Zw 39 func150 rfl fun h0=>aA<|Zy rfl fun q1 E1 hB I=>Zy rfl fun q2 E2 hE O=>Zf rfl<|aJ<|Zj rfl rY rfl<|Zh 0 rfl aH rfl I rfl<|Was ?_;refine' dQ 6 (s:=8) (p:=14) rfl (fun R=>?_) (fun R=>?_) ?_;rotate_left
 ·refine Zk rfl rY rfl<|Zi 0 rfl aH rfl I rfl<|Zk rfl rY rfl<|Zi 0 rfl aH rfl O rfl<|Wbi ?_;exact aN 5
 ·refine Zg rfl<|Wf ?_;exact aN 5
 refine Za rfl ?_;refine' bU 11 (s:=15) (p:=26) rfl (fun U=>?_) (fun U=>?_) ?_;rotate_left
 ·refine Zk rfl yW rfl<|Zi 1 rfl aH rfl I rfl<|LB rfl rfl rfl rfl ⟨_,rfl,rfl⟩<|Zb rfl ?_;refine' dQ 6 (s:=19) (p:=25) rfl (fun V=>?_) (fun V=>?_) ?_;rotate_left
  ·refine Zk rfl yW rfl<|Zi 1 rfl aH rfl I rfl<|Zk rfl yW rfl<|Zi 1 rfl aH rfl O rfl<|Waj ?_;exact aN 5
  ·refine Zg rfl<|Zg rfl<|Zg rfl<|Ws ?_;exact aN 5
  refine Zaj rfl ?_;exact aN 5
 ·refine Zg rfl<|Zg rfl<|Zg rfl<|Zg rfl<|Wo ?_;exact aN 10
 refine Za rfl ?_;refine' bU 11 (s:=27) (p:=38) rfl (fun Y=>?_) (fun Y=>?_) ?_;rotate_left
 ·refine Zk rfl rJ rfl<|Zi 2 rfl aH rfl I rfl<|LB rfl rfl rfl rfl ⟨_,rfl,rfl⟩<|Zb rfl ?_;refine' dQ 6 (s:=31) (p:=37) rfl (fun Z=>?_) (fun Z=>?_) ?_;rotate_left
  ·refine Zk rfl rJ rfl<|Zi 2 rfl aH rfl I rfl<|Zk rfl rJ rfl<|Zi 2 rfl aH rfl O rfl<|Waj ?_;exact aN 5
  ·refine Zg rfl<|Zg rfl<|Zg rfl<|Ws ?_;exact aN 5
  refine Zaj rfl ?_;exact aN 5
 ·refine Zg rfl<|Zg rfl<|Zg rfl<|Zg rfl<|Wo ?_;exact aN 10
 refine We ?_;exact aE rfl fun D hD=>rfl
theorem bED(tv:Γ)(t:List cB)(n:Nat)(c:Int)(D:aC)(ht:Sl D kE 3 tv t)(hn:n≤t.length)(h8:t.length≤1000):Fn prog 87 #[tv,qI (n:Int),qI c] D (fun _ v=>v=qI (p5 cB.chair t c n)):=by
 refine Zw 29 func87 rfl fun h0=>aA<|Zf rfl<|aJ<|Zf rfl<|bG<|Zf rfl<|aF<|Za0<|bK (γ:=Nat) (fun k=>n-k) (fun k=>k≤n) (fun k=>[(7,qI (p5 cB.chair t c k)),(8,qI (k:Int))]) [(6,_),(0,_),(1,_),(2,_)] (fun k=>[D]) 0 Yd ⟨Ya,Ya,bRD⟩ bQ (aK) ?_;rintro k h1;refine bZ<|Za rfl<|Za rfl<|Zam rfl<|aF<|Zaf rfl (fun hc1=>?_) fun hc1=>?_
 ·have hk:k<t.length:=by omega
  obtain⟨x,hx⟩:=cR t k;refine aQ<|Za2<|Za0<|aA<|Za rfl<|Za rfl<|Zx rfl U43 eQ rfl ht rfl hx fun b1 o1 I O Z R=>?_;obtain rfl:I=[qI _,qI _,qI _]:=O;refine Zj rfl yW rfl<|Zh 1 rfl aH rfl R rfl<|Za rfl<|Zap rfl<|aF<|Zaf rfl (fun hc2=>?_) fun hc2=>?_
  ·refine aA<|Zf rfl<|aJ<|Za rfl<|Za rfl<|Zx rfl U43 eQ rfl ht rfl hx fun b2 o2 U V hB Y=>?_;obtain rfl:U=[qI _,qI _,qI _]:=V;refine Zj rfl rY rfl<|Zh 0 rfl aH rfl Y rfl<|Zap rfl<|aF<|Zaf rfl (fun hc3=>?_) (fun hc3=>?_)
   ·refine aP<|Za rfl<|Wt ?_;exact Zn 24 (k+1) ⟨(by rw[aFQ hx hc2 hc3];rfl),Ya,bRD⟩ rfl Mm5
   ·refine Wbs ?_;exact Zn 22 (k+1) ⟨(by rw[CV hx hc2 hc3];rfl),Ya,bRD⟩ rfl Mm5
  ·refine Wbs ?_;exact Zn 15 (k+1) ⟨(by rw[zA hx hc2];rfl),Ya,bRD⟩ rfl Mm5
 ·obtain rfl:k=n:=by omega
  refine Wl ?_;exact aE rfl fun D hD=>rfl
theorem bDA(tv:Γ)(t:List cB)(n:Nat)(c:Int)(D:aC)(ht:Sl D kE 3 tv t)(hn:n≤t.length)(h8:t.length≤1000):Fn prog 88 #[tv,qI (n:Int),qI c] D (fun _ v=>v=qI (p5 cB.token t c n)):=by
 refine Zw 29 func88 rfl fun h0=>aA<|Zf rfl<|aJ<|Zf rfl<|bG<|Zf rfl<|aF<|Za0<|bK (γ:=Nat) (fun k=>n-k) (fun k=>k≤n) (fun k=>[(7,qI (p5 cB.token t c k)),(8,qI (k:Int))]) [(6,_),(0,_),(1,_),(2,_)] (fun k=>[D]) 0 Yd ⟨Ya,Ya,bRD⟩ bQ (aK) ?_;rintro k h1;refine bZ<|Za rfl<|Za rfl<|Zam rfl<|aF<|Zaf rfl (fun hc1=>?_) fun hc1=>?_
 ·have hk:k<t.length:=by omega
  obtain⟨x,hx⟩:=cR t k;refine aQ<|Za2<|Za0<|aA<|Za rfl<|Za rfl<|Zx rfl U43 eQ rfl ht rfl hx fun b1 o1 I O Z R=>?_;obtain rfl:I=[qI _,qI _,qI _]:=O;refine Zj rfl rJ rfl<|Zh 2 rfl aH rfl R rfl<|Za rfl<|Zap rfl<|aF<|Zaf rfl (fun hc2=>?_) fun hc2=>?_
  ·refine aA<|Zf rfl<|aJ<|Za rfl<|Za rfl<|Zx rfl U43 eQ rfl ht rfl hx fun b2 o2 U V hB Y=>?_;obtain rfl:U=[qI _,qI _,qI _]:=V;refine Zj rfl rY rfl<|Zh 0 rfl aH rfl Y rfl<|Zap rfl<|aF<|Zaf rfl (fun hc3=>?_) (fun hc3=>?_)
   ·refine aP<|Za rfl<|Wt ?_;exact Zn 24 (k+1) ⟨(by rw[aFQ hx hc2 hc3];rfl),Ya,bRD⟩ rfl Mm5
   ·refine Wbs ?_;exact Zn 22 (k+1) ⟨(by rw[CV hx hc2 hc3];rfl),Ya,bRD⟩ rfl Mm5
  ·refine Wbs ?_;exact Zn 15 (k+1) ⟨(by rw[zA hx hc2];rfl),Ya,bRD⟩ rfl Mm5
 ·obtain rfl:k=n:=by omega
  refine Wl ?_;exact aE rfl fun D hD=>rfl
theorem aFV(bv tv:Γ)(b:bA)(t:List cB)(n:Nat)(D:aC)(hb:gD D bv b)(ht:Sl D kE 3 tv t)(hn:n≤t.length)(h8:t.length≤1000)(hco:0≤b.coin∧b.coin≤1000)(hbx:0≤b.box∧b.box≤1000):Fn prog 40 #[bv,tv,qI (n:Int)] D (fun _ v=>v=qI (mL b t n)):=by
 obtain⟨lv,cv,rfl,hl,hc⟩:=hb;refine Zw 31 func40 rfl fun h0=>aA<|Zy rfl fun Z E1 Y I=>Zf rfl<|aJ<|Zj rfl aMS rfl<|Zh 2 rfl aH rfl I rfl<|Zf rfl<|bG<|Zf rfl<|aF<|Za0 ?_;refine bK (γ:=Nat) (fun k=>n-k) (fun k=>k≤n) (fun k=>[(7,qI (mL b t k)),(8,qI (k:Int))]) [(6,_),(3,_),(1,_),(2,_)] (fun k=>[E1,D]) 0 Yd ⟨Ya,Ya,bRD⟩ bQ (aK) ?_;rintro k h1;refine bZ<|Za rfl<|Za rfl<|Zam rfl<|aF<|Zaf rfl (fun hc1=>?_) fun hc1=>?_
 ·have hk:k<t.length:=by omega
  obtain⟨x,hx⟩:=cR t k;refine aQ<|Za2<|Za0<|aA<|Za rfl<|Za rfl<|Zx rfl U43 eQ rfl ht rfl hx fun b1 o1 O R V U=>?_;obtain rfl:O=[qI _,qI _,qI _]:=R;refine Zj rfl rY rfl<|Zh 0 rfl aH rfl U rfl<|Zap rfl<|aF<|Zaf rfl (fun hc2=>?_) fun hc2=>?_
  ·refine aP<|Za rfl<|Zj rfl TQ rfl<|Zh 1 rfl aH rfl I rfl<|wJ rfl rfl rfl (aUV hco hbx Yd).1 rfl bRD<|Zf rfl<|Wbd ?_;refine Wbl ?_;exact Zn 19 (k+1) ⟨(by rw[aBH hx hc2];rfl),Ya,bRD⟩ rfl Mm5
  ·refine aP<|Za rfl<|Zj rfl TQ rfl<|Zh 1 rfl aH rfl I rfl<|xF rfl rfl rfl (aUV hco hbx Yd).2 rfl bRD<|Zf rfl<|Wbd ?_;refine Wbl ?_;exact Zn 19 (k+1) ⟨(by rw[aCY hx hc2];rfl),Ya,bRD⟩ rfl Mm5
 ·obtain rfl:k=n:=by omega
  refine Wl ?_;exact aE rfl fun D hD=>rfl
theorem aKL(tv:Γ)(t:List cB)(D:aC)(ht:Sl D kE 3 tv t)(h8:t.length≤1000):Fn prog 36 #[tv] D (fun _ v=>v=.bool (sV t t.length)):=by
 refine Zw 45 func36 rfl fun h0=>aA<|Zf rfl<|bG<|Zf rfl<|aF<|Za0<|bK (γ:=Nat) (fun k=>t.length-k) (fun k=>k≤t.length∧sV t k=true) (fun k=>[(3,qI (k:Int))]) [(2,_),(0,_)] (fun k=>[D]) 0 ⟨Yf,rfl⟩ ⟨Ya,bRD⟩ bQ (aK) ?_;rintro k ⟨h1,hp⟩;refine bZ<|Za rfl<|Za rfl<|Zah rfl U43 rfl ht rfl<|Zam rfl<|aF<|Zaf rfl (fun hc1=>?_) fun hc1=>?_
 ·have hk:k<t.length:=by omega
  obtain⟨x,hx⟩:=cR t k;refine aQ<|Za2<|Za0<|Za2<|iK [] 2 [0,1,2,3,4,5,6,9,10,11,12,13,14,15,7,8,16,17,18,19] [false,true,true,true,true,true,true,true,true,true,true,true,true,true,true,true,true,true,true,false] [(false,0),(true,1),(true,2),(true,3),(true,4),(true,5),(true,6),(true,9),(true,10),(true,11),(true,12),(true,13),(true,14),(true,15),(true,7),(true,8),(true,16),(true,17),(true,18),(false,19)] bB (fun _ _ _ h=>fM (P:=prog) (fn:=f36) _ _ _ h) Yg rfl<|Za rfl<|Za rfl<|Za rfl<|Za rfl<|Zx rfl U43 eQ rfl ht rfl hx fun b1 o1 I O hJ R=>?_;obtain rfl:I=[qI _,qI _,qI _]:=O;refine Zj rfl yW rfl<|Zh 1 rfl aH rfl R rfl<|Za rfl<|Za rfl<|Za rfl<|Za rfl<|Zx rfl U43 eQ rfl ht rfl hx fun b2 o2 U V hK Y=>?_;obtain rfl:U=[qI _,qI _,qI _]:=V;refine Zj rfl rJ rfl<|Zh 2 rfl aH rfl Y rfl<|Zd rfl (fun D1 Z=>bED _ t k _ _ (ht.up kE.up (Z _ Yf)) Yd h8)<|jT rfl rfl rfl rfl bRD<|Zd rfl (fun D2 hB=>bDA _ t k _ _ (ht.up kE.up (hB _ Yf)) Yd h8)<|jT rfl rfl rfl rfl bRD<|Zf rfl<|Zf rfl<|aJ<|Za rfl<|Za rfl<|Zx rfl U43 eQ rfl ht rfl hx fun b3 o3 hE hF hN hH=>?_;obtain rfl:hE=[qI _,qI _,qI _]:=hF;refine Zj rfl rY rfl<|Zh 0 rfl aH rfl hH rfl<|Zap rfl<|Zf rfl<|aJ<|Za rfl<|Za rfl<|u0 rfl U4 rfl rfl rfl bRD<|Za rfl ?_;refine' dQ 4 (s:=40) (p:=44) rfl (fun hI=>?_) (fun hI=>?_) ?_;rotate_left
  ·refine Zb rfl<|Zb rfl<|u0 rfl U4 rfl rfl rfl ⟨_,rfl,rfl⟩<|Zak rfl ?_;exact aN 3
  ·refine Wbo ?_;exact aN 3
  refine aF<|Zag rfl (fun hc2=>?_) fun hc2=>?_
  ·refine aA<|Wh ?_;exact aE rfl fun D hD=>by show Value.bool _=_;rw[aWM hx hk hc2]
  ·refine Wbs ?_;exact aL 40 (k+1) ⟨Yd,bCT hx hp hc2⟩ Yd ⟨Ya,bRD⟩ rfl rfl Mm5 (aK)
 ·obtain rfl:k=t.length:=by omega
  refine Wk ?_;exact aE rfl fun D hD=>by show Value.bool _=_;rw[hp]
theorem aHL(l:List cB)(c:cB):uC (l++[c])=uC l++[qI c.kind,qI c.chair,qI c.token]:=by simp[uC]
def bAR(l:List Cn):List Γ:=l.flatMap fun x=>[qI x.after,qI x.lo,qI x.hi]
theorem bBY(l:List Cn):(bAR l).length=l.length*3:=by
 induction l with
 |nil=>rfl
 |cons c l ih=>unfold bAR at ih ⊢;rw[bMS,bLT,ih];simp only[bLU,bNU];omega
theorem bAP{l:List Cn}{i:Nat}{c:Cn}(hi:l[i]?= some c):((bAR l).drop (i*3)).take 3=[qI c.after,qI c.lo,qI c.hi]:=by
  induction l generalizing i with
  |nil=>simp at hi
  |cons d l ih=>
    unfold bAR at ih ⊢
    rw[bMS];cases i with
    | zero => obtain rfl : d = c := by simpa using hi
              rfl
    |succ i=>
      rw[bPZ,bNK Yap,bMW];have:(i+1)*3- [Value.int .i64 d.after,Value.int .i64 d.lo,Value.int .i64 d.hi].length=i*3:=by simp;omega
      rw[this];exact ih Yas
theorem _root_.Go.Fs.kH.cns{D:aC}{v:Γ}{n:Nat}{l:List Cn}(hF:kH D v n (bAR l))(hn:l.length=n)(hb:n≤9223372036854775807):Sl D vY 3 v l:=
 hF.sl hn hb fun _i _t hi=>⟨_,rfl,rfl,bAP hi⟩
theorem GR{a c:Γ}{x y z:Int}(ha:∀u∈[a],cell1 u=true)(hb:∀u∈[c],cell1 u=true):∀u∈[qI x,qI y,qI z,a,c],cell1 u=true:=by
 intro u hu;simp only[bLO,n4,bNV]at hu;rcases hu with rfl|rfl|rfl|rfl|rfl
 ·rfl
 ·rfl
 ·rfl
 ·exact ha _ bLP
 ·exact hb _ bLP
end L3
open Go.ChangeShapes Go.WideShapes Go.RowKit
def R9(W:Δ):aC:=fun b=>match W.heap[b]? with
 |some (.cells cs _ _)=>cs.toList
 |_=>[]
theorem UH(W:Δ){cs:Array Γ}{e:Θ}{fz:Nat×Nat}(h0:W.heap[0]?= some (.cells cs e fz))(hne:cs.toList≠[]):fR (R9 W) W:=by
 have hf:R9 W 0=cs.toList:=by unfold R9;rw[h0]
 refine⟨?_,by rw[hf];exact hne,e,fz,by rw[hf];exact h0⟩;intro b hb;unfold R9 at hb ⊢
 split at hb
 ·rename_i cs e fz h;exact⟨cs,e,fz,h,List.prefix_refl _⟩
 ·exact absurd rfl hb
theorem P6{W:Δ}{b i:Nat}{v:Γ}(h:W.cell? ⟨b,i,none⟩=some v):(R9 W b)[i]?= some v:=by
 unfold World.cell? at h;unfold R9;split at h
 ·rename_i cs e fz hb;simp only at hb;rw[hb];simpa using h
 ·cases h
structure US(W W':Δ):Prop where
 env:QT W'=QT W
 size:W.heap.size≤W'.heap.size
 old:∀b,b<W.heap.size→W'.heap[b]?= W.heap[b]?
theorem US.but{W W':Δ}(h:US W W')(may:MemPlace→Prop):W.keptBut W' may:=by
 refine⟨bLZ Prod.fst h.env,bLZ Prod.snd h.env,fun i hi=>?_⟩;rw[h.old i hi];cases W.heap[i]? with
 |none=>rfl
 |some o=>cases o<;>first|exact⟨rfl,rfl,rfl,fun _ _=>rfl⟩|exact Or.inr ⟨rfl,rfl⟩|rfl
theorem US.frozen{W W':Δ}(h:US W W'){a:Addr}(hl:a.block<W.heap.size):W'.frozen? a=W.frozen? a:=by
 unfold World.frozen?;rw[h.old _ hl]
theorem US.same{W W':Δ}(h:US W W'){p:MemPlace}(hp:p.block<W.heap.size):W.sameAt W' p:=by
 cases p with
 |cell b off=>
  simp only[World.sameAt,World.cell?];rw[h.old b hp]
 |map b=>exact h.old b hp
theorem Fn.calls{P:Program}{f:FuncId}{args:Array Γ}{D:aC}{post:aC→Γ→Prop}(h:Fn P f args D post){W:Δ}(hD:fR D W):
  Calls P f args W fun e W'=>∃v D',e=.returned v∧post D' v∧US W W':=
 (h.2 W hD).mono (by
  rintro e W' ⟨v,D',he,hs,hp⟩;exact⟨v,D',he,hp,hs.env _ rfl,hs.size,fun b hb=>hs.old b hb Yf⟩)
section
variable{H:Type}{enc:Θ×Γ→H}{P:Program}
theorem U0(hl:laidOutB P=true){W W':Δ}{sp:Nat→Bool}:∀(ts:List Θ) (vs:List Γ) (ds:List (DataW H)) (ps:List MemPlace),(∀t∈ts,P.readableRec t=true∧t<P.types.size)→
  DataW.TrodAll enc P W 0 (fun _=>true) true ts vs ds ps→(∀p∈ps,W.sameAt W' p)→(∀p∈ps,sp p.block=true)→DataW.TrodAll enc P W' 0 sp true ts vs ds ps
 | [],vs,ds,ps,_,h,_,_=>by
  obtain⟨rfl,rfl,rfl⟩:=trodAll_nil h;exact trodAll_mk0
 |t::ts,vs,ds,ps,hr,h,hsame,hs=>by
  obtain⟨v,vs',d,ds',p,q,rfl,rfl,rfl,h1,h2⟩:=trodAll_cons h;exact trodAll_cons_mk (WideElems.Trod_stays hl (hr t bLP).1 (hr t bLP).2 h1 (fun x hx=>hsame x (bMA _ hx)) fun x hx=>hs x (bMA _ hx))
   (U0 hl ts vs' ds' q (fun u hu=>hr u (LE _ hu)) h2 (fun x hx=>hsame x (GT _ hx)) fun x hx=>hs x (GT _ hx))
theorem aKT{f:Func}{s:ChangeSpec}{apart fresh handsOn again:Bool}{W W':Δ}{args:Array Γ}{v:Γ}{ds gs:List (DataW H)}{before pa pv:List MemPlace}(hW:DataW.Whole enc P f.params.toList s.vars apart W args.toList ds gs before)
  (hres:∀(b:Nat) (sp:Nat→Bool) (hd:Bool),DataW.TrodAll enc P W' b sp hd f.resultTypes.toList (v.resultList f.resultTypes.size) (s.fn H (ds++gs)).results [])
  (hargs:∀sp:Nat→Bool,(∀p∈before,sp p.block=true)→DataW.TrodAll enc P W' 0 sp true f.params.toList args.toList (s.fn H (ds++gs)).args pa)
  (hvars:∀sp:Nat→Bool,(∀p∈before,sp p.block=true)→DataW.TrodVars enc P W' sp s.vars (s.fn H (ds++gs)).vars pv)
  (hps:before=pa++pv) (hk:W.keptBut W' (· ∈before)) (hfz:∀a:Addr,a.block<W.heap.size→W'.frozen? a=W.frozen? a)
  (hok:∀(j:Nat) (t:Θ) (r:Γ),f.resultTypes[j]?= some t→(v.resultList f.resultTypes.size)[j]?= some r→Value.okWide P W' .any 0 t r):s.post enc P f apart fresh handsOn again W args v W':=by
 have hold:∀p∈before,(fun b=>decide (b<W.heap.size)) p.block=true:=fun p hp=>by simpa using hW.lt p hp
 have hlt:=hW.lt;refine⟨ds,gs,before,[],pa,pv,hW,hres _ _ _,hargs _ hold,hvars _ hold,World.keptBut_mono (fun p hp=>⟨hp,bLY (by rwa [hps,bMD]at hp)⟩) hk,fun _=>?_⟩;obtain⟨_,_,_,_,_,hz,hn⟩:=hW;refine⟨hok,_,_,([]++pa)++pv,⟨[]++pa,pv,trodAll_append (hargs _ fun _ _=>rfl) (hres _ _ _),hvars _ fun _ _=>rfl,rfl,fun b off hp=>?_,fun ha=>?_⟩,fun p hp _=>?_⟩
 ·have hb:MemPlace.cell b off∈before:=by rw[hps];simpa using hp
  rw[hfz _ (by simpa [MemPlace.block]using hlt _ hb)];exact hz b off hb
 ·have:=hn ha;rw[hps]at this;simpa using this
 ·rw[hps];simpa using hp
theorem aSI{f:Func}{s:ChangeSpec}{tb:Θ}{W W':Δ}{args:Array Γ}{ds gs:List (DataW H)}{before:List MemPlace}(hl:laidOutB P=true)(hp:(f.params.toList.all fun t=>P.readableRec t&&decide (t<P.types.size))=true)(hvars:s.vars=[])
  (hres:f.resultTypes=#[tb]) (htb:P.underlying tb=some .bool) (hW:DataW.Whole enc P f.params.toList s.vars false W args.toList ds gs before) (hs:s.fn H (ds++gs)={results:=[.lit (.bool true)],args:=ds}) (hk:US W W'):
  s.post enc P f false true false false W args (.bool true) W':=by
 have hlt:=hW.lt;have hW':=hW;obtain⟨p,q,hA,hV,rfl,hfz,hnd⟩:=hW';rw[hvars]at hV;obtain⟨_,rfl⟩:=trodVars_none hV;refine aKT (pa:=p) (pv:=[]) hW (fun b sp hd=>?_) (fun sp hsp=>?_) (fun sp _=>?_) rfl (hk.but _) (fun _=>hk.frozen) (ok_one hres rfl (okWide_bool_mk htb true))
 ·rw[hs,hres];exact trodAll_mk1 (shut_bool htb true)
 ·rw[hs];refine U0 hl _ _ _ _ (fun t ht=>?_) hA (fun x hx=>hk.same (hlt x (bMA _ hx))) fun x hx=>hsp x (bMA _ hx);have:=bMK.1 hp t ht;simpa using this
 ·rw[hs,hvars];rfl

def Z0(P:Program)(t:Θ){α:Type}(R:Rd α):Prop:=∀{H:Type} (enc:Θ×Γ→H) (W:Δ) (n:Nat) (cs:List Γ) (x:DataW H×List MemPlace),DataW.trod enc P W 0 (fun _=>true) true n t cs=some x→∃a,R (R9 W) a cs
def bLK{α:Type}(R:Rd α)(sz:Nat):Rd (List α):=fun D xs cs=>∃v,cs=[v]∧Sl D R sz v xs
theorem Z0.slice{t e:Θ}{sz:Nat}{α:Type}{R:Rd α}(ht:P.underlying t=some (.slice e))(hc:P.cellsOf e=sz)(hpos:0<sz)(hel:Z0 P e R):Z0 P t (bLK R sz):=fun {H} enc W fuel cs x hx=>by
 rcases DataW.trod_slice ht hx with⟨rfl,_⟩|⟨a,len,cap,elems,rest,n,_,rfl,_,_,hl,hm,hlen,hel',_,_⟩
 ·exact⟨[],_,rfl,Sl.nil⟩
 have hm':cap≤9223372036854775807:=by simpa [maxLen]using hm
 have key:∀i,i<len→∃cs,(∃y,R (R9 W) y cs)∧cs.length=sz∧∀j,j<sz→W.cell? ((a.add (i*sz)).add j)=cs[j]? :=by
  intro i hi;have h1:=hel' i hi;rw[bLR Yd,hc]at h1;simp only[Option.bind_eq_some_iff]at h1;obtain⟨cs,h2,h3⟩:=h1;obtain⟨_,h4,h5⟩:=World.cells?_some h2;exact⟨cs,hel enc W n cs _ h3,h4,h5⟩
 by_cases h0:len=0
 ·subst h0;exact⟨[],_,rfl,some a,cap,rfl,bRB _,Yf,bMF rfl⟩
 have hspot:a=⟨a.block,a.off,none⟩:=by
  obtain⟨cs,_,h2,h3⟩:=key 0 Yd;have h4:=h3 0 hpos;rw[bPY]at h4;simp only[Addr.add,bOC]at h4;rw[bLR (show 0<cs.length by omega)]at h4;unfold World.cell? at h4;split at h4
  ·split at h4
   ·cases h4
   ·rename_i hs;obtain⟨b,o,s⟩:=a;cases s with
    |none=>rfl
    |some=>simp at hs
  ·cases h4
 have pick:∃ys:List α,ys.length=len∧∀i y,ys[i]?= some y→∃cs,R (R9 W) y cs∧cs.length=sz∧∀j,j<sz→W.cell? ((a.add (i*sz)).add j)=cs[j]? :=by
  refine⟨List.ofFn fun i:Fin len=>(key i.1 i.2).choose_spec.1.choose,Yf,fun i y hy=>?_⟩;rw[List.getElem?_ofFn]at hy;split at hy
  ·rename_i hi;cases hy;exact⟨_,(key i hi).choose_spec.1.choose_spec,(key i hi).choose_spec.2.1,(key i hi).choose_spec.2.2⟩
  ·cases hy
 obtain⟨ys,hys,hy⟩:=pick;refine⟨ys,_,rfl,some a,cap,by rw[hys],Yd,Yd,bLY ⟨a.block,a.off,by rw[←hspot],fun i y hi=>?_⟩⟩;obtain⟨cs,h1,h2,h3⟩:=hy i y hi;refine⟨cs,h1,h2,fun j v hj=>?_⟩;have hjl:=(bLS.1 hj).1;have h4:=h3 j Yd;rw[hj,hspot,gY,gY]at h4;exact P6 h4
theorem Z0.trod{t:Θ}{α:Type}{R:Rd α}(h:Z0 P t R){W:Δ}{v:Γ}{d:DataW H}{ps:List MemPlace}(hd:DataW.Trod enc P W 0 (fun _=>true) true t v d ps):∃a,R (R9 W) a v.cells.toList:=by
 obtain⟨fuel,hf⟩:=hd;exact h enc W fuel _ _ hf
theorem YG{t e:Θ}{α:Type}{R:Rd α}{sz:Nat}(ht:P.underlying t=some (.slice e))(h:Z0 P t (bLK R sz)){W:Δ}{r:Reach}{I:Nat}{v:Γ}{d:DataW H}{ps:List MemPlace}(hval:Value.okWide P W r I t v)(hd:DataW.Trod enc P W 0 (fun _=>true) true t v d ps):
  ∃xs,Sl (R9 W) R sz v xs:=by
 obtain⟨a,len,cap,rfl⟩:=okWide_slice ht hval;obtain⟨xs,u,hc,hs⟩:=h.trod hd;simp only[Value.cells,bOH,and_true]at hc;exact⟨xs,by rw[hc];exact hs⟩
end
namespace L3
open L1
open C3
end L3
end Go.Fs
